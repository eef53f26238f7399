-- Written by a program of this session out of the translation (a printer). Lean checks it.
import Derived.Test.YtjolmhokeceljaaProg
import Derived.Below
import Derived.Deep.Draws
import Derived.Deep.AppendLies
import Derived.Maps.AppendAt
import Derived.OwnWalk
import Derived.Laws.BytesArg
import Derived.Laws.MakeOwn
import Derived.Laws.OwnMore
import Derived.Deep.OwnRows
import Derived.Tactics
import Derived.Lib.ConvBytes
import Derived.Laws.Slices
import Derived.WalkKit
import Derived.KernelRfl
import Derived.RowKit3
import Derived.Deep.LoopGhost
import Derived.Deep.QuietTactic
import Derived.BigQuiet
import Derived.WideLaws
import Derived.Deep.DeepCutAuto
import Derived.Deep.CutBlock
import Derived.Deep.RegionHeld3
import Derived.Laws.Rows
import Derived.Lib.AppendStr
import Derived.ArgAppend
import Derived.Laws.IdiomCopy
import Derived.OrdersHeld
import Derived.Laws.BitsLemmas
import Derived.RowKit
import Derived.Test.YtjolmhokeceljaaNormW
import Derived.Test.YtjolmhokeceljaaWWords
import Derived.Test.YtjolmhokeceljaaWLast
import Derived.Test.YtjolmhokeceljaaWTab
import Derived.Test.YtjolmhokeceljaaWQPut
import Derived.Test.YtjolmhokeceljaaWApart
import Derived.Test.YtjolmhokeceljaaWArr
import Derived.Test.YtjolmhokeceljaaWZeros
import Derived.Test.YtjolmhokeceljaaWFoot
import Derived.Test.YtjolmhokeceljaaWKept
import Derived.Test.YtjolmhokeceljaaWShare
import Derived.Test.YtjolmhokeceljaaWN
import Derived.Test.YtjolmhokeceljaaWRepsOne
import Derived.Test.YtjolmhokeceljaaWGuard
import Derived.Test.YtjolmhokeceljaaWNEv
import Derived.Test.YtjolmhokeceljaaWMore
namespace Go.Proofs.Ytjolmhokeceljaa.LnS
open Go.RowKit Go.Proofs.Ytjolmhokeceljaa.Own Go.Proofs.YtjolmhokeceljaaW.PrintWords Go.Proofs.YtjolmhokeceljaaW.PrintLast Go.Proofs.YtjolmhokeceljaaW.PrintMore
attribute [local go_sem] max2_int min2_int max_two min_two max_three min_three max_four min_four   -- for this text's walks alone
set_option linter.unusedVariables false
set_option linter.unusedSimpArgs false
abbrev RE := @Kd.R_elder'
abbrev RN := @Kd.R_new'
abbrev RB := @Kd.R_base
abbrev RL := @Kd.R_lt
abbrev RR := @Kd.R_reads'
abbrev RW := @Kd.R_lower
abbrev RS := @Kd.R_slice
abbrev CD := @Kd.C_drewN
abbrev sA := @List.setIfInBounds_toArray
abbrev sZ := @List.set_cons_zero
abbrev sS := @List.set_cons_succ
abbrev lA := @List.map_toArray
abbrev lC := @List.map_cons
abbrev lN := @List.map_nil
abbrev lT := @List.length_take
abbrev lD := @List.length_drop
theorem A0 {p : Prop} (h : p) : Aside0 p := ⟨h⟩



def errW : Option Int → Value
 | none => .nilIface
 | some c => .iface 0 (.int .i64 c)
theorem errW_none : errW none = .nilIface := rfl
theorem errW_some (c : Int) : errW (some c) = .iface 0 (.int .i64 c) := rfl

theorem info3 : (Try.prog.info? 3).map (fun i => (i.zero, i.size, i.bytes)) = some (some (.int .i64 0), 1, 8) := by kernel_rfl
-- the values' own types

end Go.Proofs.Ytjolmhokeceljaa.LnS

namespace Go.Proofs.Ytjolmhokeceljaa.LnS
open Go.RowKit Go.Proofs.Ytjolmhokeceljaa.Own Go.Proofs.YtjolmhokeceljaaW.PrintWords Go.Proofs.YtjolmhokeceljaaW.PrintLast Go.Proofs.YtjolmhokeceljaaW.PrintMore
abbrev mk_LnS1_0 : Array Bool := #[false, false, false, false, false, false, false, false, false, false, false, false]
abbrev mk_LnS1_1 : Array Bool := #[true, false, false, false, false, false, false, false, false, false, false, false]
abbrev mk_LnS1_2 : Array Bool := #[true, true, false, false, false, false, false, false, false, false, false, false]
abbrev mk_LnS1_3 : Array Bool := #[true, true, false, true, false, false, false, false, false, false, false, false]
abbrev mk_LnS1_4 : Array Bool := #[true, true, false, true, true, false, false, false, false, false, false, false]
abbrev mk_LnS1_5 : Array Bool := #[true, true, true, true, true, false, false, false, false, false, false, false]
abbrev mk_LnS1_6 : Array Bool := #[true, true, true, true, true, true, false, false, false, false, false, false]
abbrev mk_LnS1_7 : Array Bool := #[true, true, true, true, true, true, true, false, false, false, false, false]
abbrev mk_LnS1_8 : Array Bool := #[true, true, true, true, true, true, true, true, false, false, false, false]
abbrev mk_LnS1_9 : Array Bool := #[true, true, true, true, true, true, true, true, true, false, false, false]
abbrev mk_LnS1_10 : Array Bool := #[true, true, true, true, true, true, true, true, true, true, false, false]
abbrev mk_LnS1_11 : Array Bool := #[true, true, true, true, true, true, true, true, true, true, true, false]
abbrev mk_LnS1_12 : Array Bool := #[true, true, true, true, true, true, true, true, true, true, true, true]
attribute [local go_sem] max2_int min2_int max_two min_two max_three min_three max_four min_four   -- for this text's walks alone
set_option linter.unusedVariables false
set_option linter.unusedSimpArgs false

/-! ### sobriquetlaw11_NormScalars: function 19 -/
def sobriquetlaw11_NormScalars.f (a0 : Int) : Option (Bool) := (norm_Form.f (([a0] : List Int)) false).bind fun t104 => ((norm_Apart.f (([a0] : List Int)) false).bind fun t110 => ((norm_Apart.f t104 false).bind fun t113 => ((sobriquetkeep_Ints.f t113 t110).bind fun t116 => (if t116 = true then ((ucd_Canon.f a0).bind fun t117 => (if (t117.length : Int) = 0 then ((sobriquetkeep_Ints.f t104 (([a0] : List Int))).bind fun t123 => (if t123 = true then ((sobriquetlaw11_wakes.f).bind fun t124 => (some t124)) else (some false))) else (if (t117.length : Int) = 1 then ((sobriquetkeep_Ints.f t104 (([a0] : List Int))).bind fun t128 => (if t128 = true then (some false) else ((sobriquetlaw11_wakes.f).bind fun t129 => (some t129)))) else (if 0 < (t117.length : Int) then (if 1 < (t117.length : Int) then ((ucd_Pair.f (rd t117 0) (rd t117 1)).bind fun bt132 => ((sobriquetkeep_Ints.f t104 (([a0] : List Int))).bind fun t137 => (if bt132.2 = true then (if (t137 == (bt132.1 == a0)) = true then ((sobriquetlaw11_wakes.f).bind fun t138 => (some t138)) else (some false)) else (if (t137 == false) = true then ((sobriquetlaw11_wakes.f).bind fun t139 => (some t139)) else (some false))))) else (none)) else (none))))) else (some false)))))
def sobriquetlaw11_NormScalars.T9 : Bool × List (List Nat × List Nat) := (true, [([], []), ([0], [0]), ([1], [1]), ([], []), ([3], [3]), ([4], [4]), ([2, 5], [2, 5]), ([6], [6]), ([7], [7]), ([7], [7]), ([8, 6, 0, 1, 2, 3, 4, 5, 6, 7, 8], [8]), ([9, 10, 0, 1, 2, 3, 4, 5, 6, 7, 8, 9, 10], [9])])
def sobriquetlaw11_NormScalars.B9 : List Nat := [0, 1, 3, 0, 8, 24, 63, 127, 255, 255, 511, 2047]
theorem sobriquetlaw11_NormScalars.tab9 : rtab .any (opsOf Try.f19 9) = sobriquetlaw11_NormScalars.T9 := by kernel_rfl
theorem sobriquetlaw11_NormScalars.bits9 : waitsOk sobriquetlaw11_NormScalars.T9.2 sobriquetlaw11_NormScalars.B9 = true := by kernel_rfl
set_option maxHeartbeats 8000000 in
set_option maxRecDepth 100000 in
theorem sobriquetlaw11_NormScalars.calls (a0 : Int) (r : Bool) (w : World) (h : sobriquetlaw11_NormScalars.f a0 = some r) :
  Calls Try.prog 19 #[.int .i64 a0] w fun e w' => e = .returned (.bool r) ∧ Below w.heap.size w w' := by
 have HB := A0 (Below.refl w.heap.size w)
 have H : ((norm_Form.f (([a0] : List Int)) false).bind fun t104 => ((norm_Apart.f (([a0] : List Int)) false).bind fun t110 => ((norm_Apart.f t104 false).bind fun t113 => ((sobriquetkeep_Ints.f t113 t110).bind fun t116 => (if t116 = true then ((ucd_Canon.f a0).bind fun t117 => (if (t117.length : Int) = 0 then ((sobriquetkeep_Ints.f t104 (([a0] : List Int))).bind fun t123 => (if t123 = true then ((sobriquetlaw11_wakes.f).bind fun t124 => (some t124)) else (some false))) else (if (t117.length : Int) = 1 then ((sobriquetkeep_Ints.f t104 (([a0] : List Int))).bind fun t128 => (if t128 = true then (some false) else ((sobriquetlaw11_wakes.f).bind fun t129 => (some t129)))) else (if 0 < (t117.length : Int) then (if 1 < (t117.length : Int) then ((ucd_Pair.f (rd t117 0) (rd t117 1)).bind fun bt132 => ((sobriquetkeep_Ints.f t104 (([a0] : List Int))).bind fun t137 => (if bt132.2 = true then (if (t137 == (bt132.1 == a0)) = true then ((sobriquetlaw11_wakes.f).bind fun t138 => (some t138)) else (some false)) else (if (t137 == false) = true then ((sobriquetlaw11_wakes.f).bind fun t139 => (some t139)) else (some false))))) else (none)) else (none))))) else (some false)))))) = some r := h
 clear h
 obtain ⟨y101, hy101⟩ : ∃ y_ : List Int, y_ = (([a0] : List Int)) := ⟨_, rfl⟩
 replace H : ((norm_Form.f y101 false).bind fun t104 => ((norm_Apart.f (([a0] : List Int)) false).bind fun t110 => ((norm_Apart.f t104 false).bind fun t113 => ((sobriquetkeep_Ints.f t113 t110).bind fun t116 => (if t116 = true then ((ucd_Canon.f a0).bind fun t117 => (if (t117.length : Int) = 0 then ((sobriquetkeep_Ints.f t104 (([a0] : List Int))).bind fun t123 => (if t123 = true then ((sobriquetlaw11_wakes.f).bind fun t124 => (some t124)) else (some false))) else (if (t117.length : Int) = 1 then ((sobriquetkeep_Ints.f t104 (([a0] : List Int))).bind fun t128 => (if t128 = true then (some false) else ((sobriquetlaw11_wakes.f).bind fun t129 => (some t129)))) else (if 0 < (t117.length : Int) then (if 1 < (t117.length : Int) then ((ucd_Pair.f (rd t117 0) (rd t117 1)).bind fun bt132 => ((sobriquetkeep_Ints.f t104 (([a0] : List Int))).bind fun t137 => (if bt132.2 = true then (if (t137 == (bt132.1 == a0)) = true then ((sobriquetlaw11_wakes.f).bind fun t138 => (some t138)) else (some false)) else (if (t137 == false) = true then ((sobriquetlaw11_wakes.f).bind fun t139 => (some t139)) else (some false))))) else (none)) else (none))))) else (some false)))))) = some r := by first | (rw [hy101]; with_reducible exact H) | (have H2_ := (Option.bind_some _ _).symm.trans H; rw [hy101]; with_reducible exact H2_) | (have H2_ := (Option.bind_some _ _).symm.trans H; with_reducible exact H2_) | with_reducible exact H | (rw [hy101]; exact H) | exact H
 have Ny101 := A0 hy101
 clear hy101
 replace H := Option.bind_eq_some_iff.mp H
 obtain ⟨t104, A20, H⟩ := H
 replace H : ((norm_Apart.f (([a0] : List Int)) false).bind fun t110 => ((norm_Apart.f t104 false).bind fun t113 => ((sobriquetkeep_Ints.f t113 t110).bind fun t116 => (if t116 = true then ((ucd_Canon.f a0).bind fun t117 => (if (t117.length : Int) = 0 then ((sobriquetkeep_Ints.f t104 (([a0] : List Int))).bind fun t123 => (if t123 = true then ((sobriquetlaw11_wakes.f).bind fun t124 => (some t124)) else (some false))) else (if (t117.length : Int) = 1 then ((sobriquetkeep_Ints.f t104 (([a0] : List Int))).bind fun t128 => (if t128 = true then (some false) else ((sobriquetlaw11_wakes.f).bind fun t129 => (some t129)))) else (if 0 < (t117.length : Int) then (if 1 < (t117.length : Int) then ((ucd_Pair.f (rd t117 0) (rd t117 1)).bind fun bt132 => ((sobriquetkeep_Ints.f t104 (([a0] : List Int))).bind fun t137 => (if bt132.2 = true then (if (t137 == (bt132.1 == a0)) = true then ((sobriquetlaw11_wakes.f).bind fun t138 => (some t138)) else (some false)) else (if (t137 == false) = true then ((sobriquetlaw11_wakes.f).bind fun t139 => (some t139)) else (some false))))) else (none)) else (none))))) else (some false))))) = some r := H
 have A2 := A0 A20
 clear A20
 obtain ⟨y107, hy107⟩ : ∃ y_ : List Int, y_ = (([a0] : List Int)) := ⟨_, rfl⟩
 replace H : ((norm_Apart.f y107 false).bind fun t110 => ((norm_Apart.f t104 false).bind fun t113 => ((sobriquetkeep_Ints.f t113 t110).bind fun t116 => (if t116 = true then ((ucd_Canon.f a0).bind fun t117 => (if (t117.length : Int) = 0 then ((sobriquetkeep_Ints.f t104 (([a0] : List Int))).bind fun t123 => (if t123 = true then ((sobriquetlaw11_wakes.f).bind fun t124 => (some t124)) else (some false))) else (if (t117.length : Int) = 1 then ((sobriquetkeep_Ints.f t104 (([a0] : List Int))).bind fun t128 => (if t128 = true then (some false) else ((sobriquetlaw11_wakes.f).bind fun t129 => (some t129)))) else (if 0 < (t117.length : Int) then (if 1 < (t117.length : Int) then ((ucd_Pair.f (rd t117 0) (rd t117 1)).bind fun bt132 => ((sobriquetkeep_Ints.f t104 (([a0] : List Int))).bind fun t137 => (if bt132.2 = true then (if (t137 == (bt132.1 == a0)) = true then ((sobriquetlaw11_wakes.f).bind fun t138 => (some t138)) else (some false)) else (if (t137 == false) = true then ((sobriquetlaw11_wakes.f).bind fun t139 => (some t139)) else (some false))))) else (none)) else (none))))) else (some false))))) = some r := by first | (rw [hy107]; with_reducible exact H) | (have H2_ := (Option.bind_some _ _).symm.trans H; rw [hy107]; with_reducible exact H2_) | (have H2_ := (Option.bind_some _ _).symm.trans H; with_reducible exact H2_) | with_reducible exact H | (rw [hy107]; exact H) | exact H
 have Ny107 := A0 hy107
 clear hy107
 replace H := Option.bind_eq_some_iff.mp H
 obtain ⟨t110, A30, H⟩ := H
 replace H : ((norm_Apart.f t104 false).bind fun t113 => ((sobriquetkeep_Ints.f t113 t110).bind fun t116 => (if t116 = true then ((ucd_Canon.f a0).bind fun t117 => (if (t117.length : Int) = 0 then ((sobriquetkeep_Ints.f t104 (([a0] : List Int))).bind fun t123 => (if t123 = true then ((sobriquetlaw11_wakes.f).bind fun t124 => (some t124)) else (some false))) else (if (t117.length : Int) = 1 then ((sobriquetkeep_Ints.f t104 (([a0] : List Int))).bind fun t128 => (if t128 = true then (some false) else ((sobriquetlaw11_wakes.f).bind fun t129 => (some t129)))) else (if 0 < (t117.length : Int) then (if 1 < (t117.length : Int) then ((ucd_Pair.f (rd t117 0) (rd t117 1)).bind fun bt132 => ((sobriquetkeep_Ints.f t104 (([a0] : List Int))).bind fun t137 => (if bt132.2 = true then (if (t137 == (bt132.1 == a0)) = true then ((sobriquetlaw11_wakes.f).bind fun t138 => (some t138)) else (some false)) else (if (t137 == false) = true then ((sobriquetlaw11_wakes.f).bind fun t139 => (some t139)) else (some false))))) else (none)) else (none))))) else (some false)))) = some r := H
 have A3 := A0 A30
 clear A30
 replace H := Option.bind_eq_some_iff.mp H
 obtain ⟨t113, A40, H⟩ := H
 replace H : ((sobriquetkeep_Ints.f t113 t110).bind fun t116 => (if t116 = true then ((ucd_Canon.f a0).bind fun t117 => (if (t117.length : Int) = 0 then ((sobriquetkeep_Ints.f t104 (([a0] : List Int))).bind fun t123 => (if t123 = true then ((sobriquetlaw11_wakes.f).bind fun t124 => (some t124)) else (some false))) else (if (t117.length : Int) = 1 then ((sobriquetkeep_Ints.f t104 (([a0] : List Int))).bind fun t128 => (if t128 = true then (some false) else ((sobriquetlaw11_wakes.f).bind fun t129 => (some t129)))) else (if 0 < (t117.length : Int) then (if 1 < (t117.length : Int) then ((ucd_Pair.f (rd t117 0) (rd t117 1)).bind fun bt132 => ((sobriquetkeep_Ints.f t104 (([a0] : List Int))).bind fun t137 => (if bt132.2 = true then (if (t137 == (bt132.1 == a0)) = true then ((sobriquetlaw11_wakes.f).bind fun t138 => (some t138)) else (some false)) else (if (t137 == false) = true then ((sobriquetlaw11_wakes.f).bind fun t139 => (some t139)) else (some false))))) else (none)) else (none))))) else (some false))) = some r := H
 have A4 := A0 A40
 clear A40
 replace H := Option.bind_eq_some_iff.mp H
 obtain ⟨t116, A50, H⟩ := H
 replace H : (if t116 = true then ((ucd_Canon.f a0).bind fun t117 => (if (t117.length : Int) = 0 then ((sobriquetkeep_Ints.f t104 (([a0] : List Int))).bind fun t123 => (if t123 = true then ((sobriquetlaw11_wakes.f).bind fun t124 => (some t124)) else (some false))) else (if (t117.length : Int) = 1 then ((sobriquetkeep_Ints.f t104 (([a0] : List Int))).bind fun t128 => (if t128 = true then (some false) else ((sobriquetlaw11_wakes.f).bind fun t129 => (some t129)))) else (if 0 < (t117.length : Int) then (if 1 < (t117.length : Int) then ((ucd_Pair.f (rd t117 0) (rd t117 1)).bind fun bt132 => ((sobriquetkeep_Ints.f t104 (([a0] : List Int))).bind fun t137 => (if bt132.2 = true then (if (t137 == (bt132.1 == a0)) = true then ((sobriquetlaw11_wakes.f).bind fun t138 => (some t138)) else (some false)) else (if (t137 == false) = true then ((sobriquetlaw11_wakes.f).bind fun t139 => (some t139)) else (some false))))) else (none)) else (none))))) else (some false)) = some r := H
 have A5 := A0 A50
 clear A50
 by_cases c6 : t116 = true
 ·subst c6
  have H1 : ((ucd_Canon.f a0).bind fun t117 => (if (t117.length : Int) = 0 then ((sobriquetkeep_Ints.f t104 (([a0] : List Int))).bind fun t123 => (if t123 = true then ((sobriquetlaw11_wakes.f).bind fun t124 => (some t124)) else (some false))) else (if (t117.length : Int) = 1 then ((sobriquetkeep_Ints.f t104 (([a0] : List Int))).bind fun t128 => (if t128 = true then (some false) else ((sobriquetlaw11_wakes.f).bind fun t129 => (some t129)))) else (if 0 < (t117.length : Int) then (if 1 < (t117.length : Int) then ((ucd_Pair.f (rd t117 0) (rd t117 1)).bind fun bt132 => ((sobriquetkeep_Ints.f t104 (([a0] : List Int))).bind fun t137 => (if bt132.2 = true then (if (t137 == (bt132.1 == a0)) = true then ((sobriquetlaw11_wakes.f).bind fun t138 => (some t138)) else (some false)) else (if (t137 == false) = true then ((sobriquetlaw11_wakes.f).bind fun t139 => (some t139)) else (some false))))) else (none)) else (none))))) = some r := by rw [if_pos rfl] at H; exact H
  clear H
  have H := H1
  clear H1
  replace H := Option.bind_eq_some_iff.mp H
  obtain ⟨t117, A70, H⟩ := H
  replace H : (if (t117.length : Int) = 0 then ((sobriquetkeep_Ints.f t104 (([a0] : List Int))).bind fun t123 => (if t123 = true then ((sobriquetlaw11_wakes.f).bind fun t124 => (some t124)) else (some false))) else (if (t117.length : Int) = 1 then ((sobriquetkeep_Ints.f t104 (([a0] : List Int))).bind fun t128 => (if t128 = true then (some false) else ((sobriquetlaw11_wakes.f).bind fun t129 => (some t129)))) else (if 0 < (t117.length : Int) then (if 1 < (t117.length : Int) then ((ucd_Pair.f (rd t117 0) (rd t117 1)).bind fun bt132 => ((sobriquetkeep_Ints.f t104 (([a0] : List Int))).bind fun t137 => (if bt132.2 = true then (if (t137 == (bt132.1 == a0)) = true then ((sobriquetlaw11_wakes.f).bind fun t138 => (some t138)) else (some false)) else (if (t137 == false) = true then ((sobriquetlaw11_wakes.f).bind fun t139 => (some t139)) else (some false))))) else (none)) else (none)))) = some r := H
  have A7 := A0 A70
  clear A70
  by_cases c8 : (t117.length : Int) = 0
  ·rw [if_pos c8] at H
   have c8b0 : ((t117.length : Int) == 0) = true := beq_iff_eq.mpr c8
   have c8b1 : ((t117.length : Int) != 0) = false := bne_eq_false_iff_eq.mpr c8
   clear c8
   obtain ⟨y120, hy120⟩ : ∃ y_ : List Int, y_ = (([a0] : List Int)) := ⟨_, rfl⟩
   replace H : ((sobriquetkeep_Ints.f t104 y120).bind fun t123 => (if t123 = true then ((sobriquetlaw11_wakes.f).bind fun t124 => (some t124)) else (some false))) = some r := by first | (rw [hy120]; with_reducible exact H) | (have H2_ := (Option.bind_some _ _).symm.trans H; rw [hy120]; with_reducible exact H2_) | (have H2_ := (Option.bind_some _ _).symm.trans H; with_reducible exact H2_) | with_reducible exact H | (rw [hy120]; exact H) | exact H
   have Ny120 := A0 hy120
   clear hy120
   replace H := Option.bind_eq_some_iff.mp H
   obtain ⟨t123, A90, H⟩ := H
   replace H : (if t123 = true then ((sobriquetlaw11_wakes.f).bind fun t124 => (some t124)) else (some false)) = some r := H
   have A9 := A0 A90
   clear A90
   by_cases c10 : t123 = true
   ·subst c10
    have H1 : ((sobriquetlaw11_wakes.f).bind fun t124 => (some t124)) = some r := by rw [if_pos rfl] at H; exact H
    clear H
    have H := H1
    clear H1
    replace H := Option.bind_eq_some_iff.mp H
    obtain ⟨t124, A110, H⟩ := H
    replace H : (some t124) = some r := H
    have A11 := A0 A110
    clear A110
    obtain rfl := Option.some.inj H
    go_enter Try.func19, Try.ntmps19
    go_wp2_with (first | ((with_reducible refine gate_dst (N := 9) rfl ?_); refine Kd.R_lit (Kd.int .i64) _ 3 ?hg (N := 9) ?hd (xs := ([a0] : List Int)) (inner := [.int .i64 a0]) (ok := fun _ => True) (okp := fun _ => True) ?hr ?hp (fun _ hk => hk) trivial (Below.refl _ _) (Nat.le_refl _) (by simp) ?_; (case hd => rfl); (case hg => rfl); (case hr => first | (go_simp; done) | (go_simp; rfl)); (case hp => exact (Reps.one (show Kd.M (Kd.int .i64) _ _ _ a0 [.int .i64 a0] from rfl) (Reps.none _ _))); intro v102 w12 ho13 hb hg_ hnew_; clear hg_ hnew_; (first | rw [← Ny101.out] at ho13 | (simp only [Int.reduceToNat] at ho13; rw [← Ny101.out] at ho13)); have n0_ := A0 (RW ho13 (below_size (BM HB.out))); have n1_ := A0 (below_step (BM HB.out) hb); clear HB; have HO103 := n0_; have HB := n1_; clear n0_ n1_; clear hb ho13; obtain ⟨Ao14, co14, eo14⟩ := RS HO103.out; subst eo14) | ((with_reducible refine gate_callee (f := 50) rfl ?_); refine goesL_ (some 10) rfl rfl Try.func50 (by kernel_rfl) rfl #[.slice Ao14 y101.length co14, .bool false] rfl (by (try simp only [lA, lC, lN]); first | done | rfl | (simp only [lD, lT]; rfl)) ?_; (with_reducible refine (norm_Form.calls _ _ y101 false t104 _ ?side1 ?side2 A2.out).mono ?_); (case side1 => repeat (first | exact (RR HO103.out).2.2 | (with_reducible refine Kd.C_alloc ?_ _) | (with_reducible refine CD ?_ _) | (with_reducible refine Kd.C_drew ?_))); (case side2 => exact (RR HO103.out).2.1); rintro e w15 ⟨v105, rfl, ho0, hb⟩; refine ⟨_, rfl, ?_⟩; have n0_ := A0 (RE (RM HO103.out) (RB ho0) hb); have n1_ := A0 (RW (RN ho0 (RL (RM HO103.out))) (below_size (BM HB.out))); have n2_ := A0 (below_step (BM HB.out) hb); clear HO103; clear HB; have HO103 := n0_; have HO106 := n1_; have HB := n2_; clear n0_ n1_ n2_; (try clear hb); (try clear hb2); (try clear hk); (try clear hi); (try clear ho0)) | ((with_reducible refine gate_dst (N := 12) rfl ?_); refine Kd.R_lit (Kd.int .i64) _ 3 ?hg (N := 12) ?hd (xs := ([a0] : List Int)) (inner := [.int .i64 a0]) (ok := fun _ => True) (okp := fun _ => True) ?hr ?hp (fun _ hk => hk) trivial (Below.refl _ _) (Nat.le_refl _) (by simp) ?_; (case hd => rfl); (case hg => rfl); (case hr => first | (go_simp; done) | (go_simp; rfl)); (case hp => exact (Reps.one (show Kd.M (Kd.int .i64) _ _ _ a0 [.int .i64 a0] from rfl) (Reps.none _ _))); intro v108 w16 ho17 hb hg_ hnew_; clear hg_ hnew_; (first | rw [← Ny107.out] at ho17 | (simp only [Int.reduceToNat] at ho17; rw [← Ny107.out] at ho17)); have n0_ := A0 (RE (RM HO103.out) (RB ho17) hb); have n1_ := A0 (RE (RM HO106.out) (RB ho17) hb); have n2_ := A0 (RW (RN (RN ho17 (RL (RM HO103.out))) (RL (RM HO106.out))) (below_size (BM HB.out))); have n3_ := A0 (below_step (BM HB.out) hb); clear HO103; clear HO106; clear HB; have HO103 := n0_; have HO106 := n1_; have HO109 := n2_; have HB := n3_; clear n0_ n1_ n2_ n3_; clear hb ho17; obtain ⟨Ao18, co18, eo18⟩ := RS HO109.out; subst eo18) | ((with_reducible refine gate_callee (f := 51) rfl ?_); refine goesL_ (some 13) rfl rfl Try.func51 (by kernel_rfl) rfl #[.slice Ao18 y107.length co18, .bool false] rfl (by (try simp only [lA, lC, lN]); first | done | rfl | (simp only [lD, lT]; rfl)) ?_; (with_reducible refine (norm_Apart.calls _ _ y107 false t110 _ ?side1 ?side2 A3.out).mono ?_); (case side1 => repeat (first | exact (RR HO109.out).2.2 | (with_reducible refine Kd.C_alloc ?_ _) | (with_reducible refine CD ?_ _) | (with_reducible refine Kd.C_drew ?_))); (case side2 => exact (RR HO109.out).2.1); rintro e w19 ⟨v111, rfl, ho0, hb⟩; refine ⟨_, rfl, ?_⟩; have n0_ := A0 (RE (RM HO103.out) (RB ho0) hb); have n1_ := A0 (RE (RM HO106.out) (RB ho0) hb); have n2_ := A0 (RE (RM HO109.out) (RB ho0) hb); have n3_ := A0 (RW (RN (RN (RN ho0 (RL (RM HO103.out))) (RL (RM HO106.out))) (RL (RM HO109.out))) (below_size (BM HB.out))); have n4_ := A0 (below_step (BM HB.out) hb); clear HO103; clear HO106; clear HO109; clear HB; have HO103 := n0_; have HO106 := n1_; have HO109 := n2_; have HO112 := n3_; have HB := n4_; clear n0_ n1_ n2_ n3_ n4_; (try clear hb); (try clear hb2); (try clear hk); (try clear hi); (try clear ho0); obtain ⟨Ao20, co20, eo20⟩ := RS HO106.out; subst eo20) | ((with_reducible refine gate_callee (f := 51) rfl ?_); refine goesL_ (some 15) rfl rfl Try.func51 (by kernel_rfl) rfl #[.slice Ao20 t104.length co20, .bool false] rfl (by (try simp only [lA, lC, lN]); first | done | rfl | (simp only [lD, lT]; rfl)) ?_; (with_reducible refine (norm_Apart.calls _ _ t104 false t113 _ ?side1 ?side2 A4.out).mono ?_); (case side1 => repeat (first | exact (RR HO106.out).2.2 | (with_reducible refine Kd.C_alloc ?_ _) | (with_reducible refine CD ?_ _) | (with_reducible refine Kd.C_drew ?_))); (case side2 => exact (RR HO106.out).2.1); rintro e w21 ⟨v114, rfl, ho0, hb⟩; refine ⟨_, rfl, ?_⟩; have n0_ := A0 (RE (RM HO103.out) (RB ho0) hb); have n1_ := A0 (RE (RM HO106.out) (RB ho0) hb); have n2_ := A0 (RE (RM HO109.out) (RB ho0) hb); have n3_ := A0 (RE (RM HO112.out) (RB ho0) hb); have n4_ := A0 (RW (RN (RN (RN (RN ho0 (RL (RM HO103.out))) (RL (RM HO106.out))) (RL (RM HO109.out))) (RL (RM HO112.out))) (below_size (BM HB.out))); have n5_ := A0 (below_step (BM HB.out) hb); clear HO103; clear HO106; clear HO109; clear HO112; clear HB; have HO103 := n0_; have HO106 := n1_; have HO109 := n2_; have HO112 := n3_; have HO115 := n4_; have HB := n5_; clear n0_ n1_ n2_ n3_ n4_ n5_; (try clear hb); (try clear hb2); (try clear hk); (try clear hi); (try clear ho0); obtain ⟨Ao22, co22, eo22⟩ := RS HO115.out; subst eo22; obtain ⟨Ao23, co23, eo23⟩ := RS HO112.out; subst eo23) | ((with_reducible refine gate_callee (f := 27) rfl ?_); refine goesL_ (some 17) rfl rfl Try.func27 (by kernel_rfl) rfl #[.slice Ao22 t113.length co22, .slice Ao23 t110.length co23] rfl (by (try simp only [lA, lC, lN]); first | done | rfl | (simp only [lD, lT]; rfl)) ?_; (with_reducible refine (sobriquetkeep_Ints.calls _ _ t113 _ _ t110 true _ ?side1 ?side2 ?side3 ?side4 A5.out).mono ?_); (case side1 => repeat (first | exact (RR HO115.out).2.2 | (with_reducible refine Kd.C_alloc ?_ _) | (with_reducible refine CD ?_ _) | (with_reducible refine Kd.C_drew ?_))); (case side2 => exact (RR HO115.out).2.1); (case side3 => repeat (first | exact (RR HO112.out).2.2 | (with_reducible refine Kd.C_alloc ?_ _) | (with_reducible refine CD ?_ _) | (with_reducible refine Kd.C_drew ?_))); (case side4 => exact (RR HO112.out).2.1); rintro e w' ⟨rfl, ⟨nd, rfl⟩⟩; refine ⟨_, rfl, ?_⟩) | ((with_reducible refine gate_callee (f := 55) rfl ?_); refine goesL_ (some 20) rfl rfl Try.func55 (by kernel_rfl) rfl #[.int .i64 a0] rfl (by (try simp only [lA, lC, lN]); first | done | rfl | (simp only [lD, lT]; rfl)) ?_; (with_reducible refine (ucd_Canon.calls a0 t117 _ A7.out).mono ?_); rintro e w24 ⟨v118, rfl, ho0, hb⟩; refine ⟨_, rfl, ?_⟩; have n0_ := A0 (RE (RM HO103.out) (RB ho0) hb); have n1_ := A0 (RE (RM HO106.out) (RB ho0) hb); have n2_ := A0 (RE (RM HO109.out) (RB ho0) hb); have n3_ := A0 (RE (RM HO112.out) (RB ho0) hb); have n4_ := A0 (RE (RM HO115.out) (RB ho0) hb); have n5_ := A0 (RW (RN (RN (RN (RN (RN ho0 (RL (RM HO103.out))) (RL (RM HO106.out))) (RL (RM HO109.out))) (RL (RM HO112.out))) (RL (RM HO115.out))) (below_size (BM HB.out))); have n6_ := A0 (below_step (BM HB.out) hb); clear HO103; clear HO106; clear HO109; clear HO112; clear HO115; clear HB; have HO103 := n0_; have HO106 := n1_; have HO109 := n2_; have HO112 := n3_; have HO115 := n4_; have HO119 := n5_; have HB := n6_; clear n0_ n1_ n2_ n3_ n4_ n5_ n6_; (try clear hb); (try clear hb2); (try clear hk); (try clear hi); (try clear ho0); obtain ⟨Ao25, co25, eo25⟩ := RS HO119.out; subst eo25) | ((with_reducible refine gate_dst (N := 26) rfl ?_); refine Kd.R_lit (Kd.int .i64) _ 3 ?hg (N := 26) ?hd (xs := ([a0] : List Int)) (inner := [.int .i64 a0]) (ok := fun _ => True) (okp := fun _ => True) ?hr ?hp (fun _ hk => hk) trivial (Below.refl _ _) (Nat.le_refl _) (by simp) ?_; (case hd => rfl); (case hg => rfl); (case hr => first | (go_simp; done) | (go_simp; rfl)); (case hp => exact (Reps.one (show Kd.M (Kd.int .i64) _ _ _ a0 [.int .i64 a0] from rfl) (Reps.none _ _))); intro v121 w26 ho27 hb hg_ hnew_; clear hg_ hnew_; (first | rw [← Ny120.out] at ho27 | (simp only [Int.reduceToNat] at ho27; rw [← Ny120.out] at ho27)); have n0_ := A0 (RE (RM HO103.out) (RB ho27) hb); have n1_ := A0 (RE (RM HO106.out) (RB ho27) hb); have n2_ := A0 (RE (RM HO109.out) (RB ho27) hb); have n3_ := A0 (RE (RM HO112.out) (RB ho27) hb); have n4_ := A0 (RE (RM HO115.out) (RB ho27) hb); have n5_ := A0 (RE (RM HO119.out) (RB ho27) hb); have n6_ := A0 (RW (RN (RN (RN (RN (RN (RN ho27 (RL (RM HO103.out))) (RL (RM HO106.out))) (RL (RM HO109.out))) (RL (RM HO112.out))) (RL (RM HO115.out))) (RL (RM HO119.out))) (below_size (BM HB.out))); have n7_ := A0 (below_step (BM HB.out) hb); clear HO103; clear HO106; clear HO109; clear HO112; clear HO115; clear HO119; clear HB; have HO103 := n0_; have HO106 := n1_; have HO109 := n2_; have HO112 := n3_; have HO115 := n4_; have HO119 := n5_; have HO122 := n6_; have HB := n7_; clear n0_ n1_ n2_ n3_ n4_ n5_ n6_ n7_; clear hb ho27; obtain ⟨Ao28, co28, eo28⟩ := RS HO122.out; subst eo28) | ((with_reducible refine gate_callee (f := 27) rfl ?_); refine goesL_ (some 27) rfl rfl Try.func27 (by kernel_rfl) rfl #[.slice Ao20 t104.length co20, .slice Ao28 y120.length co28] rfl (by (try simp only [lA, lC, lN]); first | done | rfl | (simp only [lD, lT]; rfl)) ?_; (with_reducible refine (sobriquetkeep_Ints.calls _ _ t104 _ _ y120 true _ ?side1 ?side2 ?side3 ?side4 A9.out).mono ?_); (case side1 => repeat (first | exact (RR HO106.out).2.2 | (with_reducible refine Kd.C_alloc ?_ _) | (with_reducible refine CD ?_ _) | (with_reducible refine Kd.C_drew ?_))); (case side2 => exact (RR HO106.out).2.1); (case side3 => repeat (first | exact (RR HO122.out).2.2 | (with_reducible refine Kd.C_alloc ?_ _) | (with_reducible refine CD ?_ _) | (with_reducible refine Kd.C_drew ?_))); (case side4 => exact (RR HO122.out).2.1); rintro e w' ⟨rfl, ⟨nd, rfl⟩⟩; refine ⟨_, rfl, ?_⟩) | (go_at_call 52; (with_reducible refine (sobriquetlaw11_wakes.calls  t124 _ A11.out).mono ?_); rintro e w29 ⟨rfl, hb⟩; have n0_ := A0 (Kd.R_below (RM HO103.out) hb); have n1_ := A0 (Kd.R_below (RM HO106.out) hb); have n2_ := A0 (Kd.R_below (RM HO109.out) hb); have n3_ := A0 (Kd.R_below (RM HO112.out) hb); have n4_ := A0 (Kd.R_below (RM HO115.out) hb); have n5_ := A0 (Kd.R_below (RM HO119.out) hb); have n6_ := A0 (Kd.R_below (RM HO122.out) hb); have n7_ := A0 (below_step (BM HB.out) hb); clear HO103; clear HO106; clear HO109; clear HO112; clear HO115; clear HO119; clear HO122; clear HB; have HO103 := n0_; have HO106 := n1_; have HO109 := n2_; have HO112 := n3_; have HO115 := n4_; have HO119 := n5_; have HO122 := n6_; have HB := n7_; clear n0_ n1_ n2_ n3_ n4_ n5_ n6_ n7_; (try clear hb); (try clear hb2); (try clear hk); (try clear hi)))
    go_ret
    exact ⟨by first | rfl | (simp [errW_none, errW_some] <;> rfl) | (simp [*, errW_none, errW_some] <;> rfl), BM HB.out⟩
   ·replace c10 := Bool.eq_false_iff.mpr c10
    subst c10
    have H1 : (some false) = some r := by rw [if_neg (show ¬ (false = true) by decide)] at H; exact H
    clear H
    have H := H1
    clear H1
    obtain rfl := Option.some.inj H
    go_enter Try.func19, Try.ntmps19
    go_wp2_with (first | ((with_reducible refine gate_dst (N := 9) rfl ?_); refine Kd.R_lit (Kd.int .i64) _ 3 ?hg (N := 9) ?hd (xs := ([a0] : List Int)) (inner := [.int .i64 a0]) (ok := fun _ => True) (okp := fun _ => True) ?hr ?hp (fun _ hk => hk) trivial (Below.refl _ _) (Nat.le_refl _) (by simp) ?_; (case hd => rfl); (case hg => rfl); (case hr => first | (go_simp; done) | (go_simp; rfl)); (case hp => exact (Reps.one (show Kd.M (Kd.int .i64) _ _ _ a0 [.int .i64 a0] from rfl) (Reps.none _ _))); intro v102 w30 ho31 hb hg_ hnew_; clear hg_ hnew_; (first | rw [← Ny101.out] at ho31 | (simp only [Int.reduceToNat] at ho31; rw [← Ny101.out] at ho31)); have n0_ := A0 (RW ho31 (below_size (BM HB.out))); have n1_ := A0 (below_step (BM HB.out) hb); clear HB; have HO103 := n0_; have HB := n1_; clear n0_ n1_; clear hb ho31; obtain ⟨Ao32, co32, eo32⟩ := RS HO103.out; subst eo32) | ((with_reducible refine gate_callee (f := 50) rfl ?_); refine goesL_ (some 10) rfl rfl Try.func50 (by kernel_rfl) rfl #[.slice Ao32 y101.length co32, .bool false] rfl (by (try simp only [lA, lC, lN]); first | done | rfl | (simp only [lD, lT]; rfl)) ?_; (with_reducible refine (norm_Form.calls _ _ y101 false t104 _ ?side1 ?side2 A2.out).mono ?_); (case side1 => repeat (first | exact (RR HO103.out).2.2 | (with_reducible refine Kd.C_alloc ?_ _) | (with_reducible refine CD ?_ _) | (with_reducible refine Kd.C_drew ?_))); (case side2 => exact (RR HO103.out).2.1); rintro e w33 ⟨v105, rfl, ho0, hb⟩; refine ⟨_, rfl, ?_⟩; have n0_ := A0 (RE (RM HO103.out) (RB ho0) hb); have n1_ := A0 (RW (RN ho0 (RL (RM HO103.out))) (below_size (BM HB.out))); have n2_ := A0 (below_step (BM HB.out) hb); clear HO103; clear HB; have HO103 := n0_; have HO106 := n1_; have HB := n2_; clear n0_ n1_ n2_; (try clear hb); (try clear hb2); (try clear hk); (try clear hi); (try clear ho0)) | ((with_reducible refine gate_dst (N := 12) rfl ?_); refine Kd.R_lit (Kd.int .i64) _ 3 ?hg (N := 12) ?hd (xs := ([a0] : List Int)) (inner := [.int .i64 a0]) (ok := fun _ => True) (okp := fun _ => True) ?hr ?hp (fun _ hk => hk) trivial (Below.refl _ _) (Nat.le_refl _) (by simp) ?_; (case hd => rfl); (case hg => rfl); (case hr => first | (go_simp; done) | (go_simp; rfl)); (case hp => exact (Reps.one (show Kd.M (Kd.int .i64) _ _ _ a0 [.int .i64 a0] from rfl) (Reps.none _ _))); intro v108 w34 ho35 hb hg_ hnew_; clear hg_ hnew_; (first | rw [← Ny107.out] at ho35 | (simp only [Int.reduceToNat] at ho35; rw [← Ny107.out] at ho35)); have n0_ := A0 (RE (RM HO103.out) (RB ho35) hb); have n1_ := A0 (RE (RM HO106.out) (RB ho35) hb); have n2_ := A0 (RW (RN (RN ho35 (RL (RM HO103.out))) (RL (RM HO106.out))) (below_size (BM HB.out))); have n3_ := A0 (below_step (BM HB.out) hb); clear HO103; clear HO106; clear HB; have HO103 := n0_; have HO106 := n1_; have HO109 := n2_; have HB := n3_; clear n0_ n1_ n2_ n3_; clear hb ho35; obtain ⟨Ao36, co36, eo36⟩ := RS HO109.out; subst eo36) | ((with_reducible refine gate_callee (f := 51) rfl ?_); refine goesL_ (some 13) rfl rfl Try.func51 (by kernel_rfl) rfl #[.slice Ao36 y107.length co36, .bool false] rfl (by (try simp only [lA, lC, lN]); first | done | rfl | (simp only [lD, lT]; rfl)) ?_; (with_reducible refine (norm_Apart.calls _ _ y107 false t110 _ ?side1 ?side2 A3.out).mono ?_); (case side1 => repeat (first | exact (RR HO109.out).2.2 | (with_reducible refine Kd.C_alloc ?_ _) | (with_reducible refine CD ?_ _) | (with_reducible refine Kd.C_drew ?_))); (case side2 => exact (RR HO109.out).2.1); rintro e w37 ⟨v111, rfl, ho0, hb⟩; refine ⟨_, rfl, ?_⟩; have n0_ := A0 (RE (RM HO103.out) (RB ho0) hb); have n1_ := A0 (RE (RM HO106.out) (RB ho0) hb); have n2_ := A0 (RE (RM HO109.out) (RB ho0) hb); have n3_ := A0 (RW (RN (RN (RN ho0 (RL (RM HO103.out))) (RL (RM HO106.out))) (RL (RM HO109.out))) (below_size (BM HB.out))); have n4_ := A0 (below_step (BM HB.out) hb); clear HO103; clear HO106; clear HO109; clear HB; have HO103 := n0_; have HO106 := n1_; have HO109 := n2_; have HO112 := n3_; have HB := n4_; clear n0_ n1_ n2_ n3_ n4_; (try clear hb); (try clear hb2); (try clear hk); (try clear hi); (try clear ho0); obtain ⟨Ao38, co38, eo38⟩ := RS HO106.out; subst eo38) | ((with_reducible refine gate_callee (f := 51) rfl ?_); refine goesL_ (some 15) rfl rfl Try.func51 (by kernel_rfl) rfl #[.slice Ao38 t104.length co38, .bool false] rfl (by (try simp only [lA, lC, lN]); first | done | rfl | (simp only [lD, lT]; rfl)) ?_; (with_reducible refine (norm_Apart.calls _ _ t104 false t113 _ ?side1 ?side2 A4.out).mono ?_); (case side1 => repeat (first | exact (RR HO106.out).2.2 | (with_reducible refine Kd.C_alloc ?_ _) | (with_reducible refine CD ?_ _) | (with_reducible refine Kd.C_drew ?_))); (case side2 => exact (RR HO106.out).2.1); rintro e w39 ⟨v114, rfl, ho0, hb⟩; refine ⟨_, rfl, ?_⟩; have n0_ := A0 (RE (RM HO103.out) (RB ho0) hb); have n1_ := A0 (RE (RM HO106.out) (RB ho0) hb); have n2_ := A0 (RE (RM HO109.out) (RB ho0) hb); have n3_ := A0 (RE (RM HO112.out) (RB ho0) hb); have n4_ := A0 (RW (RN (RN (RN (RN ho0 (RL (RM HO103.out))) (RL (RM HO106.out))) (RL (RM HO109.out))) (RL (RM HO112.out))) (below_size (BM HB.out))); have n5_ := A0 (below_step (BM HB.out) hb); clear HO103; clear HO106; clear HO109; clear HO112; clear HB; have HO103 := n0_; have HO106 := n1_; have HO109 := n2_; have HO112 := n3_; have HO115 := n4_; have HB := n5_; clear n0_ n1_ n2_ n3_ n4_ n5_; (try clear hb); (try clear hb2); (try clear hk); (try clear hi); (try clear ho0); obtain ⟨Ao40, co40, eo40⟩ := RS HO115.out; subst eo40; obtain ⟨Ao41, co41, eo41⟩ := RS HO112.out; subst eo41) | ((with_reducible refine gate_callee (f := 27) rfl ?_); refine goesL_ (some 17) rfl rfl Try.func27 (by kernel_rfl) rfl #[.slice Ao40 t113.length co40, .slice Ao41 t110.length co41] rfl (by (try simp only [lA, lC, lN]); first | done | rfl | (simp only [lD, lT]; rfl)) ?_; (with_reducible refine (sobriquetkeep_Ints.calls _ _ t113 _ _ t110 true _ ?side1 ?side2 ?side3 ?side4 A5.out).mono ?_); (case side1 => repeat (first | exact (RR HO115.out).2.2 | (with_reducible refine Kd.C_alloc ?_ _) | (with_reducible refine CD ?_ _) | (with_reducible refine Kd.C_drew ?_))); (case side2 => exact (RR HO115.out).2.1); (case side3 => repeat (first | exact (RR HO112.out).2.2 | (with_reducible refine Kd.C_alloc ?_ _) | (with_reducible refine CD ?_ _) | (with_reducible refine Kd.C_drew ?_))); (case side4 => exact (RR HO112.out).2.1); rintro e w' ⟨rfl, ⟨nd, rfl⟩⟩; refine ⟨_, rfl, ?_⟩) | ((with_reducible refine gate_callee (f := 55) rfl ?_); refine goesL_ (some 20) rfl rfl Try.func55 (by kernel_rfl) rfl #[.int .i64 a0] rfl (by (try simp only [lA, lC, lN]); first | done | rfl | (simp only [lD, lT]; rfl)) ?_; (with_reducible refine (ucd_Canon.calls a0 t117 _ A7.out).mono ?_); rintro e w42 ⟨v118, rfl, ho0, hb⟩; refine ⟨_, rfl, ?_⟩; have n0_ := A0 (RE (RM HO103.out) (RB ho0) hb); have n1_ := A0 (RE (RM HO106.out) (RB ho0) hb); have n2_ := A0 (RE (RM HO109.out) (RB ho0) hb); have n3_ := A0 (RE (RM HO112.out) (RB ho0) hb); have n4_ := A0 (RE (RM HO115.out) (RB ho0) hb); have n5_ := A0 (RW (RN (RN (RN (RN (RN ho0 (RL (RM HO103.out))) (RL (RM HO106.out))) (RL (RM HO109.out))) (RL (RM HO112.out))) (RL (RM HO115.out))) (below_size (BM HB.out))); have n6_ := A0 (below_step (BM HB.out) hb); clear HO103; clear HO106; clear HO109; clear HO112; clear HO115; clear HB; have HO103 := n0_; have HO106 := n1_; have HO109 := n2_; have HO112 := n3_; have HO115 := n4_; have HO119 := n5_; have HB := n6_; clear n0_ n1_ n2_ n3_ n4_ n5_ n6_; (try clear hb); (try clear hb2); (try clear hk); (try clear hi); (try clear ho0); obtain ⟨Ao43, co43, eo43⟩ := RS HO119.out; subst eo43) | ((with_reducible refine gate_dst (N := 26) rfl ?_); refine Kd.R_lit (Kd.int .i64) _ 3 ?hg (N := 26) ?hd (xs := ([a0] : List Int)) (inner := [.int .i64 a0]) (ok := fun _ => True) (okp := fun _ => True) ?hr ?hp (fun _ hk => hk) trivial (Below.refl _ _) (Nat.le_refl _) (by simp) ?_; (case hd => rfl); (case hg => rfl); (case hr => first | (go_simp; done) | (go_simp; rfl)); (case hp => exact (Reps.one (show Kd.M (Kd.int .i64) _ _ _ a0 [.int .i64 a0] from rfl) (Reps.none _ _))); intro v121 w44 ho45 hb hg_ hnew_; clear hg_ hnew_; (first | rw [← Ny120.out] at ho45 | (simp only [Int.reduceToNat] at ho45; rw [← Ny120.out] at ho45)); have n0_ := A0 (RE (RM HO103.out) (RB ho45) hb); have n1_ := A0 (RE (RM HO106.out) (RB ho45) hb); have n2_ := A0 (RE (RM HO109.out) (RB ho45) hb); have n3_ := A0 (RE (RM HO112.out) (RB ho45) hb); have n4_ := A0 (RE (RM HO115.out) (RB ho45) hb); have n5_ := A0 (RE (RM HO119.out) (RB ho45) hb); have n6_ := A0 (RW (RN (RN (RN (RN (RN (RN ho45 (RL (RM HO103.out))) (RL (RM HO106.out))) (RL (RM HO109.out))) (RL (RM HO112.out))) (RL (RM HO115.out))) (RL (RM HO119.out))) (below_size (BM HB.out))); have n7_ := A0 (below_step (BM HB.out) hb); clear HO103; clear HO106; clear HO109; clear HO112; clear HO115; clear HO119; clear HB; have HO103 := n0_; have HO106 := n1_; have HO109 := n2_; have HO112 := n3_; have HO115 := n4_; have HO119 := n5_; have HO122 := n6_; have HB := n7_; clear n0_ n1_ n2_ n3_ n4_ n5_ n6_ n7_; clear hb ho45; obtain ⟨Ao46, co46, eo46⟩ := RS HO122.out; subst eo46) | ((with_reducible refine gate_callee (f := 27) rfl ?_); refine goesL_ (some 27) rfl rfl Try.func27 (by kernel_rfl) rfl #[.slice Ao38 t104.length co38, .slice Ao46 y120.length co46] rfl (by (try simp only [lA, lC, lN]); first | done | rfl | (simp only [lD, lT]; rfl)) ?_; (with_reducible refine (sobriquetkeep_Ints.calls _ _ t104 _ _ y120 false _ ?side1 ?side2 ?side3 ?side4 A9.out).mono ?_); (case side1 => repeat (first | exact (RR HO106.out).2.2 | (with_reducible refine Kd.C_alloc ?_ _) | (with_reducible refine CD ?_ _) | (with_reducible refine Kd.C_drew ?_))); (case side2 => exact (RR HO106.out).2.1); (case side3 => repeat (first | exact (RR HO122.out).2.2 | (with_reducible refine Kd.C_alloc ?_ _) | (with_reducible refine CD ?_ _) | (with_reducible refine Kd.C_drew ?_))); (case side4 => exact (RR HO122.out).2.1); rintro e w' ⟨rfl, ⟨nd, rfl⟩⟩; refine ⟨_, rfl, ?_⟩))
    go_ret
    exact ⟨by first | rfl | (simp [errW_none, errW_some] <;> rfl) | (simp [*, errW_none, errW_some] <;> rfl), BM HB.out⟩
  ·rw [if_neg c8] at H
   have c8b0 : ((t117.length : Int) == 0) = false := beq_eq_false_iff_ne.mpr c8
   have c8b1 : ((t117.length : Int) != 0) = true := bne_iff_ne.mpr c8
   have c8b2 : ¬ (t117 = []) := fun h_ => c8 (by rw [h_]; rfl)
   by_cases c47 : (t117.length : Int) = 1
   ·rw [if_pos c47] at H
    have c47b0 : ((t117.length : Int) == 1) = true := beq_iff_eq.mpr c47
    have c47b1 : ((t117.length : Int) != 1) = false := bne_eq_false_iff_eq.mpr c47
    clear c47
    obtain ⟨y125, hy125⟩ : ∃ y_ : List Int, y_ = (([a0] : List Int)) := ⟨_, rfl⟩
    replace H : ((sobriquetkeep_Ints.f t104 y125).bind fun t128 => (if t128 = true then (some false) else ((sobriquetlaw11_wakes.f).bind fun t129 => (some t129)))) = some r := by first | (rw [hy125]; with_reducible exact H) | (have H2_ := (Option.bind_some _ _).symm.trans H; rw [hy125]; with_reducible exact H2_) | (have H2_ := (Option.bind_some _ _).symm.trans H; with_reducible exact H2_) | with_reducible exact H | (rw [hy125]; exact H) | exact H
    have Ny125 := A0 hy125
    clear hy125
    replace H := Option.bind_eq_some_iff.mp H
    obtain ⟨t128, A480, H⟩ := H
    replace H : (if t128 = true then (some false) else ((sobriquetlaw11_wakes.f).bind fun t129 => (some t129))) = some r := H
    have A48 := A0 A480
    clear A480
    by_cases c49 : t128 = true
    ·subst c49
     have H1 : (some false) = some r := by rw [if_pos rfl] at H; exact H
     clear H
     have H := H1
     clear H1
     obtain rfl := Option.some.inj H
     go_enter Try.func19, Try.ntmps19
     go_wp2_with (first | ((with_reducible refine gate_dst (N := 9) rfl ?_); refine Kd.R_lit (Kd.int .i64) _ 3 ?hg (N := 9) ?hd (xs := ([a0] : List Int)) (inner := [.int .i64 a0]) (ok := fun _ => True) (okp := fun _ => True) ?hr ?hp (fun _ hk => hk) trivial (Below.refl _ _) (Nat.le_refl _) (by simp) ?_; (case hd => rfl); (case hg => rfl); (case hr => first | (go_simp; done) | (go_simp; rfl)); (case hp => exact (Reps.one (show Kd.M (Kd.int .i64) _ _ _ a0 [.int .i64 a0] from rfl) (Reps.none _ _))); intro v102 w50 ho51 hb hg_ hnew_; clear hg_ hnew_; (first | rw [← Ny101.out] at ho51 | (simp only [Int.reduceToNat] at ho51; rw [← Ny101.out] at ho51)); have n0_ := A0 (RW ho51 (below_size (BM HB.out))); have n1_ := A0 (below_step (BM HB.out) hb); clear HB; have HO103 := n0_; have HB := n1_; clear n0_ n1_; clear hb ho51; obtain ⟨Ao52, co52, eo52⟩ := RS HO103.out; subst eo52) | ((with_reducible refine gate_callee (f := 50) rfl ?_); refine goesL_ (some 10) rfl rfl Try.func50 (by kernel_rfl) rfl #[.slice Ao52 y101.length co52, .bool false] rfl (by (try simp only [lA, lC, lN]); first | done | rfl | (simp only [lD, lT]; rfl)) ?_; (with_reducible refine (norm_Form.calls _ _ y101 false t104 _ ?side1 ?side2 A2.out).mono ?_); (case side1 => repeat (first | exact (RR HO103.out).2.2 | (with_reducible refine Kd.C_alloc ?_ _) | (with_reducible refine CD ?_ _) | (with_reducible refine Kd.C_drew ?_))); (case side2 => exact (RR HO103.out).2.1); rintro e w53 ⟨v105, rfl, ho0, hb⟩; refine ⟨_, rfl, ?_⟩; have n0_ := A0 (RE (RM HO103.out) (RB ho0) hb); have n1_ := A0 (RW (RN ho0 (RL (RM HO103.out))) (below_size (BM HB.out))); have n2_ := A0 (below_step (BM HB.out) hb); clear HO103; clear HB; have HO103 := n0_; have HO106 := n1_; have HB := n2_; clear n0_ n1_ n2_; (try clear hb); (try clear hb2); (try clear hk); (try clear hi); (try clear ho0)) | ((with_reducible refine gate_dst (N := 12) rfl ?_); refine Kd.R_lit (Kd.int .i64) _ 3 ?hg (N := 12) ?hd (xs := ([a0] : List Int)) (inner := [.int .i64 a0]) (ok := fun _ => True) (okp := fun _ => True) ?hr ?hp (fun _ hk => hk) trivial (Below.refl _ _) (Nat.le_refl _) (by simp) ?_; (case hd => rfl); (case hg => rfl); (case hr => first | (go_simp; done) | (go_simp; rfl)); (case hp => exact (Reps.one (show Kd.M (Kd.int .i64) _ _ _ a0 [.int .i64 a0] from rfl) (Reps.none _ _))); intro v108 w54 ho55 hb hg_ hnew_; clear hg_ hnew_; (first | rw [← Ny107.out] at ho55 | (simp only [Int.reduceToNat] at ho55; rw [← Ny107.out] at ho55)); have n0_ := A0 (RE (RM HO103.out) (RB ho55) hb); have n1_ := A0 (RE (RM HO106.out) (RB ho55) hb); have n2_ := A0 (RW (RN (RN ho55 (RL (RM HO103.out))) (RL (RM HO106.out))) (below_size (BM HB.out))); have n3_ := A0 (below_step (BM HB.out) hb); clear HO103; clear HO106; clear HB; have HO103 := n0_; have HO106 := n1_; have HO109 := n2_; have HB := n3_; clear n0_ n1_ n2_ n3_; clear hb ho55; obtain ⟨Ao56, co56, eo56⟩ := RS HO109.out; subst eo56) | ((with_reducible refine gate_callee (f := 51) rfl ?_); refine goesL_ (some 13) rfl rfl Try.func51 (by kernel_rfl) rfl #[.slice Ao56 y107.length co56, .bool false] rfl (by (try simp only [lA, lC, lN]); first | done | rfl | (simp only [lD, lT]; rfl)) ?_; (with_reducible refine (norm_Apart.calls _ _ y107 false t110 _ ?side1 ?side2 A3.out).mono ?_); (case side1 => repeat (first | exact (RR HO109.out).2.2 | (with_reducible refine Kd.C_alloc ?_ _) | (with_reducible refine CD ?_ _) | (with_reducible refine Kd.C_drew ?_))); (case side2 => exact (RR HO109.out).2.1); rintro e w57 ⟨v111, rfl, ho0, hb⟩; refine ⟨_, rfl, ?_⟩; have n0_ := A0 (RE (RM HO103.out) (RB ho0) hb); have n1_ := A0 (RE (RM HO106.out) (RB ho0) hb); have n2_ := A0 (RE (RM HO109.out) (RB ho0) hb); have n3_ := A0 (RW (RN (RN (RN ho0 (RL (RM HO103.out))) (RL (RM HO106.out))) (RL (RM HO109.out))) (below_size (BM HB.out))); have n4_ := A0 (below_step (BM HB.out) hb); clear HO103; clear HO106; clear HO109; clear HB; have HO103 := n0_; have HO106 := n1_; have HO109 := n2_; have HO112 := n3_; have HB := n4_; clear n0_ n1_ n2_ n3_ n4_; (try clear hb); (try clear hb2); (try clear hk); (try clear hi); (try clear ho0); obtain ⟨Ao58, co58, eo58⟩ := RS HO106.out; subst eo58) | ((with_reducible refine gate_callee (f := 51) rfl ?_); refine goesL_ (some 15) rfl rfl Try.func51 (by kernel_rfl) rfl #[.slice Ao58 t104.length co58, .bool false] rfl (by (try simp only [lA, lC, lN]); first | done | rfl | (simp only [lD, lT]; rfl)) ?_; (with_reducible refine (norm_Apart.calls _ _ t104 false t113 _ ?side1 ?side2 A4.out).mono ?_); (case side1 => repeat (first | exact (RR HO106.out).2.2 | (with_reducible refine Kd.C_alloc ?_ _) | (with_reducible refine CD ?_ _) | (with_reducible refine Kd.C_drew ?_))); (case side2 => exact (RR HO106.out).2.1); rintro e w59 ⟨v114, rfl, ho0, hb⟩; refine ⟨_, rfl, ?_⟩; have n0_ := A0 (RE (RM HO103.out) (RB ho0) hb); have n1_ := A0 (RE (RM HO106.out) (RB ho0) hb); have n2_ := A0 (RE (RM HO109.out) (RB ho0) hb); have n3_ := A0 (RE (RM HO112.out) (RB ho0) hb); have n4_ := A0 (RW (RN (RN (RN (RN ho0 (RL (RM HO103.out))) (RL (RM HO106.out))) (RL (RM HO109.out))) (RL (RM HO112.out))) (below_size (BM HB.out))); have n5_ := A0 (below_step (BM HB.out) hb); clear HO103; clear HO106; clear HO109; clear HO112; clear HB; have HO103 := n0_; have HO106 := n1_; have HO109 := n2_; have HO112 := n3_; have HO115 := n4_; have HB := n5_; clear n0_ n1_ n2_ n3_ n4_ n5_; (try clear hb); (try clear hb2); (try clear hk); (try clear hi); (try clear ho0); obtain ⟨Ao60, co60, eo60⟩ := RS HO115.out; subst eo60; obtain ⟨Ao61, co61, eo61⟩ := RS HO112.out; subst eo61) | ((with_reducible refine gate_callee (f := 27) rfl ?_); refine goesL_ (some 17) rfl rfl Try.func27 (by kernel_rfl) rfl #[.slice Ao60 t113.length co60, .slice Ao61 t110.length co61] rfl (by (try simp only [lA, lC, lN]); first | done | rfl | (simp only [lD, lT]; rfl)) ?_; (with_reducible refine (sobriquetkeep_Ints.calls _ _ t113 _ _ t110 true _ ?side1 ?side2 ?side3 ?side4 A5.out).mono ?_); (case side1 => repeat (first | exact (RR HO115.out).2.2 | (with_reducible refine Kd.C_alloc ?_ _) | (with_reducible refine CD ?_ _) | (with_reducible refine Kd.C_drew ?_))); (case side2 => exact (RR HO115.out).2.1); (case side3 => repeat (first | exact (RR HO112.out).2.2 | (with_reducible refine Kd.C_alloc ?_ _) | (with_reducible refine CD ?_ _) | (with_reducible refine Kd.C_drew ?_))); (case side4 => exact (RR HO112.out).2.1); rintro e w' ⟨rfl, ⟨nd, rfl⟩⟩; refine ⟨_, rfl, ?_⟩) | ((with_reducible refine gate_callee (f := 55) rfl ?_); refine goesL_ (some 20) rfl rfl Try.func55 (by kernel_rfl) rfl #[.int .i64 a0] rfl (by (try simp only [lA, lC, lN]); first | done | rfl | (simp only [lD, lT]; rfl)) ?_; (with_reducible refine (ucd_Canon.calls a0 t117 _ A7.out).mono ?_); rintro e w62 ⟨v118, rfl, ho0, hb⟩; refine ⟨_, rfl, ?_⟩; have n0_ := A0 (RE (RM HO103.out) (RB ho0) hb); have n1_ := A0 (RE (RM HO106.out) (RB ho0) hb); have n2_ := A0 (RE (RM HO109.out) (RB ho0) hb); have n3_ := A0 (RE (RM HO112.out) (RB ho0) hb); have n4_ := A0 (RE (RM HO115.out) (RB ho0) hb); have n5_ := A0 (RW (RN (RN (RN (RN (RN ho0 (RL (RM HO103.out))) (RL (RM HO106.out))) (RL (RM HO109.out))) (RL (RM HO112.out))) (RL (RM HO115.out))) (below_size (BM HB.out))); have n6_ := A0 (below_step (BM HB.out) hb); clear HO103; clear HO106; clear HO109; clear HO112; clear HO115; clear HB; have HO103 := n0_; have HO106 := n1_; have HO109 := n2_; have HO112 := n3_; have HO115 := n4_; have HO119 := n5_; have HB := n6_; clear n0_ n1_ n2_ n3_ n4_ n5_ n6_; (try clear hb); (try clear hb2); (try clear hk); (try clear hi); (try clear ho0); obtain ⟨Ao63, co63, eo63⟩ := RS HO119.out; subst eo63) | ((with_reducible refine gate_dst (N := 36) rfl ?_); refine Kd.R_lit (Kd.int .i64) _ 3 ?hg (N := 36) ?hd (xs := ([a0] : List Int)) (inner := [.int .i64 a0]) (ok := fun _ => True) (okp := fun _ => True) ?hr ?hp (fun _ hk => hk) trivial (Below.refl _ _) (Nat.le_refl _) (by simp) ?_; (case hd => rfl); (case hg => rfl); (case hr => first | (go_simp; done) | (go_simp; rfl)); (case hp => exact (Reps.one (show Kd.M (Kd.int .i64) _ _ _ a0 [.int .i64 a0] from rfl) (Reps.none _ _))); intro v126 w64 ho65 hb hg_ hnew_; clear hg_ hnew_; (first | rw [← Ny125.out] at ho65 | (simp only [Int.reduceToNat] at ho65; rw [← Ny125.out] at ho65)); have n0_ := A0 (RE (RM HO103.out) (RB ho65) hb); have n1_ := A0 (RE (RM HO106.out) (RB ho65) hb); have n2_ := A0 (RE (RM HO109.out) (RB ho65) hb); have n3_ := A0 (RE (RM HO112.out) (RB ho65) hb); have n4_ := A0 (RE (RM HO115.out) (RB ho65) hb); have n5_ := A0 (RE (RM HO119.out) (RB ho65) hb); have n6_ := A0 (RW (RN (RN (RN (RN (RN (RN ho65 (RL (RM HO103.out))) (RL (RM HO106.out))) (RL (RM HO109.out))) (RL (RM HO112.out))) (RL (RM HO115.out))) (RL (RM HO119.out))) (below_size (BM HB.out))); have n7_ := A0 (below_step (BM HB.out) hb); clear HO103; clear HO106; clear HO109; clear HO112; clear HO115; clear HO119; clear HB; have HO103 := n0_; have HO106 := n1_; have HO109 := n2_; have HO112 := n3_; have HO115 := n4_; have HO119 := n5_; have HO127 := n6_; have HB := n7_; clear n0_ n1_ n2_ n3_ n4_ n5_ n6_ n7_; clear hb ho65; obtain ⟨Ao66, co66, eo66⟩ := RS HO127.out; subst eo66) | ((with_reducible refine gate_callee (f := 27) rfl ?_); refine goesL_ (some 37) rfl rfl Try.func27 (by kernel_rfl) rfl #[.slice Ao58 t104.length co58, .slice Ao66 y125.length co66] rfl (by (try simp only [lA, lC, lN]); first | done | rfl | (simp only [lD, lT]; rfl)) ?_; (with_reducible refine (sobriquetkeep_Ints.calls _ _ t104 _ _ y125 true _ ?side1 ?side2 ?side3 ?side4 A48.out).mono ?_); (case side1 => repeat (first | exact (RR HO106.out).2.2 | (with_reducible refine Kd.C_alloc ?_ _) | (with_reducible refine CD ?_ _) | (with_reducible refine Kd.C_drew ?_))); (case side2 => exact (RR HO106.out).2.1); (case side3 => repeat (first | exact (RR HO127.out).2.2 | (with_reducible refine Kd.C_alloc ?_ _) | (with_reducible refine CD ?_ _) | (with_reducible refine Kd.C_drew ?_))); (case side4 => exact (RR HO127.out).2.1); rintro e w' ⟨rfl, ⟨nd, rfl⟩⟩; refine ⟨_, rfl, ?_⟩))
     go_ret
     exact ⟨by first | rfl | (simp [errW_none, errW_some] <;> rfl) | (simp [*, errW_none, errW_some] <;> rfl), BM HB.out⟩
    ·replace c49 := Bool.eq_false_iff.mpr c49
     subst c49
     have H1 : ((sobriquetlaw11_wakes.f).bind fun t129 => (some t129)) = some r := by rw [if_neg (show ¬ (false = true) by decide)] at H; exact H
     clear H
     have H := H1
     clear H1
     replace H := Option.bind_eq_some_iff.mp H
     obtain ⟨t129, A670, H⟩ := H
     replace H : (some t129) = some r := H
     have A67 := A0 A670
     clear A670
     obtain rfl := Option.some.inj H
     go_enter Try.func19, Try.ntmps19
     go_wp2_with (first | ((with_reducible refine gate_dst (N := 9) rfl ?_); refine Kd.R_lit (Kd.int .i64) _ 3 ?hg (N := 9) ?hd (xs := ([a0] : List Int)) (inner := [.int .i64 a0]) (ok := fun _ => True) (okp := fun _ => True) ?hr ?hp (fun _ hk => hk) trivial (Below.refl _ _) (Nat.le_refl _) (by simp) ?_; (case hd => rfl); (case hg => rfl); (case hr => first | (go_simp; done) | (go_simp; rfl)); (case hp => exact (Reps.one (show Kd.M (Kd.int .i64) _ _ _ a0 [.int .i64 a0] from rfl) (Reps.none _ _))); intro v102 w68 ho69 hb hg_ hnew_; clear hg_ hnew_; (first | rw [← Ny101.out] at ho69 | (simp only [Int.reduceToNat] at ho69; rw [← Ny101.out] at ho69)); have n0_ := A0 (RW ho69 (below_size (BM HB.out))); have n1_ := A0 (below_step (BM HB.out) hb); clear HB; have HO103 := n0_; have HB := n1_; clear n0_ n1_; clear hb ho69; obtain ⟨Ao70, co70, eo70⟩ := RS HO103.out; subst eo70) | ((with_reducible refine gate_callee (f := 50) rfl ?_); refine goesL_ (some 10) rfl rfl Try.func50 (by kernel_rfl) rfl #[.slice Ao70 y101.length co70, .bool false] rfl (by (try simp only [lA, lC, lN]); first | done | rfl | (simp only [lD, lT]; rfl)) ?_; (with_reducible refine (norm_Form.calls _ _ y101 false t104 _ ?side1 ?side2 A2.out).mono ?_); (case side1 => repeat (first | exact (RR HO103.out).2.2 | (with_reducible refine Kd.C_alloc ?_ _) | (with_reducible refine CD ?_ _) | (with_reducible refine Kd.C_drew ?_))); (case side2 => exact (RR HO103.out).2.1); rintro e w71 ⟨v105, rfl, ho0, hb⟩; refine ⟨_, rfl, ?_⟩; have n0_ := A0 (RE (RM HO103.out) (RB ho0) hb); have n1_ := A0 (RW (RN ho0 (RL (RM HO103.out))) (below_size (BM HB.out))); have n2_ := A0 (below_step (BM HB.out) hb); clear HO103; clear HB; have HO103 := n0_; have HO106 := n1_; have HB := n2_; clear n0_ n1_ n2_; (try clear hb); (try clear hb2); (try clear hk); (try clear hi); (try clear ho0)) | ((with_reducible refine gate_dst (N := 12) rfl ?_); refine Kd.R_lit (Kd.int .i64) _ 3 ?hg (N := 12) ?hd (xs := ([a0] : List Int)) (inner := [.int .i64 a0]) (ok := fun _ => True) (okp := fun _ => True) ?hr ?hp (fun _ hk => hk) trivial (Below.refl _ _) (Nat.le_refl _) (by simp) ?_; (case hd => rfl); (case hg => rfl); (case hr => first | (go_simp; done) | (go_simp; rfl)); (case hp => exact (Reps.one (show Kd.M (Kd.int .i64) _ _ _ a0 [.int .i64 a0] from rfl) (Reps.none _ _))); intro v108 w72 ho73 hb hg_ hnew_; clear hg_ hnew_; (first | rw [← Ny107.out] at ho73 | (simp only [Int.reduceToNat] at ho73; rw [← Ny107.out] at ho73)); have n0_ := A0 (RE (RM HO103.out) (RB ho73) hb); have n1_ := A0 (RE (RM HO106.out) (RB ho73) hb); have n2_ := A0 (RW (RN (RN ho73 (RL (RM HO103.out))) (RL (RM HO106.out))) (below_size (BM HB.out))); have n3_ := A0 (below_step (BM HB.out) hb); clear HO103; clear HO106; clear HB; have HO103 := n0_; have HO106 := n1_; have HO109 := n2_; have HB := n3_; clear n0_ n1_ n2_ n3_; clear hb ho73; obtain ⟨Ao74, co74, eo74⟩ := RS HO109.out; subst eo74) | ((with_reducible refine gate_callee (f := 51) rfl ?_); refine goesL_ (some 13) rfl rfl Try.func51 (by kernel_rfl) rfl #[.slice Ao74 y107.length co74, .bool false] rfl (by (try simp only [lA, lC, lN]); first | done | rfl | (simp only [lD, lT]; rfl)) ?_; (with_reducible refine (norm_Apart.calls _ _ y107 false t110 _ ?side1 ?side2 A3.out).mono ?_); (case side1 => repeat (first | exact (RR HO109.out).2.2 | (with_reducible refine Kd.C_alloc ?_ _) | (with_reducible refine CD ?_ _) | (with_reducible refine Kd.C_drew ?_))); (case side2 => exact (RR HO109.out).2.1); rintro e w75 ⟨v111, rfl, ho0, hb⟩; refine ⟨_, rfl, ?_⟩; have n0_ := A0 (RE (RM HO103.out) (RB ho0) hb); have n1_ := A0 (RE (RM HO106.out) (RB ho0) hb); have n2_ := A0 (RE (RM HO109.out) (RB ho0) hb); have n3_ := A0 (RW (RN (RN (RN ho0 (RL (RM HO103.out))) (RL (RM HO106.out))) (RL (RM HO109.out))) (below_size (BM HB.out))); have n4_ := A0 (below_step (BM HB.out) hb); clear HO103; clear HO106; clear HO109; clear HB; have HO103 := n0_; have HO106 := n1_; have HO109 := n2_; have HO112 := n3_; have HB := n4_; clear n0_ n1_ n2_ n3_ n4_; (try clear hb); (try clear hb2); (try clear hk); (try clear hi); (try clear ho0); obtain ⟨Ao76, co76, eo76⟩ := RS HO106.out; subst eo76) | ((with_reducible refine gate_callee (f := 51) rfl ?_); refine goesL_ (some 15) rfl rfl Try.func51 (by kernel_rfl) rfl #[.slice Ao76 t104.length co76, .bool false] rfl (by (try simp only [lA, lC, lN]); first | done | rfl | (simp only [lD, lT]; rfl)) ?_; (with_reducible refine (norm_Apart.calls _ _ t104 false t113 _ ?side1 ?side2 A4.out).mono ?_); (case side1 => repeat (first | exact (RR HO106.out).2.2 | (with_reducible refine Kd.C_alloc ?_ _) | (with_reducible refine CD ?_ _) | (with_reducible refine Kd.C_drew ?_))); (case side2 => exact (RR HO106.out).2.1); rintro e w77 ⟨v114, rfl, ho0, hb⟩; refine ⟨_, rfl, ?_⟩; have n0_ := A0 (RE (RM HO103.out) (RB ho0) hb); have n1_ := A0 (RE (RM HO106.out) (RB ho0) hb); have n2_ := A0 (RE (RM HO109.out) (RB ho0) hb); have n3_ := A0 (RE (RM HO112.out) (RB ho0) hb); have n4_ := A0 (RW (RN (RN (RN (RN ho0 (RL (RM HO103.out))) (RL (RM HO106.out))) (RL (RM HO109.out))) (RL (RM HO112.out))) (below_size (BM HB.out))); have n5_ := A0 (below_step (BM HB.out) hb); clear HO103; clear HO106; clear HO109; clear HO112; clear HB; have HO103 := n0_; have HO106 := n1_; have HO109 := n2_; have HO112 := n3_; have HO115 := n4_; have HB := n5_; clear n0_ n1_ n2_ n3_ n4_ n5_; (try clear hb); (try clear hb2); (try clear hk); (try clear hi); (try clear ho0); obtain ⟨Ao78, co78, eo78⟩ := RS HO115.out; subst eo78; obtain ⟨Ao79, co79, eo79⟩ := RS HO112.out; subst eo79) | ((with_reducible refine gate_callee (f := 27) rfl ?_); refine goesL_ (some 17) rfl rfl Try.func27 (by kernel_rfl) rfl #[.slice Ao78 t113.length co78, .slice Ao79 t110.length co79] rfl (by (try simp only [lA, lC, lN]); first | done | rfl | (simp only [lD, lT]; rfl)) ?_; (with_reducible refine (sobriquetkeep_Ints.calls _ _ t113 _ _ t110 true _ ?side1 ?side2 ?side3 ?side4 A5.out).mono ?_); (case side1 => repeat (first | exact (RR HO115.out).2.2 | (with_reducible refine Kd.C_alloc ?_ _) | (with_reducible refine CD ?_ _) | (with_reducible refine Kd.C_drew ?_))); (case side2 => exact (RR HO115.out).2.1); (case side3 => repeat (first | exact (RR HO112.out).2.2 | (with_reducible refine Kd.C_alloc ?_ _) | (with_reducible refine CD ?_ _) | (with_reducible refine Kd.C_drew ?_))); (case side4 => exact (RR HO112.out).2.1); rintro e w' ⟨rfl, ⟨nd, rfl⟩⟩; refine ⟨_, rfl, ?_⟩) | ((with_reducible refine gate_callee (f := 55) rfl ?_); refine goesL_ (some 20) rfl rfl Try.func55 (by kernel_rfl) rfl #[.int .i64 a0] rfl (by (try simp only [lA, lC, lN]); first | done | rfl | (simp only [lD, lT]; rfl)) ?_; (with_reducible refine (ucd_Canon.calls a0 t117 _ A7.out).mono ?_); rintro e w80 ⟨v118, rfl, ho0, hb⟩; refine ⟨_, rfl, ?_⟩; have n0_ := A0 (RE (RM HO103.out) (RB ho0) hb); have n1_ := A0 (RE (RM HO106.out) (RB ho0) hb); have n2_ := A0 (RE (RM HO109.out) (RB ho0) hb); have n3_ := A0 (RE (RM HO112.out) (RB ho0) hb); have n4_ := A0 (RE (RM HO115.out) (RB ho0) hb); have n5_ := A0 (RW (RN (RN (RN (RN (RN ho0 (RL (RM HO103.out))) (RL (RM HO106.out))) (RL (RM HO109.out))) (RL (RM HO112.out))) (RL (RM HO115.out))) (below_size (BM HB.out))); have n6_ := A0 (below_step (BM HB.out) hb); clear HO103; clear HO106; clear HO109; clear HO112; clear HO115; clear HB; have HO103 := n0_; have HO106 := n1_; have HO109 := n2_; have HO112 := n3_; have HO115 := n4_; have HO119 := n5_; have HB := n6_; clear n0_ n1_ n2_ n3_ n4_ n5_ n6_; (try clear hb); (try clear hb2); (try clear hk); (try clear hi); (try clear ho0); obtain ⟨Ao81, co81, eo81⟩ := RS HO119.out; subst eo81) | ((with_reducible refine gate_dst (N := 36) rfl ?_); refine Kd.R_lit (Kd.int .i64) _ 3 ?hg (N := 36) ?hd (xs := ([a0] : List Int)) (inner := [.int .i64 a0]) (ok := fun _ => True) (okp := fun _ => True) ?hr ?hp (fun _ hk => hk) trivial (Below.refl _ _) (Nat.le_refl _) (by simp) ?_; (case hd => rfl); (case hg => rfl); (case hr => first | (go_simp; done) | (go_simp; rfl)); (case hp => exact (Reps.one (show Kd.M (Kd.int .i64) _ _ _ a0 [.int .i64 a0] from rfl) (Reps.none _ _))); intro v126 w82 ho83 hb hg_ hnew_; clear hg_ hnew_; (first | rw [← Ny125.out] at ho83 | (simp only [Int.reduceToNat] at ho83; rw [← Ny125.out] at ho83)); have n0_ := A0 (RE (RM HO103.out) (RB ho83) hb); have n1_ := A0 (RE (RM HO106.out) (RB ho83) hb); have n2_ := A0 (RE (RM HO109.out) (RB ho83) hb); have n3_ := A0 (RE (RM HO112.out) (RB ho83) hb); have n4_ := A0 (RE (RM HO115.out) (RB ho83) hb); have n5_ := A0 (RE (RM HO119.out) (RB ho83) hb); have n6_ := A0 (RW (RN (RN (RN (RN (RN (RN ho83 (RL (RM HO103.out))) (RL (RM HO106.out))) (RL (RM HO109.out))) (RL (RM HO112.out))) (RL (RM HO115.out))) (RL (RM HO119.out))) (below_size (BM HB.out))); have n7_ := A0 (below_step (BM HB.out) hb); clear HO103; clear HO106; clear HO109; clear HO112; clear HO115; clear HO119; clear HB; have HO103 := n0_; have HO106 := n1_; have HO109 := n2_; have HO112 := n3_; have HO115 := n4_; have HO119 := n5_; have HO127 := n6_; have HB := n7_; clear n0_ n1_ n2_ n3_ n4_ n5_ n6_ n7_; clear hb ho83; obtain ⟨Ao84, co84, eo84⟩ := RS HO127.out; subst eo84) | ((with_reducible refine gate_callee (f := 27) rfl ?_); refine goesL_ (some 37) rfl rfl Try.func27 (by kernel_rfl) rfl #[.slice Ao76 t104.length co76, .slice Ao84 y125.length co84] rfl (by (try simp only [lA, lC, lN]); first | done | rfl | (simp only [lD, lT]; rfl)) ?_; (with_reducible refine (sobriquetkeep_Ints.calls _ _ t104 _ _ y125 false _ ?side1 ?side2 ?side3 ?side4 A48.out).mono ?_); (case side1 => repeat (first | exact (RR HO106.out).2.2 | (with_reducible refine Kd.C_alloc ?_ _) | (with_reducible refine CD ?_ _) | (with_reducible refine Kd.C_drew ?_))); (case side2 => exact (RR HO106.out).2.1); (case side3 => repeat (first | exact (RR HO127.out).2.2 | (with_reducible refine Kd.C_alloc ?_ _) | (with_reducible refine CD ?_ _) | (with_reducible refine Kd.C_drew ?_))); (case side4 => exact (RR HO127.out).2.1); rintro e w' ⟨rfl, ⟨nd, rfl⟩⟩; refine ⟨_, rfl, ?_⟩) | (go_at_call 52; (with_reducible refine (sobriquetlaw11_wakes.calls  t129 _ A67.out).mono ?_); rintro e w85 ⟨rfl, hb⟩; have n0_ := A0 (Kd.R_below (RM HO103.out) hb); have n1_ := A0 (Kd.R_below (RM HO106.out) hb); have n2_ := A0 (Kd.R_below (RM HO109.out) hb); have n3_ := A0 (Kd.R_below (RM HO112.out) hb); have n4_ := A0 (Kd.R_below (RM HO115.out) hb); have n5_ := A0 (Kd.R_below (RM HO119.out) hb); have n6_ := A0 (Kd.R_below (RM HO127.out) hb); have n7_ := A0 (below_step (BM HB.out) hb); clear HO103; clear HO106; clear HO109; clear HO112; clear HO115; clear HO119; clear HO127; clear HB; have HO103 := n0_; have HO106 := n1_; have HO109 := n2_; have HO112 := n3_; have HO115 := n4_; have HO119 := n5_; have HO127 := n6_; have HB := n7_; clear n0_ n1_ n2_ n3_ n4_ n5_ n6_ n7_; (try clear hb); (try clear hb2); (try clear hk); (try clear hi)))
     go_ret
     exact ⟨by first | rfl | (simp [errW_none, errW_some] <;> rfl) | (simp [*, errW_none, errW_some] <;> rfl), BM HB.out⟩
   ·rw [if_neg c47] at H
    have c47b0 : ((t117.length : Int) == 1) = false := beq_eq_false_iff_ne.mpr c47
    have c47b1 : ((t117.length : Int) != 1) = true := bne_iff_ne.mpr c47
    by_cases c86 : 0 < (t117.length : Int)
    ·rw [if_pos c86] at H
     have c86b0 : decide (0 < (t117.length : Int)) = true := decide_eq_true c86
     have c86b1 : decide (0 < t117.length) = true := decide_eq_true (by omega)
     clear c86
     by_cases c87 : 1 < (t117.length : Int)
     ·rw [if_pos c87] at H
      have c87b0 : decide (1 < (t117.length : Int)) = true := decide_eq_true c87
      have c87b1 : decide (1 < t117.length) = true := decide_eq_true (by omega)
      clear c87
      replace H := Option.bind_eq_some_iff.mp H
      obtain ⟨⟨t132, t133⟩, A880, H⟩ := H
      replace H : ((sobriquetkeep_Ints.f t104 (([a0] : List Int))).bind fun t137 => (if t133 = true then (if (t137 == (t132 == a0)) = true then ((sobriquetlaw11_wakes.f).bind fun t138 => (some t138)) else (some false)) else (if (t137 == false) = true then ((sobriquetlaw11_wakes.f).bind fun t139 => (some t139)) else (some false)))) = some r := H
      have A88 := A0 A880
      clear A880
      obtain ⟨y134, hy134⟩ : ∃ y_ : List Int, y_ = (([a0] : List Int)) := ⟨_, rfl⟩
      replace H : ((sobriquetkeep_Ints.f t104 y134).bind fun t137 => (if t133 = true then (if (t137 == (t132 == a0)) = true then ((sobriquetlaw11_wakes.f).bind fun t138 => (some t138)) else (some false)) else (if (t137 == false) = true then ((sobriquetlaw11_wakes.f).bind fun t139 => (some t139)) else (some false)))) = some r := by first | (rw [hy134]; with_reducible exact H) | (have H2_ := (Option.bind_some _ _).symm.trans H; rw [hy134]; with_reducible exact H2_) | (have H2_ := (Option.bind_some _ _).symm.trans H; with_reducible exact H2_) | with_reducible exact H | (rw [hy134]; exact H) | exact H
      have Ny134 := A0 hy134
      clear hy134
      replace H := Option.bind_eq_some_iff.mp H
      obtain ⟨t137, A890, H⟩ := H
      replace H : (if t133 = true then (if (t137 == (t132 == a0)) = true then ((sobriquetlaw11_wakes.f).bind fun t138 => (some t138)) else (some false)) else (if (t137 == false) = true then ((sobriquetlaw11_wakes.f).bind fun t139 => (some t139)) else (some false))) = some r := H
      have A89 := A0 A890
      clear A890
      by_cases c90 : t133 = true
      ·subst c90
       have H1 : (if (t137 == (t132 == a0)) = true then ((sobriquetlaw11_wakes.f).bind fun t138 => (some t138)) else (some false)) = some r := by rw [if_pos rfl] at H; exact H
       clear H
       have H := H1
       clear H1
       by_cases c91 : (t137 == (t132 == a0)) = true
       ·rw [if_pos c91] at H
        have c91b0 : (t137 == (t132 == a0)) = true := c91
        (try (have c91b1 : decide (t137 = (t132 == a0)) = true := by simpa using c91))
        (try (have c91b2 : (t137 == (t132 == a0)) = true := by simpa using c91))
        clear c91
        replace H := Option.bind_eq_some_iff.mp H
        obtain ⟨t138, A920, H⟩ := H
        replace H : (some t138) = some r := H
        have A92 := A0 A920
        clear A920
        obtain rfl := Option.some.inj H
        go_enter Try.func19, Try.ntmps19
        try go_wp2_with (first | ((with_reducible refine gate_dst (N := 9) rfl ?_); refine Kd.R_lit (Kd.int .i64) _ 3 ?hg (N := 9) ?hd (xs := ([a0] : List Int)) (inner := [.int .i64 a0]) (ok := fun _ => True) (okp := fun _ => True) ?hr ?hp (fun _ hk => hk) trivial (Below.refl _ _) (Nat.le_refl _) (by simp) ?_; (case hd => rfl); (case hg => rfl); (case hr => first | (go_simp; done) | (go_simp; rfl)); (case hp => exact (Reps.one (show Kd.M (Kd.int .i64) _ _ _ a0 [.int .i64 a0] from rfl) (Reps.none _ _))); intro v102 w93 ho94 hb hg_ hnew_; clear hg_ hnew_; (first | rw [← Ny101.out] at ho94 | (simp only [Int.reduceToNat] at ho94; rw [← Ny101.out] at ho94)); have n0_ := A0 (RW ho94 (below_size (BM HB.out))); have n1_ := A0 (below_step (BM HB.out) hb); clear HB; have HO103 := n0_; have HB := n1_; clear n0_ n1_; clear hb ho94; obtain ⟨Ao95, co95, eo95⟩ := RS HO103.out; subst eo95) | ((with_reducible refine gate_callee (f := 50) rfl ?_); refine goesL_ (some 10) rfl rfl Try.func50 (by kernel_rfl) rfl #[.slice Ao95 y101.length co95, .bool false] rfl (by (try simp only [lA, lC, lN]); first | done | rfl | (simp only [lD, lT]; rfl)) ?_; (with_reducible refine (norm_Form.calls _ _ y101 false t104 _ ?side1 ?side2 A2.out).mono ?_); (case side1 => repeat (first | exact (RR HO103.out).2.2 | (with_reducible refine Kd.C_alloc ?_ _) | (with_reducible refine CD ?_ _) | (with_reducible refine Kd.C_drew ?_))); (case side2 => exact (RR HO103.out).2.1); rintro e w96 ⟨v105, rfl, ho0, hb⟩; refine ⟨_, rfl, ?_⟩; have n0_ := A0 (RE (RM HO103.out) (RB ho0) hb); have n1_ := A0 (RW (RN ho0 (RL (RM HO103.out))) (below_size (BM HB.out))); have n2_ := A0 (below_step (BM HB.out) hb); clear HO103; clear HB; have HO103 := n0_; have HO106 := n1_; have HB := n2_; clear n0_ n1_ n2_; (try clear hb); (try clear hb2); (try clear hk); (try clear hi); (try clear ho0)) | ((with_reducible refine gate_dst (N := 12) rfl ?_); refine Kd.R_lit (Kd.int .i64) _ 3 ?hg (N := 12) ?hd (xs := ([a0] : List Int)) (inner := [.int .i64 a0]) (ok := fun _ => True) (okp := fun _ => True) ?hr ?hp (fun _ hk => hk) trivial (Below.refl _ _) (Nat.le_refl _) (by simp) ?_; (case hd => rfl); (case hg => rfl); (case hr => first | (go_simp; done) | (go_simp; rfl)); (case hp => exact (Reps.one (show Kd.M (Kd.int .i64) _ _ _ a0 [.int .i64 a0] from rfl) (Reps.none _ _))); intro v108 w97 ho98 hb hg_ hnew_; clear hg_ hnew_; (first | rw [← Ny107.out] at ho98 | (simp only [Int.reduceToNat] at ho98; rw [← Ny107.out] at ho98)); have n0_ := A0 (RE (RM HO103.out) (RB ho98) hb); have n1_ := A0 (RE (RM HO106.out) (RB ho98) hb); have n2_ := A0 (RW (RN (RN ho98 (RL (RM HO103.out))) (RL (RM HO106.out))) (below_size (BM HB.out))); have n3_ := A0 (below_step (BM HB.out) hb); clear HO103; clear HO106; clear HB; have HO103 := n0_; have HO106 := n1_; have HO109 := n2_; have HB := n3_; clear n0_ n1_ n2_ n3_; clear hb ho98; obtain ⟨Ao99, co99, eo99⟩ := RS HO109.out; subst eo99) | ((with_reducible refine gate_callee (f := 51) rfl ?_); refine goesL_ (some 13) rfl rfl Try.func51 (by kernel_rfl) rfl #[.slice Ao99 y107.length co99, .bool false] rfl (by (try simp only [lA, lC, lN]); first | done | rfl | (simp only [lD, lT]; rfl)) ?_; (with_reducible refine (norm_Apart.calls _ _ y107 false t110 _ ?side1 ?side2 A3.out).mono ?_); (case side1 => repeat (first | exact (RR HO109.out).2.2 | (with_reducible refine Kd.C_alloc ?_ _) | (with_reducible refine CD ?_ _) | (with_reducible refine Kd.C_drew ?_))); (case side2 => exact (RR HO109.out).2.1); rintro e w100 ⟨v111, rfl, ho0, hb⟩; refine ⟨_, rfl, ?_⟩; have n0_ := A0 (RE (RM HO103.out) (RB ho0) hb); have n1_ := A0 (RE (RM HO106.out) (RB ho0) hb); have n2_ := A0 (RE (RM HO109.out) (RB ho0) hb); have n3_ := A0 (RW (RN (RN (RN ho0 (RL (RM HO103.out))) (RL (RM HO106.out))) (RL (RM HO109.out))) (below_size (BM HB.out))); have n4_ := A0 (below_step (BM HB.out) hb); clear HO103; clear HO106; clear HO109; clear HB; have HO103 := n0_; have HO106 := n1_; have HO109 := n2_; have HO112 := n3_; have HB := n4_; clear n0_ n1_ n2_ n3_ n4_; (try clear hb); (try clear hb2); (try clear hk); (try clear hi); (try clear ho0); obtain ⟨Ao101, co101, eo101⟩ := RS HO106.out; subst eo101) | ((with_reducible refine gate_callee (f := 51) rfl ?_); refine goesL_ (some 15) rfl rfl Try.func51 (by kernel_rfl) rfl #[.slice Ao101 t104.length co101, .bool false] rfl (by (try simp only [lA, lC, lN]); first | done | rfl | (simp only [lD, lT]; rfl)) ?_; (with_reducible refine (norm_Apart.calls _ _ t104 false t113 _ ?side1 ?side2 A4.out).mono ?_); (case side1 => repeat (first | exact (RR HO106.out).2.2 | (with_reducible refine Kd.C_alloc ?_ _) | (with_reducible refine CD ?_ _) | (with_reducible refine Kd.C_drew ?_))); (case side2 => exact (RR HO106.out).2.1); rintro e w102 ⟨v114, rfl, ho0, hb⟩; refine ⟨_, rfl, ?_⟩; have n0_ := A0 (RE (RM HO103.out) (RB ho0) hb); have n1_ := A0 (RE (RM HO106.out) (RB ho0) hb); have n2_ := A0 (RE (RM HO109.out) (RB ho0) hb); have n3_ := A0 (RE (RM HO112.out) (RB ho0) hb); have n4_ := A0 (RW (RN (RN (RN (RN ho0 (RL (RM HO103.out))) (RL (RM HO106.out))) (RL (RM HO109.out))) (RL (RM HO112.out))) (below_size (BM HB.out))); have n5_ := A0 (below_step (BM HB.out) hb); clear HO103; clear HO106; clear HO109; clear HO112; clear HB; have HO103 := n0_; have HO106 := n1_; have HO109 := n2_; have HO112 := n3_; have HO115 := n4_; have HB := n5_; clear n0_ n1_ n2_ n3_ n4_ n5_; (try clear hb); (try clear hb2); (try clear hk); (try clear hi); (try clear ho0); obtain ⟨Ao103, co103, eo103⟩ := RS HO115.out; subst eo103; obtain ⟨Ao104, co104, eo104⟩ := RS HO112.out; subst eo104) | ((with_reducible refine gate_callee (f := 27) rfl ?_); refine goesL_ (some 17) rfl rfl Try.func27 (by kernel_rfl) rfl #[.slice Ao103 t113.length co103, .slice Ao104 t110.length co104] rfl (by (try simp only [lA, lC, lN]); first | done | rfl | (simp only [lD, lT]; rfl)) ?_; (with_reducible refine (sobriquetkeep_Ints.calls _ _ t113 _ _ t110 true _ ?side1 ?side2 ?side3 ?side4 A5.out).mono ?_); (case side1 => repeat (first | exact (RR HO115.out).2.2 | (with_reducible refine Kd.C_alloc ?_ _) | (with_reducible refine CD ?_ _) | (with_reducible refine Kd.C_drew ?_))); (case side2 => exact (RR HO115.out).2.1); (case side3 => repeat (first | exact (RR HO112.out).2.2 | (with_reducible refine Kd.C_alloc ?_ _) | (with_reducible refine CD ?_ _) | (with_reducible refine Kd.C_drew ?_))); (case side4 => exact (RR HO112.out).2.1); rintro e w' ⟨rfl, ⟨nd, rfl⟩⟩; refine ⟨_, rfl, ?_⟩) | ((with_reducible refine gate_callee (f := 55) rfl ?_); refine goesL_ (some 20) rfl rfl Try.func55 (by kernel_rfl) rfl #[.int .i64 a0] rfl (by (try simp only [lA, lC, lN]); first | done | rfl | (simp only [lD, lT]; rfl)) ?_; (with_reducible refine (ucd_Canon.calls a0 t117 _ A7.out).mono ?_); rintro e w105 ⟨v118, rfl, ho0, hb⟩; refine ⟨_, rfl, ?_⟩; have n0_ := A0 (RE (RM HO103.out) (RB ho0) hb); have n1_ := A0 (RE (RM HO106.out) (RB ho0) hb); have n2_ := A0 (RE (RM HO109.out) (RB ho0) hb); have n3_ := A0 (RE (RM HO112.out) (RB ho0) hb); have n4_ := A0 (RE (RM HO115.out) (RB ho0) hb); have n5_ := A0 (RW (RN (RN (RN (RN (RN ho0 (RL (RM HO103.out))) (RL (RM HO106.out))) (RL (RM HO109.out))) (RL (RM HO112.out))) (RL (RM HO115.out))) (below_size (BM HB.out))); have n6_ := A0 (below_step (BM HB.out) hb); clear HO103; clear HO106; clear HO109; clear HO112; clear HO115; clear HB; have HO103 := n0_; have HO106 := n1_; have HO109 := n2_; have HO112 := n3_; have HO115 := n4_; have HO119 := n5_; have HB := n6_; clear n0_ n1_ n2_ n3_ n4_ n5_ n6_; (try clear hb); (try clear hb2); (try clear hk); (try clear hi); (try clear ho0); obtain ⟨Ao106, co106, eo106⟩ := RS HO119.out; subst eo106))
        have n0_ := A0 (Kd.R_drew HO103.out)
        have n1_ := A0 (Kd.R_drew HO106.out)
        have n2_ := A0 (Kd.R_drew HO109.out)
        have n3_ := A0 (Kd.R_drew HO112.out)
        have n4_ := A0 (Kd.R_drew HO115.out)
        have n5_ := A0 (Kd.R_drew HO119.out)
        have n6_ := A0 (below_drew1 HB.out)
        clear HO103
        clear HO106
        clear HO109
        clear HO112
        clear HO115
        clear HO119
        clear HB
        have HO103 := n0_
        have HO106 := n1_
        have HO109 := n2_
        have HO112 := n3_
        have HO115 := n4_
        have HO119 := n5_
        have HB := n6_
        clear n0_ n1_ n2_ n3_ n4_ n5_ n6_
        have p130 : 0 ≤ (0 : Int) := (by omega)
        have q130 : 0 < (t117.length : Int) := of_decide_eq_true (by first | (with_reducible assumption) | assumption)
        obtain ⟨ad130, e130, hx130_0⟩ := Kd.at_int (RR HO119.out).2.2 0 p130 q130
        cases e130
        have qi130 : (0 < t117.length) = True := eq_true (by omega)
        (try rw [show ((0 : Int)).toNat = 0 from rfl] at hx130_0)
        (try rw [Addr.add_zero'] at hx130_0)
        replace p130 := eq_true p130
        replace q130 := eq_true q130
        have p131 : 0 ≤ (1 : Int) := (by omega)
        have q131 : 1 < (t117.length : Int) := of_decide_eq_true (by first | (with_reducible assumption) | assumption)
        obtain ⟨ad131, e131, hx131_0⟩ := Kd.at_int (RR HO119.out).2.2 1 p131 q131
        obtain rfl : ad130 = ad131 := (by injection e131)
        (try simp only [show (1 : Int).toNat = 1 from rfl, Nat.reduceMul, Nat.reduceEqDiff, Go.Addr.add, ↓reduceIte] at hx131_0)
        have qi131 : (1 < t117.length) = True := eq_true (by omega)
        (try rw [show ((1 : Int)).toNat = 1 from rfl] at hx131_0)
        replace p131 := eq_true p131
        replace q131 := eq_true q131
        refine start_ (n := 12) (S := fun w' => w'.cell? ad130 = some (.int .i64 (rd t117 0)) ∧ w'.cell? ⟨ad130.block, ad130.off + 1, none⟩ = some (.int .i64 (rd t117 1))) (ds := []) mk_LnS1_0 (by kernel_rfl) rfl rfl ⟨hx130_0, hx131_0⟩ (fun hHeld => ?_); refine with_tabW sobriquetlaw11_NormScalars.tab9 sobriquetlaw11_NormScalars.bits9 (fun HT_ HW_ => ?_)
        generalize w105.drew = w107 at HO103 HO106 HO109 HO112 HO115 HO119 HB hx130_0 hx131_0 hHeld ⊢
        refine pure_ (i := 0) (N := some 43) (v := ?_) (a' := ?_) mk_LnS1_1 rfl rfl (any_of HT_.out (by kernel_rfl)) (fun _ _ _ h => h) (Or.inl ⟨by rfl, ?_⟩) ?_ ?_
        rotate_left
        ·intro w'
         go_simp
         with_reducible rfl
        rotate_left
        ·simp only [Act.put, sA, sZ, sS, i64_w, i32_w]
         rfl
        refine pure_ (i := 1) (N := some 44) (v := ?_) (a' := ?_) mk_LnS1_2 rfl rfl (any_of HT_.out (by kernel_rfl)) (fun _ _ _ h => h) (Or.inl ⟨by rfl, ?_⟩) ?_ ?_
        rotate_left
        ·intro w'
         go_simp
         with_reducible rfl
        rotate_left
        ·simp only [Act.put, sA, sZ, sS, i64_w, i32_w]
         rfl
        refine pure_ (i := 3) (N := some 46) (v := ?_) (a' := ?_) mk_LnS1_3 rfl rfl (any_of HT_.out (by kernel_rfl)) (fun _ _ _ h => h) (Or.inl ⟨by rfl, ?_⟩) ?_ ?_
        rotate_left
        ·intro w'
         go_simp
         with_reducible rfl
        rotate_left
        ·simp only [Act.put, sA, sZ, sS, i64_w, i32_w]
         rfl
        refine pure_ (i := 4) (N := some 47) (v := ?_) (a' := ?_) mk_LnS1_4 rfl rfl (any_of HT_.out (by kernel_rfl)) (fun _ _ _ h => h) (Or.inl ⟨by rfl, ?_⟩) ?_ ?_
        rotate_left
        ·intro w'
         go_simp
         with_reducible rfl
        rotate_left
        ·simp only [Act.put, sA, sZ, sS, i64_w, i32_w]
         rfl
        refine take_ (i := 2) (N := some 45) (v := ?_) (a' := ?_) mk_LnS1_5 rfl rfl (take_ofW HT_.out HW_.out (by kernel_rfl)) (fun _ _ _ h => h) (Or.inl ⟨by rfl, ?_⟩) hHeld ?_ ?_
        rotate_left
        ·rintro w' ⟨s0, s1⟩
         go_simp
         with_reducible rfl
        rotate_left
        ·simp only [Act.put, sA, sZ, sS, i64_w, i32_w]
         rfl
        refine take_ (i := 5) (N := some 48) (v := ?_) (a' := ?_) mk_LnS1_6 rfl rfl (take_ofW HT_.out HW_.out (by kernel_rfl)) (fun _ _ _ h => h) (Or.inl ⟨by rfl, ?_⟩) hHeld ?_ ?_
        rotate_left
        ·rintro w' ⟨s0, s1⟩
         go_simp
         with_reducible rfl
        rotate_left
        ·simp only [Act.put, sA, sZ, sS, i64_w, i32_w]
         rfl
        refine one_ (i := 6) (N := some 49) mk_LnS1_7 rfl rfl (one_of HT_.out (by kernel_rfl)) (by decide) (fun K hK => ?_)
        refine goes_ Try.func35 (by kernel_rfl) rfl #[.int .i64 (rd t117 0), .int .i64 (rd t117 1)] (by rfl) rfl rfl (by (try simp only [lA, lC, lN]); first | done | rfl | (simp only [lD, lT]; rfl)) ?_
        with_reducible refine (ucd_Pair.calls (rd t117 0) (rd t117 1) t132 true _ A88.out).mono ?_
        rintro e w108 ⟨rfl, hb⟩
        have HS0_ := (hb.cell (World.block_lt_of_cell? _ _ (hHeld.1))).trans (hHeld.1)
        have HS1_ := (hb.cell (World.block_lt_of_cell? _ _ (hHeld.2))).trans (hHeld.2)
        refine ⟨_, rfl, ?_⟩
        have n0_ := A0 (Kd.R_below (RM HO103.out) hb)
        have n1_ := A0 (Kd.R_below (RM HO106.out) hb)
        have n2_ := A0 (Kd.R_below (RM HO109.out) hb)
        have n3_ := A0 (Kd.R_below (RM HO112.out) hb)
        have n4_ := A0 (Kd.R_below (RM HO115.out) hb)
        have n5_ := A0 (Kd.R_below (RM HO119.out) hb)
        have n6_ := A0 (below_step (BM HB.out) hb)
        clear HO103
        clear HO106
        clear HO109
        clear HO112
        clear HO115
        clear HO119
        clear HB
        have HO103 := n0_
        have HO106 := n1_
        have HO109 := n2_
        have HO112 := n3_
        have HO115 := n4_
        have HO119 := n5_
        have HB := n6_
        clear n0_ n1_ n2_ n3_ n4_ n5_ n6_
        (try clear hb)
        (try clear hb2)
        (try clear hk)
        (try clear hi)
        refine hK.out _ _ ⟨HS0_, HS1_⟩ (fun hHeld => ?_)
        clear hK K
        refine norm_ (a' := ?_) ?_ ?_
        rotate_left
        ·show Act.put _ (some 49) _ = _
         simp only [Act.put, sA, sZ, sS, i64_w, i32_w]
         rfl
        refine pure_ (i := 7) (N := some 42) (v := ?_) (a' := ?_) mk_LnS1_8 rfl rfl (any_of HT_.out (by kernel_rfl)) (fun _ _ _ h => h) (Or.inl ⟨by rfl, ?_⟩) ?_ ?_
        rotate_left
        ·intro w'
         go_simp
         with_reducible rfl
        rotate_left
        ·simp only [Act.put, sA, sZ, sS, i64_w, i32_w]
         rfl
        refine pure_ (i := 8) (N := some 50) (v := ?_) (a' := ?_) mk_LnS1_9 rfl rfl (any_of HT_.out (by kernel_rfl)) (fun _ _ _ h => h) (Or.inl ⟨by rfl, ?_⟩) ?_ ?_
        rotate_left
        ·intro w'
         go_simp
         with_reducible rfl
        rotate_left
        ·simp only [Act.put, sA, sZ, sS, i64_w, i32_w]
         rfl
        refine pure_ (i := 9) (N := some 51) (v := ?_) (a' := ?_) mk_LnS1_10 rfl rfl (any_of HT_.out (by kernel_rfl)) (fun _ _ _ h => h) (Or.inl ⟨by rfl, ?_⟩) ?_ ?_
        rotate_left
        ·intro w'
         go_simp
         with_reducible rfl
        rotate_left
        ·simp only [Act.put, sA, sZ, sS, i64_w, i32_w]
         rfl
        refine pure_ (i := 10) (N := some 6) (v := ?_) (a' := ?_) mk_LnS1_11 rfl rfl (any_of HT_.out (by kernel_rfl)) (fun _ _ _ h => h) (Or.inl ⟨by rfl, ?_⟩) ?_ ?_
        rotate_left
        ·intro w'
         go_simp
         with_reducible rfl
        rotate_left
        ·simp only [Act.put, sA, sZ, sS, i64_w, i32_w]
         rfl
        refine pure_ (i := 11) (N := some 7) (v := ?_) (a' := ?_) mk_LnS1_12 rfl rfl (any_of HT_.out (by kernel_rfl)) (fun _ _ _ h => h) (Or.inl ⟨by rfl, ?_⟩) ?_ ?_
        rotate_left
        ·intro w'
         go_simp
         with_reducible rfl
        rotate_left
        ·simp only [Act.put, sA, sZ, sS, i64_w, i32_w]
         rfl
        refine done_ (done_of HT_.out (by kernel_rfl)) ?_
        try go_wp2_with (first | ((with_reducible refine gate_dst (N := 54) rfl ?_); refine Kd.R_lit (Kd.int .i64) _ 3 ?hg (N := 54) ?hd (xs := ([a0] : List Int)) (inner := [.int .i64 a0]) (ok := fun _ => True) (okp := fun _ => True) ?hr ?hp (fun _ hk => hk) trivial (Below.refl _ _) (Nat.le_refl _) (by simp) ?_; (case hd => rfl); (case hg => rfl); (case hr => first | (go_simp; done) | (go_simp; rfl)); (case hp => exact (Reps.one (show Kd.M (Kd.int .i64) _ _ _ a0 [.int .i64 a0] from rfl) (Reps.none _ _))); intro v135 w109 ho110 hb hg_ hnew_; clear hg_ hnew_; (first | rw [← Ny134.out] at ho110 | (simp only [Int.reduceToNat] at ho110; rw [← Ny134.out] at ho110)); have n0_ := A0 (RE (RM HO103.out) (RB ho110) hb); have n1_ := A0 (RE (RM HO106.out) (RB ho110) hb); have n2_ := A0 (RE (RM HO109.out) (RB ho110) hb); have n3_ := A0 (RE (RM HO112.out) (RB ho110) hb); have n4_ := A0 (RE (RM HO115.out) (RB ho110) hb); have n5_ := A0 (RE (RM HO119.out) (RB ho110) hb); have n6_ := A0 (RW (RN (RN (RN (RN (RN (RN ho110 (RL (RM HO103.out))) (RL (RM HO106.out))) (RL (RM HO109.out))) (RL (RM HO112.out))) (RL (RM HO115.out))) (RL (RM HO119.out))) (below_size (BM HB.out))); have n7_ := A0 (below_step (BM HB.out) hb); clear HO103; clear HO106; clear HO109; clear HO112; clear HO115; clear HO119; clear HB; have HO103 := n0_; have HO106 := n1_; have HO109 := n2_; have HO112 := n3_; have HO115 := n4_; have HO119 := n5_; have HO136 := n6_; have HB := n7_; clear n0_ n1_ n2_ n3_ n4_ n5_ n6_ n7_; clear hb ho110; obtain ⟨Ao111, co111, eo111⟩ := RS HO136.out; subst eo111) | ((with_reducible refine gate_callee (f := 27) rfl ?_); refine goesL_ (some 55) rfl rfl Try.func27 (by kernel_rfl) rfl #[.slice Ao101 t104.length co101, .slice Ao111 y134.length co111] rfl (by (try simp only [lA, lC, lN]); first | done | rfl | (simp only [lD, lT]; rfl)) ?_; (with_reducible refine (sobriquetkeep_Ints.calls _ _ t104 _ _ y134 t137 _ ?side1 ?side2 ?side3 ?side4 A89.out).mono ?_); (case side1 => repeat (first | exact (RR HO106.out).2.2 | (with_reducible refine Kd.C_alloc ?_ _) | (with_reducible refine CD ?_ _) | (with_reducible refine Kd.C_drew ?_))); (case side2 => exact (RR HO106.out).2.1); (case side3 => repeat (first | exact (RR HO136.out).2.2 | (with_reducible refine Kd.C_alloc ?_ _) | (with_reducible refine CD ?_ _) | (with_reducible refine Kd.C_drew ?_))); (case side4 => exact (RR HO136.out).2.1); rintro e w' ⟨rfl, ⟨nd, rfl⟩⟩; refine ⟨_, rfl, ?_⟩) | (go_at_call 52; (with_reducible refine (sobriquetlaw11_wakes.calls  t138 _ A92.out).mono ?_); rintro e w112 ⟨rfl, hb⟩; have n0_ := A0 (Kd.R_below (RM HO103.out) hb); have n1_ := A0 (Kd.R_below (RM HO106.out) hb); have n2_ := A0 (Kd.R_below (RM HO109.out) hb); have n3_ := A0 (Kd.R_below (RM HO112.out) hb); have n4_ := A0 (Kd.R_below (RM HO115.out) hb); have n5_ := A0 (Kd.R_below (RM HO119.out) hb); have n6_ := A0 (Kd.R_below (RM HO136.out) hb); have n7_ := A0 (below_step (BM HB.out) hb); clear HO103; clear HO106; clear HO109; clear HO112; clear HO115; clear HO119; clear HO136; clear HB; have HO103 := n0_; have HO106 := n1_; have HO109 := n2_; have HO112 := n3_; have HO115 := n4_; have HO119 := n5_; have HO136 := n6_; have HB := n7_; clear n0_ n1_ n2_ n3_ n4_ n5_ n6_ n7_; (try clear hb); (try clear hb2); (try clear hk); (try clear hi)))
        go_ret
        exact ⟨by first | rfl | (simp [errW_none, errW_some] <;> rfl) | (simp [*, errW_none, errW_some] <;> rfl), BM HB.out⟩
       ·rw [if_neg c91] at H
        have c91b0 : (t137 == (t132 == a0)) = false := by simpa using c91
        (try (have c91b1 : decide (t137 = (t132 == a0)) = false := by simpa using c91))
        (try (have c91b2 : (t137 == (t132 == a0)) = false := by simpa using c91))
        (try (have c91b3 : ¬ (t137 = (t132 == a0)) := by simpa using c91))
        clear c91
        obtain rfl := Option.some.inj H
        go_enter Try.func19, Try.ntmps19
        try go_wp2_with (first | ((with_reducible refine gate_dst (N := 9) rfl ?_); refine Kd.R_lit (Kd.int .i64) _ 3 ?hg (N := 9) ?hd (xs := ([a0] : List Int)) (inner := [.int .i64 a0]) (ok := fun _ => True) (okp := fun _ => True) ?hr ?hp (fun _ hk => hk) trivial (Below.refl _ _) (Nat.le_refl _) (by simp) ?_; (case hd => rfl); (case hg => rfl); (case hr => first | (go_simp; done) | (go_simp; rfl)); (case hp => exact (Reps.one (show Kd.M (Kd.int .i64) _ _ _ a0 [.int .i64 a0] from rfl) (Reps.none _ _))); intro v102 w113 ho114 hb hg_ hnew_; clear hg_ hnew_; (first | rw [← Ny101.out] at ho114 | (simp only [Int.reduceToNat] at ho114; rw [← Ny101.out] at ho114)); have n0_ := A0 (RW ho114 (below_size (BM HB.out))); have n1_ := A0 (below_step (BM HB.out) hb); clear HB; have HO103 := n0_; have HB := n1_; clear n0_ n1_; clear hb ho114; obtain ⟨Ao115, co115, eo115⟩ := RS HO103.out; subst eo115) | ((with_reducible refine gate_callee (f := 50) rfl ?_); refine goesL_ (some 10) rfl rfl Try.func50 (by kernel_rfl) rfl #[.slice Ao115 y101.length co115, .bool false] rfl (by (try simp only [lA, lC, lN]); first | done | rfl | (simp only [lD, lT]; rfl)) ?_; (with_reducible refine (norm_Form.calls _ _ y101 false t104 _ ?side1 ?side2 A2.out).mono ?_); (case side1 => repeat (first | exact (RR HO103.out).2.2 | (with_reducible refine Kd.C_alloc ?_ _) | (with_reducible refine CD ?_ _) | (with_reducible refine Kd.C_drew ?_))); (case side2 => exact (RR HO103.out).2.1); rintro e w116 ⟨v105, rfl, ho0, hb⟩; refine ⟨_, rfl, ?_⟩; have n0_ := A0 (RE (RM HO103.out) (RB ho0) hb); have n1_ := A0 (RW (RN ho0 (RL (RM HO103.out))) (below_size (BM HB.out))); have n2_ := A0 (below_step (BM HB.out) hb); clear HO103; clear HB; have HO103 := n0_; have HO106 := n1_; have HB := n2_; clear n0_ n1_ n2_; (try clear hb); (try clear hb2); (try clear hk); (try clear hi); (try clear ho0)) | ((with_reducible refine gate_dst (N := 12) rfl ?_); refine Kd.R_lit (Kd.int .i64) _ 3 ?hg (N := 12) ?hd (xs := ([a0] : List Int)) (inner := [.int .i64 a0]) (ok := fun _ => True) (okp := fun _ => True) ?hr ?hp (fun _ hk => hk) trivial (Below.refl _ _) (Nat.le_refl _) (by simp) ?_; (case hd => rfl); (case hg => rfl); (case hr => first | (go_simp; done) | (go_simp; rfl)); (case hp => exact (Reps.one (show Kd.M (Kd.int .i64) _ _ _ a0 [.int .i64 a0] from rfl) (Reps.none _ _))); intro v108 w117 ho118 hb hg_ hnew_; clear hg_ hnew_; (first | rw [← Ny107.out] at ho118 | (simp only [Int.reduceToNat] at ho118; rw [← Ny107.out] at ho118)); have n0_ := A0 (RE (RM HO103.out) (RB ho118) hb); have n1_ := A0 (RE (RM HO106.out) (RB ho118) hb); have n2_ := A0 (RW (RN (RN ho118 (RL (RM HO103.out))) (RL (RM HO106.out))) (below_size (BM HB.out))); have n3_ := A0 (below_step (BM HB.out) hb); clear HO103; clear HO106; clear HB; have HO103 := n0_; have HO106 := n1_; have HO109 := n2_; have HB := n3_; clear n0_ n1_ n2_ n3_; clear hb ho118; obtain ⟨Ao119, co119, eo119⟩ := RS HO109.out; subst eo119) | ((with_reducible refine gate_callee (f := 51) rfl ?_); refine goesL_ (some 13) rfl rfl Try.func51 (by kernel_rfl) rfl #[.slice Ao119 y107.length co119, .bool false] rfl (by (try simp only [lA, lC, lN]); first | done | rfl | (simp only [lD, lT]; rfl)) ?_; (with_reducible refine (norm_Apart.calls _ _ y107 false t110 _ ?side1 ?side2 A3.out).mono ?_); (case side1 => repeat (first | exact (RR HO109.out).2.2 | (with_reducible refine Kd.C_alloc ?_ _) | (with_reducible refine CD ?_ _) | (with_reducible refine Kd.C_drew ?_))); (case side2 => exact (RR HO109.out).2.1); rintro e w120 ⟨v111, rfl, ho0, hb⟩; refine ⟨_, rfl, ?_⟩; have n0_ := A0 (RE (RM HO103.out) (RB ho0) hb); have n1_ := A0 (RE (RM HO106.out) (RB ho0) hb); have n2_ := A0 (RE (RM HO109.out) (RB ho0) hb); have n3_ := A0 (RW (RN (RN (RN ho0 (RL (RM HO103.out))) (RL (RM HO106.out))) (RL (RM HO109.out))) (below_size (BM HB.out))); have n4_ := A0 (below_step (BM HB.out) hb); clear HO103; clear HO106; clear HO109; clear HB; have HO103 := n0_; have HO106 := n1_; have HO109 := n2_; have HO112 := n3_; have HB := n4_; clear n0_ n1_ n2_ n3_ n4_; (try clear hb); (try clear hb2); (try clear hk); (try clear hi); (try clear ho0); obtain ⟨Ao121, co121, eo121⟩ := RS HO106.out; subst eo121) | ((with_reducible refine gate_callee (f := 51) rfl ?_); refine goesL_ (some 15) rfl rfl Try.func51 (by kernel_rfl) rfl #[.slice Ao121 t104.length co121, .bool false] rfl (by (try simp only [lA, lC, lN]); first | done | rfl | (simp only [lD, lT]; rfl)) ?_; (with_reducible refine (norm_Apart.calls _ _ t104 false t113 _ ?side1 ?side2 A4.out).mono ?_); (case side1 => repeat (first | exact (RR HO106.out).2.2 | (with_reducible refine Kd.C_alloc ?_ _) | (with_reducible refine CD ?_ _) | (with_reducible refine Kd.C_drew ?_))); (case side2 => exact (RR HO106.out).2.1); rintro e w122 ⟨v114, rfl, ho0, hb⟩; refine ⟨_, rfl, ?_⟩; have n0_ := A0 (RE (RM HO103.out) (RB ho0) hb); have n1_ := A0 (RE (RM HO106.out) (RB ho0) hb); have n2_ := A0 (RE (RM HO109.out) (RB ho0) hb); have n3_ := A0 (RE (RM HO112.out) (RB ho0) hb); have n4_ := A0 (RW (RN (RN (RN (RN ho0 (RL (RM HO103.out))) (RL (RM HO106.out))) (RL (RM HO109.out))) (RL (RM HO112.out))) (below_size (BM HB.out))); have n5_ := A0 (below_step (BM HB.out) hb); clear HO103; clear HO106; clear HO109; clear HO112; clear HB; have HO103 := n0_; have HO106 := n1_; have HO109 := n2_; have HO112 := n3_; have HO115 := n4_; have HB := n5_; clear n0_ n1_ n2_ n3_ n4_ n5_; (try clear hb); (try clear hb2); (try clear hk); (try clear hi); (try clear ho0); obtain ⟨Ao123, co123, eo123⟩ := RS HO115.out; subst eo123; obtain ⟨Ao124, co124, eo124⟩ := RS HO112.out; subst eo124) | ((with_reducible refine gate_callee (f := 27) rfl ?_); refine goesL_ (some 17) rfl rfl Try.func27 (by kernel_rfl) rfl #[.slice Ao123 t113.length co123, .slice Ao124 t110.length co124] rfl (by (try simp only [lA, lC, lN]); first | done | rfl | (simp only [lD, lT]; rfl)) ?_; (with_reducible refine (sobriquetkeep_Ints.calls _ _ t113 _ _ t110 true _ ?side1 ?side2 ?side3 ?side4 A5.out).mono ?_); (case side1 => repeat (first | exact (RR HO115.out).2.2 | (with_reducible refine Kd.C_alloc ?_ _) | (with_reducible refine CD ?_ _) | (with_reducible refine Kd.C_drew ?_))); (case side2 => exact (RR HO115.out).2.1); (case side3 => repeat (first | exact (RR HO112.out).2.2 | (with_reducible refine Kd.C_alloc ?_ _) | (with_reducible refine CD ?_ _) | (with_reducible refine Kd.C_drew ?_))); (case side4 => exact (RR HO112.out).2.1); rintro e w' ⟨rfl, ⟨nd, rfl⟩⟩; refine ⟨_, rfl, ?_⟩) | ((with_reducible refine gate_callee (f := 55) rfl ?_); refine goesL_ (some 20) rfl rfl Try.func55 (by kernel_rfl) rfl #[.int .i64 a0] rfl (by (try simp only [lA, lC, lN]); first | done | rfl | (simp only [lD, lT]; rfl)) ?_; (with_reducible refine (ucd_Canon.calls a0 t117 _ A7.out).mono ?_); rintro e w125 ⟨v118, rfl, ho0, hb⟩; refine ⟨_, rfl, ?_⟩; have n0_ := A0 (RE (RM HO103.out) (RB ho0) hb); have n1_ := A0 (RE (RM HO106.out) (RB ho0) hb); have n2_ := A0 (RE (RM HO109.out) (RB ho0) hb); have n3_ := A0 (RE (RM HO112.out) (RB ho0) hb); have n4_ := A0 (RE (RM HO115.out) (RB ho0) hb); have n5_ := A0 (RW (RN (RN (RN (RN (RN ho0 (RL (RM HO103.out))) (RL (RM HO106.out))) (RL (RM HO109.out))) (RL (RM HO112.out))) (RL (RM HO115.out))) (below_size (BM HB.out))); have n6_ := A0 (below_step (BM HB.out) hb); clear HO103; clear HO106; clear HO109; clear HO112; clear HO115; clear HB; have HO103 := n0_; have HO106 := n1_; have HO109 := n2_; have HO112 := n3_; have HO115 := n4_; have HO119 := n5_; have HB := n6_; clear n0_ n1_ n2_ n3_ n4_ n5_ n6_; (try clear hb); (try clear hb2); (try clear hk); (try clear hi); (try clear ho0); obtain ⟨Ao126, co126, eo126⟩ := RS HO119.out; subst eo126))
        have n0_ := A0 (Kd.R_drew HO103.out)
        have n1_ := A0 (Kd.R_drew HO106.out)
        have n2_ := A0 (Kd.R_drew HO109.out)
        have n3_ := A0 (Kd.R_drew HO112.out)
        have n4_ := A0 (Kd.R_drew HO115.out)
        have n5_ := A0 (Kd.R_drew HO119.out)
        have n6_ := A0 (below_drew1 HB.out)
        clear HO103
        clear HO106
        clear HO109
        clear HO112
        clear HO115
        clear HO119
        clear HB
        have HO103 := n0_
        have HO106 := n1_
        have HO109 := n2_
        have HO112 := n3_
        have HO115 := n4_
        have HO119 := n5_
        have HB := n6_
        clear n0_ n1_ n2_ n3_ n4_ n5_ n6_
        have p130 : 0 ≤ (0 : Int) := (by omega)
        have q130 : 0 < (t117.length : Int) := of_decide_eq_true (by first | (with_reducible assumption) | assumption)
        obtain ⟨ad130, e130, hx130_0⟩ := Kd.at_int (RR HO119.out).2.2 0 p130 q130
        cases e130
        have qi130 : (0 < t117.length) = True := eq_true (by omega)
        (try rw [show ((0 : Int)).toNat = 0 from rfl] at hx130_0)
        (try rw [Addr.add_zero'] at hx130_0)
        replace p130 := eq_true p130
        replace q130 := eq_true q130
        have p131 : 0 ≤ (1 : Int) := (by omega)
        have q131 : 1 < (t117.length : Int) := of_decide_eq_true (by first | (with_reducible assumption) | assumption)
        obtain ⟨ad131, e131, hx131_0⟩ := Kd.at_int (RR HO119.out).2.2 1 p131 q131
        obtain rfl : ad130 = ad131 := (by injection e131)
        (try simp only [show (1 : Int).toNat = 1 from rfl, Nat.reduceMul, Nat.reduceEqDiff, Go.Addr.add, ↓reduceIte] at hx131_0)
        have qi131 : (1 < t117.length) = True := eq_true (by omega)
        (try rw [show ((1 : Int)).toNat = 1 from rfl] at hx131_0)
        replace p131 := eq_true p131
        replace q131 := eq_true q131
        refine start_ (n := 12) (S := fun w' => w'.cell? ad130 = some (.int .i64 (rd t117 0)) ∧ w'.cell? ⟨ad130.block, ad130.off + 1, none⟩ = some (.int .i64 (rd t117 1))) (ds := []) mk_LnS1_0 (by kernel_rfl) rfl rfl ⟨hx130_0, hx131_0⟩ (fun hHeld => ?_); refine with_tabW sobriquetlaw11_NormScalars.tab9 sobriquetlaw11_NormScalars.bits9 (fun HT_ HW_ => ?_)
        generalize w125.drew = w127 at HO103 HO106 HO109 HO112 HO115 HO119 HB hx130_0 hx131_0 hHeld ⊢
        refine pure_ (i := 0) (N := some 43) (v := ?_) (a' := ?_) mk_LnS1_1 rfl rfl (any_of HT_.out (by kernel_rfl)) (fun _ _ _ h => h) (Or.inl ⟨by rfl, ?_⟩) ?_ ?_
        rotate_left
        ·intro w'
         go_simp
         with_reducible rfl
        rotate_left
        ·simp only [Act.put, sA, sZ, sS, i64_w, i32_w]
         rfl
        refine pure_ (i := 1) (N := some 44) (v := ?_) (a' := ?_) mk_LnS1_2 rfl rfl (any_of HT_.out (by kernel_rfl)) (fun _ _ _ h => h) (Or.inl ⟨by rfl, ?_⟩) ?_ ?_
        rotate_left
        ·intro w'
         go_simp
         with_reducible rfl
        rotate_left
        ·simp only [Act.put, sA, sZ, sS, i64_w, i32_w]
         rfl
        refine pure_ (i := 3) (N := some 46) (v := ?_) (a' := ?_) mk_LnS1_3 rfl rfl (any_of HT_.out (by kernel_rfl)) (fun _ _ _ h => h) (Or.inl ⟨by rfl, ?_⟩) ?_ ?_
        rotate_left
        ·intro w'
         go_simp
         with_reducible rfl
        rotate_left
        ·simp only [Act.put, sA, sZ, sS, i64_w, i32_w]
         rfl
        refine pure_ (i := 4) (N := some 47) (v := ?_) (a' := ?_) mk_LnS1_4 rfl rfl (any_of HT_.out (by kernel_rfl)) (fun _ _ _ h => h) (Or.inl ⟨by rfl, ?_⟩) ?_ ?_
        rotate_left
        ·intro w'
         go_simp
         with_reducible rfl
        rotate_left
        ·simp only [Act.put, sA, sZ, sS, i64_w, i32_w]
         rfl
        refine take_ (i := 2) (N := some 45) (v := ?_) (a' := ?_) mk_LnS1_5 rfl rfl (take_ofW HT_.out HW_.out (by kernel_rfl)) (fun _ _ _ h => h) (Or.inl ⟨by rfl, ?_⟩) hHeld ?_ ?_
        rotate_left
        ·rintro w' ⟨s0, s1⟩
         go_simp
         with_reducible rfl
        rotate_left
        ·simp only [Act.put, sA, sZ, sS, i64_w, i32_w]
         rfl
        refine take_ (i := 5) (N := some 48) (v := ?_) (a' := ?_) mk_LnS1_6 rfl rfl (take_ofW HT_.out HW_.out (by kernel_rfl)) (fun _ _ _ h => h) (Or.inl ⟨by rfl, ?_⟩) hHeld ?_ ?_
        rotate_left
        ·rintro w' ⟨s0, s1⟩
         go_simp
         with_reducible rfl
        rotate_left
        ·simp only [Act.put, sA, sZ, sS, i64_w, i32_w]
         rfl
        refine one_ (i := 6) (N := some 49) mk_LnS1_7 rfl rfl (one_of HT_.out (by kernel_rfl)) (by decide) (fun K hK => ?_)
        refine goes_ Try.func35 (by kernel_rfl) rfl #[.int .i64 (rd t117 0), .int .i64 (rd t117 1)] (by rfl) rfl rfl (by (try simp only [lA, lC, lN]); first | done | rfl | (simp only [lD, lT]; rfl)) ?_
        with_reducible refine (ucd_Pair.calls (rd t117 0) (rd t117 1) t132 true _ A88.out).mono ?_
        rintro e w128 ⟨rfl, hb⟩
        have HS0_ := (hb.cell (World.block_lt_of_cell? _ _ (hHeld.1))).trans (hHeld.1)
        have HS1_ := (hb.cell (World.block_lt_of_cell? _ _ (hHeld.2))).trans (hHeld.2)
        refine ⟨_, rfl, ?_⟩
        have n0_ := A0 (Kd.R_below (RM HO103.out) hb)
        have n1_ := A0 (Kd.R_below (RM HO106.out) hb)
        have n2_ := A0 (Kd.R_below (RM HO109.out) hb)
        have n3_ := A0 (Kd.R_below (RM HO112.out) hb)
        have n4_ := A0 (Kd.R_below (RM HO115.out) hb)
        have n5_ := A0 (Kd.R_below (RM HO119.out) hb)
        have n6_ := A0 (below_step (BM HB.out) hb)
        clear HO103
        clear HO106
        clear HO109
        clear HO112
        clear HO115
        clear HO119
        clear HB
        have HO103 := n0_
        have HO106 := n1_
        have HO109 := n2_
        have HO112 := n3_
        have HO115 := n4_
        have HO119 := n5_
        have HB := n6_
        clear n0_ n1_ n2_ n3_ n4_ n5_ n6_
        (try clear hb)
        (try clear hb2)
        (try clear hk)
        (try clear hi)
        refine hK.out _ _ ⟨HS0_, HS1_⟩ (fun hHeld => ?_)
        clear hK K
        refine norm_ (a' := ?_) ?_ ?_
        rotate_left
        ·show Act.put _ (some 49) _ = _
         simp only [Act.put, sA, sZ, sS, i64_w, i32_w]
         rfl
        refine pure_ (i := 7) (N := some 42) (v := ?_) (a' := ?_) mk_LnS1_8 rfl rfl (any_of HT_.out (by kernel_rfl)) (fun _ _ _ h => h) (Or.inl ⟨by rfl, ?_⟩) ?_ ?_
        rotate_left
        ·intro w'
         go_simp
         with_reducible rfl
        rotate_left
        ·simp only [Act.put, sA, sZ, sS, i64_w, i32_w]
         rfl
        refine pure_ (i := 8) (N := some 50) (v := ?_) (a' := ?_) mk_LnS1_9 rfl rfl (any_of HT_.out (by kernel_rfl)) (fun _ _ _ h => h) (Or.inl ⟨by rfl, ?_⟩) ?_ ?_
        rotate_left
        ·intro w'
         go_simp
         with_reducible rfl
        rotate_left
        ·simp only [Act.put, sA, sZ, sS, i64_w, i32_w]
         rfl
        refine pure_ (i := 9) (N := some 51) (v := ?_) (a' := ?_) mk_LnS1_10 rfl rfl (any_of HT_.out (by kernel_rfl)) (fun _ _ _ h => h) (Or.inl ⟨by rfl, ?_⟩) ?_ ?_
        rotate_left
        ·intro w'
         go_simp
         with_reducible rfl
        rotate_left
        ·simp only [Act.put, sA, sZ, sS, i64_w, i32_w]
         rfl
        refine pure_ (i := 10) (N := some 6) (v := ?_) (a' := ?_) mk_LnS1_11 rfl rfl (any_of HT_.out (by kernel_rfl)) (fun _ _ _ h => h) (Or.inl ⟨by rfl, ?_⟩) ?_ ?_
        rotate_left
        ·intro w'
         go_simp
         with_reducible rfl
        rotate_left
        ·simp only [Act.put, sA, sZ, sS, i64_w, i32_w]
         rfl
        refine pure_ (i := 11) (N := some 7) (v := ?_) (a' := ?_) mk_LnS1_12 rfl rfl (any_of HT_.out (by kernel_rfl)) (fun _ _ _ h => h) (Or.inl ⟨by rfl, ?_⟩) ?_ ?_
        rotate_left
        ·intro w'
         go_simp
         with_reducible rfl
        rotate_left
        ·simp only [Act.put, sA, sZ, sS, i64_w, i32_w]
         rfl
        refine done_ (done_of HT_.out (by kernel_rfl)) ?_
        try go_wp2_with (first | ((with_reducible refine gate_dst (N := 54) rfl ?_); refine Kd.R_lit (Kd.int .i64) _ 3 ?hg (N := 54) ?hd (xs := ([a0] : List Int)) (inner := [.int .i64 a0]) (ok := fun _ => True) (okp := fun _ => True) ?hr ?hp (fun _ hk => hk) trivial (Below.refl _ _) (Nat.le_refl _) (by simp) ?_; (case hd => rfl); (case hg => rfl); (case hr => first | (go_simp; done) | (go_simp; rfl)); (case hp => exact (Reps.one (show Kd.M (Kd.int .i64) _ _ _ a0 [.int .i64 a0] from rfl) (Reps.none _ _))); intro v135 w129 ho130 hb hg_ hnew_; clear hg_ hnew_; (first | rw [← Ny134.out] at ho130 | (simp only [Int.reduceToNat] at ho130; rw [← Ny134.out] at ho130)); have n0_ := A0 (RE (RM HO103.out) (RB ho130) hb); have n1_ := A0 (RE (RM HO106.out) (RB ho130) hb); have n2_ := A0 (RE (RM HO109.out) (RB ho130) hb); have n3_ := A0 (RE (RM HO112.out) (RB ho130) hb); have n4_ := A0 (RE (RM HO115.out) (RB ho130) hb); have n5_ := A0 (RE (RM HO119.out) (RB ho130) hb); have n6_ := A0 (RW (RN (RN (RN (RN (RN (RN ho130 (RL (RM HO103.out))) (RL (RM HO106.out))) (RL (RM HO109.out))) (RL (RM HO112.out))) (RL (RM HO115.out))) (RL (RM HO119.out))) (below_size (BM HB.out))); have n7_ := A0 (below_step (BM HB.out) hb); clear HO103; clear HO106; clear HO109; clear HO112; clear HO115; clear HO119; clear HB; have HO103 := n0_; have HO106 := n1_; have HO109 := n2_; have HO112 := n3_; have HO115 := n4_; have HO119 := n5_; have HO136 := n6_; have HB := n7_; clear n0_ n1_ n2_ n3_ n4_ n5_ n6_ n7_; clear hb ho130; obtain ⟨Ao131, co131, eo131⟩ := RS HO136.out; subst eo131) | ((with_reducible refine gate_callee (f := 27) rfl ?_); refine goesL_ (some 55) rfl rfl Try.func27 (by kernel_rfl) rfl #[.slice Ao121 t104.length co121, .slice Ao131 y134.length co131] rfl (by (try simp only [lA, lC, lN]); first | done | rfl | (simp only [lD, lT]; rfl)) ?_; (with_reducible refine (sobriquetkeep_Ints.calls _ _ t104 _ _ y134 t137 _ ?side1 ?side2 ?side3 ?side4 A89.out).mono ?_); (case side1 => repeat (first | exact (RR HO106.out).2.2 | (with_reducible refine Kd.C_alloc ?_ _) | (with_reducible refine CD ?_ _) | (with_reducible refine Kd.C_drew ?_))); (case side2 => exact (RR HO106.out).2.1); (case side3 => repeat (first | exact (RR HO136.out).2.2 | (with_reducible refine Kd.C_alloc ?_ _) | (with_reducible refine CD ?_ _) | (with_reducible refine Kd.C_drew ?_))); (case side4 => exact (RR HO136.out).2.1); rintro e w' ⟨rfl, ⟨nd, rfl⟩⟩; refine ⟨_, rfl, ?_⟩))
        go_ret
        exact ⟨by first | rfl | (simp [errW_none, errW_some] <;> rfl) | (simp [*, errW_none, errW_some] <;> rfl), BM HB.out⟩
      ·replace c90 := Bool.eq_false_iff.mpr c90
       subst c90
       have H1 : (if (t137 == false) = true then ((sobriquetlaw11_wakes.f).bind fun t139 => (some t139)) else (some false)) = some r := by rw [if_neg (show ¬ (false = true) by decide)] at H; exact H
       clear H
       have H := H1
       clear H1
       by_cases c132 : (t137 == false) = true
       ·rw [if_pos c132] at H
        have c132b0 : (t137 == false) = true := c132
        (try (have c132b1 : decide (t137 = false) = true := by simpa using c132))
        (try (have c132b2 : (t137 == false) = true := by simpa using c132))
        clear c132
        replace H := Option.bind_eq_some_iff.mp H
        obtain ⟨t139, A1330, H⟩ := H
        replace H : (some t139) = some r := H
        have A133 := A0 A1330
        clear A1330
        obtain rfl := Option.some.inj H
        go_enter Try.func19, Try.ntmps19
        try go_wp2_with (first | ((with_reducible refine gate_dst (N := 9) rfl ?_); refine Kd.R_lit (Kd.int .i64) _ 3 ?hg (N := 9) ?hd (xs := ([a0] : List Int)) (inner := [.int .i64 a0]) (ok := fun _ => True) (okp := fun _ => True) ?hr ?hp (fun _ hk => hk) trivial (Below.refl _ _) (Nat.le_refl _) (by simp) ?_; (case hd => rfl); (case hg => rfl); (case hr => first | (go_simp; done) | (go_simp; rfl)); (case hp => exact (Reps.one (show Kd.M (Kd.int .i64) _ _ _ a0 [.int .i64 a0] from rfl) (Reps.none _ _))); intro v102 w134 ho135 hb hg_ hnew_; clear hg_ hnew_; (first | rw [← Ny101.out] at ho135 | (simp only [Int.reduceToNat] at ho135; rw [← Ny101.out] at ho135)); have n0_ := A0 (RW ho135 (below_size (BM HB.out))); have n1_ := A0 (below_step (BM HB.out) hb); clear HB; have HO103 := n0_; have HB := n1_; clear n0_ n1_; clear hb ho135; obtain ⟨Ao136, co136, eo136⟩ := RS HO103.out; subst eo136) | ((with_reducible refine gate_callee (f := 50) rfl ?_); refine goesL_ (some 10) rfl rfl Try.func50 (by kernel_rfl) rfl #[.slice Ao136 y101.length co136, .bool false] rfl (by (try simp only [lA, lC, lN]); first | done | rfl | (simp only [lD, lT]; rfl)) ?_; (with_reducible refine (norm_Form.calls _ _ y101 false t104 _ ?side1 ?side2 A2.out).mono ?_); (case side1 => repeat (first | exact (RR HO103.out).2.2 | (with_reducible refine Kd.C_alloc ?_ _) | (with_reducible refine CD ?_ _) | (with_reducible refine Kd.C_drew ?_))); (case side2 => exact (RR HO103.out).2.1); rintro e w137 ⟨v105, rfl, ho0, hb⟩; refine ⟨_, rfl, ?_⟩; have n0_ := A0 (RE (RM HO103.out) (RB ho0) hb); have n1_ := A0 (RW (RN ho0 (RL (RM HO103.out))) (below_size (BM HB.out))); have n2_ := A0 (below_step (BM HB.out) hb); clear HO103; clear HB; have HO103 := n0_; have HO106 := n1_; have HB := n2_; clear n0_ n1_ n2_; (try clear hb); (try clear hb2); (try clear hk); (try clear hi); (try clear ho0)) | ((with_reducible refine gate_dst (N := 12) rfl ?_); refine Kd.R_lit (Kd.int .i64) _ 3 ?hg (N := 12) ?hd (xs := ([a0] : List Int)) (inner := [.int .i64 a0]) (ok := fun _ => True) (okp := fun _ => True) ?hr ?hp (fun _ hk => hk) trivial (Below.refl _ _) (Nat.le_refl _) (by simp) ?_; (case hd => rfl); (case hg => rfl); (case hr => first | (go_simp; done) | (go_simp; rfl)); (case hp => exact (Reps.one (show Kd.M (Kd.int .i64) _ _ _ a0 [.int .i64 a0] from rfl) (Reps.none _ _))); intro v108 w138 ho139 hb hg_ hnew_; clear hg_ hnew_; (first | rw [← Ny107.out] at ho139 | (simp only [Int.reduceToNat] at ho139; rw [← Ny107.out] at ho139)); have n0_ := A0 (RE (RM HO103.out) (RB ho139) hb); have n1_ := A0 (RE (RM HO106.out) (RB ho139) hb); have n2_ := A0 (RW (RN (RN ho139 (RL (RM HO103.out))) (RL (RM HO106.out))) (below_size (BM HB.out))); have n3_ := A0 (below_step (BM HB.out) hb); clear HO103; clear HO106; clear HB; have HO103 := n0_; have HO106 := n1_; have HO109 := n2_; have HB := n3_; clear n0_ n1_ n2_ n3_; clear hb ho139; obtain ⟨Ao140, co140, eo140⟩ := RS HO109.out; subst eo140) | ((with_reducible refine gate_callee (f := 51) rfl ?_); refine goesL_ (some 13) rfl rfl Try.func51 (by kernel_rfl) rfl #[.slice Ao140 y107.length co140, .bool false] rfl (by (try simp only [lA, lC, lN]); first | done | rfl | (simp only [lD, lT]; rfl)) ?_; (with_reducible refine (norm_Apart.calls _ _ y107 false t110 _ ?side1 ?side2 A3.out).mono ?_); (case side1 => repeat (first | exact (RR HO109.out).2.2 | (with_reducible refine Kd.C_alloc ?_ _) | (with_reducible refine CD ?_ _) | (with_reducible refine Kd.C_drew ?_))); (case side2 => exact (RR HO109.out).2.1); rintro e w141 ⟨v111, rfl, ho0, hb⟩; refine ⟨_, rfl, ?_⟩; have n0_ := A0 (RE (RM HO103.out) (RB ho0) hb); have n1_ := A0 (RE (RM HO106.out) (RB ho0) hb); have n2_ := A0 (RE (RM HO109.out) (RB ho0) hb); have n3_ := A0 (RW (RN (RN (RN ho0 (RL (RM HO103.out))) (RL (RM HO106.out))) (RL (RM HO109.out))) (below_size (BM HB.out))); have n4_ := A0 (below_step (BM HB.out) hb); clear HO103; clear HO106; clear HO109; clear HB; have HO103 := n0_; have HO106 := n1_; have HO109 := n2_; have HO112 := n3_; have HB := n4_; clear n0_ n1_ n2_ n3_ n4_; (try clear hb); (try clear hb2); (try clear hk); (try clear hi); (try clear ho0); obtain ⟨Ao142, co142, eo142⟩ := RS HO106.out; subst eo142) | ((with_reducible refine gate_callee (f := 51) rfl ?_); refine goesL_ (some 15) rfl rfl Try.func51 (by kernel_rfl) rfl #[.slice Ao142 t104.length co142, .bool false] rfl (by (try simp only [lA, lC, lN]); first | done | rfl | (simp only [lD, lT]; rfl)) ?_; (with_reducible refine (norm_Apart.calls _ _ t104 false t113 _ ?side1 ?side2 A4.out).mono ?_); (case side1 => repeat (first | exact (RR HO106.out).2.2 | (with_reducible refine Kd.C_alloc ?_ _) | (with_reducible refine CD ?_ _) | (with_reducible refine Kd.C_drew ?_))); (case side2 => exact (RR HO106.out).2.1); rintro e w143 ⟨v114, rfl, ho0, hb⟩; refine ⟨_, rfl, ?_⟩; have n0_ := A0 (RE (RM HO103.out) (RB ho0) hb); have n1_ := A0 (RE (RM HO106.out) (RB ho0) hb); have n2_ := A0 (RE (RM HO109.out) (RB ho0) hb); have n3_ := A0 (RE (RM HO112.out) (RB ho0) hb); have n4_ := A0 (RW (RN (RN (RN (RN ho0 (RL (RM HO103.out))) (RL (RM HO106.out))) (RL (RM HO109.out))) (RL (RM HO112.out))) (below_size (BM HB.out))); have n5_ := A0 (below_step (BM HB.out) hb); clear HO103; clear HO106; clear HO109; clear HO112; clear HB; have HO103 := n0_; have HO106 := n1_; have HO109 := n2_; have HO112 := n3_; have HO115 := n4_; have HB := n5_; clear n0_ n1_ n2_ n3_ n4_ n5_; (try clear hb); (try clear hb2); (try clear hk); (try clear hi); (try clear ho0); obtain ⟨Ao144, co144, eo144⟩ := RS HO115.out; subst eo144; obtain ⟨Ao145, co145, eo145⟩ := RS HO112.out; subst eo145) | ((with_reducible refine gate_callee (f := 27) rfl ?_); refine goesL_ (some 17) rfl rfl Try.func27 (by kernel_rfl) rfl #[.slice Ao144 t113.length co144, .slice Ao145 t110.length co145] rfl (by (try simp only [lA, lC, lN]); first | done | rfl | (simp only [lD, lT]; rfl)) ?_; (with_reducible refine (sobriquetkeep_Ints.calls _ _ t113 _ _ t110 true _ ?side1 ?side2 ?side3 ?side4 A5.out).mono ?_); (case side1 => repeat (first | exact (RR HO115.out).2.2 | (with_reducible refine Kd.C_alloc ?_ _) | (with_reducible refine CD ?_ _) | (with_reducible refine Kd.C_drew ?_))); (case side2 => exact (RR HO115.out).2.1); (case side3 => repeat (first | exact (RR HO112.out).2.2 | (with_reducible refine Kd.C_alloc ?_ _) | (with_reducible refine CD ?_ _) | (with_reducible refine Kd.C_drew ?_))); (case side4 => exact (RR HO112.out).2.1); rintro e w' ⟨rfl, ⟨nd, rfl⟩⟩; refine ⟨_, rfl, ?_⟩) | ((with_reducible refine gate_callee (f := 55) rfl ?_); refine goesL_ (some 20) rfl rfl Try.func55 (by kernel_rfl) rfl #[.int .i64 a0] rfl (by (try simp only [lA, lC, lN]); first | done | rfl | (simp only [lD, lT]; rfl)) ?_; (with_reducible refine (ucd_Canon.calls a0 t117 _ A7.out).mono ?_); rintro e w146 ⟨v118, rfl, ho0, hb⟩; refine ⟨_, rfl, ?_⟩; have n0_ := A0 (RE (RM HO103.out) (RB ho0) hb); have n1_ := A0 (RE (RM HO106.out) (RB ho0) hb); have n2_ := A0 (RE (RM HO109.out) (RB ho0) hb); have n3_ := A0 (RE (RM HO112.out) (RB ho0) hb); have n4_ := A0 (RE (RM HO115.out) (RB ho0) hb); have n5_ := A0 (RW (RN (RN (RN (RN (RN ho0 (RL (RM HO103.out))) (RL (RM HO106.out))) (RL (RM HO109.out))) (RL (RM HO112.out))) (RL (RM HO115.out))) (below_size (BM HB.out))); have n6_ := A0 (below_step (BM HB.out) hb); clear HO103; clear HO106; clear HO109; clear HO112; clear HO115; clear HB; have HO103 := n0_; have HO106 := n1_; have HO109 := n2_; have HO112 := n3_; have HO115 := n4_; have HO119 := n5_; have HB := n6_; clear n0_ n1_ n2_ n3_ n4_ n5_ n6_; (try clear hb); (try clear hb2); (try clear hk); (try clear hi); (try clear ho0); obtain ⟨Ao147, co147, eo147⟩ := RS HO119.out; subst eo147))
        have n0_ := A0 (Kd.R_drew HO103.out)
        have n1_ := A0 (Kd.R_drew HO106.out)
        have n2_ := A0 (Kd.R_drew HO109.out)
        have n3_ := A0 (Kd.R_drew HO112.out)
        have n4_ := A0 (Kd.R_drew HO115.out)
        have n5_ := A0 (Kd.R_drew HO119.out)
        have n6_ := A0 (below_drew1 HB.out)
        clear HO103
        clear HO106
        clear HO109
        clear HO112
        clear HO115
        clear HO119
        clear HB
        have HO103 := n0_
        have HO106 := n1_
        have HO109 := n2_
        have HO112 := n3_
        have HO115 := n4_
        have HO119 := n5_
        have HB := n6_
        clear n0_ n1_ n2_ n3_ n4_ n5_ n6_
        have p130 : 0 ≤ (0 : Int) := (by omega)
        have q130 : 0 < (t117.length : Int) := of_decide_eq_true (by first | (with_reducible assumption) | assumption)
        obtain ⟨ad130, e130, hx130_0⟩ := Kd.at_int (RR HO119.out).2.2 0 p130 q130
        cases e130
        have qi130 : (0 < t117.length) = True := eq_true (by omega)
        (try rw [show ((0 : Int)).toNat = 0 from rfl] at hx130_0)
        (try rw [Addr.add_zero'] at hx130_0)
        replace p130 := eq_true p130
        replace q130 := eq_true q130
        have p131 : 0 ≤ (1 : Int) := (by omega)
        have q131 : 1 < (t117.length : Int) := of_decide_eq_true (by first | (with_reducible assumption) | assumption)
        obtain ⟨ad131, e131, hx131_0⟩ := Kd.at_int (RR HO119.out).2.2 1 p131 q131
        obtain rfl : ad130 = ad131 := (by injection e131)
        (try simp only [show (1 : Int).toNat = 1 from rfl, Nat.reduceMul, Nat.reduceEqDiff, Go.Addr.add, ↓reduceIte] at hx131_0)
        have qi131 : (1 < t117.length) = True := eq_true (by omega)
        (try rw [show ((1 : Int)).toNat = 1 from rfl] at hx131_0)
        replace p131 := eq_true p131
        replace q131 := eq_true q131
        refine start_ (n := 12) (S := fun w' => w'.cell? ad130 = some (.int .i64 (rd t117 0)) ∧ w'.cell? ⟨ad130.block, ad130.off + 1, none⟩ = some (.int .i64 (rd t117 1))) (ds := []) mk_LnS1_0 (by kernel_rfl) rfl rfl ⟨hx130_0, hx131_0⟩ (fun hHeld => ?_); refine with_tabW sobriquetlaw11_NormScalars.tab9 sobriquetlaw11_NormScalars.bits9 (fun HT_ HW_ => ?_)
        generalize w146.drew = w148 at HO103 HO106 HO109 HO112 HO115 HO119 HB hx130_0 hx131_0 hHeld ⊢
        refine pure_ (i := 0) (N := some 43) (v := ?_) (a' := ?_) mk_LnS1_1 rfl rfl (any_of HT_.out (by kernel_rfl)) (fun _ _ _ h => h) (Or.inl ⟨by rfl, ?_⟩) ?_ ?_
        rotate_left
        ·intro w'
         go_simp
         with_reducible rfl
        rotate_left
        ·simp only [Act.put, sA, sZ, sS, i64_w, i32_w]
         rfl
        refine pure_ (i := 1) (N := some 44) (v := ?_) (a' := ?_) mk_LnS1_2 rfl rfl (any_of HT_.out (by kernel_rfl)) (fun _ _ _ h => h) (Or.inl ⟨by rfl, ?_⟩) ?_ ?_
        rotate_left
        ·intro w'
         go_simp
         with_reducible rfl
        rotate_left
        ·simp only [Act.put, sA, sZ, sS, i64_w, i32_w]
         rfl
        refine pure_ (i := 3) (N := some 46) (v := ?_) (a' := ?_) mk_LnS1_3 rfl rfl (any_of HT_.out (by kernel_rfl)) (fun _ _ _ h => h) (Or.inl ⟨by rfl, ?_⟩) ?_ ?_
        rotate_left
        ·intro w'
         go_simp
         with_reducible rfl
        rotate_left
        ·simp only [Act.put, sA, sZ, sS, i64_w, i32_w]
         rfl
        refine pure_ (i := 4) (N := some 47) (v := ?_) (a' := ?_) mk_LnS1_4 rfl rfl (any_of HT_.out (by kernel_rfl)) (fun _ _ _ h => h) (Or.inl ⟨by rfl, ?_⟩) ?_ ?_
        rotate_left
        ·intro w'
         go_simp
         with_reducible rfl
        rotate_left
        ·simp only [Act.put, sA, sZ, sS, i64_w, i32_w]
         rfl
        refine take_ (i := 2) (N := some 45) (v := ?_) (a' := ?_) mk_LnS1_5 rfl rfl (take_ofW HT_.out HW_.out (by kernel_rfl)) (fun _ _ _ h => h) (Or.inl ⟨by rfl, ?_⟩) hHeld ?_ ?_
        rotate_left
        ·rintro w' ⟨s0, s1⟩
         go_simp
         with_reducible rfl
        rotate_left
        ·simp only [Act.put, sA, sZ, sS, i64_w, i32_w]
         rfl
        refine take_ (i := 5) (N := some 48) (v := ?_) (a' := ?_) mk_LnS1_6 rfl rfl (take_ofW HT_.out HW_.out (by kernel_rfl)) (fun _ _ _ h => h) (Or.inl ⟨by rfl, ?_⟩) hHeld ?_ ?_
        rotate_left
        ·rintro w' ⟨s0, s1⟩
         go_simp
         with_reducible rfl
        rotate_left
        ·simp only [Act.put, sA, sZ, sS, i64_w, i32_w]
         rfl
        refine one_ (i := 6) (N := some 49) mk_LnS1_7 rfl rfl (one_of HT_.out (by kernel_rfl)) (by decide) (fun K hK => ?_)
        refine goes_ Try.func35 (by kernel_rfl) rfl #[.int .i64 (rd t117 0), .int .i64 (rd t117 1)] (by rfl) rfl rfl (by (try simp only [lA, lC, lN]); first | done | rfl | (simp only [lD, lT]; rfl)) ?_
        with_reducible refine (ucd_Pair.calls (rd t117 0) (rd t117 1) t132 false _ A88.out).mono ?_
        rintro e w149 ⟨rfl, hb⟩
        have HS0_ := (hb.cell (World.block_lt_of_cell? _ _ (hHeld.1))).trans (hHeld.1)
        have HS1_ := (hb.cell (World.block_lt_of_cell? _ _ (hHeld.2))).trans (hHeld.2)
        refine ⟨_, rfl, ?_⟩
        have n0_ := A0 (Kd.R_below (RM HO103.out) hb)
        have n1_ := A0 (Kd.R_below (RM HO106.out) hb)
        have n2_ := A0 (Kd.R_below (RM HO109.out) hb)
        have n3_ := A0 (Kd.R_below (RM HO112.out) hb)
        have n4_ := A0 (Kd.R_below (RM HO115.out) hb)
        have n5_ := A0 (Kd.R_below (RM HO119.out) hb)
        have n6_ := A0 (below_step (BM HB.out) hb)
        clear HO103
        clear HO106
        clear HO109
        clear HO112
        clear HO115
        clear HO119
        clear HB
        have HO103 := n0_
        have HO106 := n1_
        have HO109 := n2_
        have HO112 := n3_
        have HO115 := n4_
        have HO119 := n5_
        have HB := n6_
        clear n0_ n1_ n2_ n3_ n4_ n5_ n6_
        (try clear hb)
        (try clear hb2)
        (try clear hk)
        (try clear hi)
        refine hK.out _ _ ⟨HS0_, HS1_⟩ (fun hHeld => ?_)
        clear hK K
        refine norm_ (a' := ?_) ?_ ?_
        rotate_left
        ·show Act.put _ (some 49) _ = _
         simp only [Act.put, sA, sZ, sS, i64_w, i32_w]
         rfl
        refine pure_ (i := 7) (N := some 42) (v := ?_) (a' := ?_) mk_LnS1_8 rfl rfl (any_of HT_.out (by kernel_rfl)) (fun _ _ _ h => h) (Or.inl ⟨by rfl, ?_⟩) ?_ ?_
        rotate_left
        ·intro w'
         go_simp
         with_reducible rfl
        rotate_left
        ·simp only [Act.put, sA, sZ, sS, i64_w, i32_w]
         rfl
        refine pure_ (i := 8) (N := some 50) (v := ?_) (a' := ?_) mk_LnS1_9 rfl rfl (any_of HT_.out (by kernel_rfl)) (fun _ _ _ h => h) (Or.inl ⟨by rfl, ?_⟩) ?_ ?_
        rotate_left
        ·intro w'
         go_simp
         with_reducible rfl
        rotate_left
        ·simp only [Act.put, sA, sZ, sS, i64_w, i32_w]
         rfl
        refine pure_ (i := 9) (N := some 51) (v := ?_) (a' := ?_) mk_LnS1_10 rfl rfl (any_of HT_.out (by kernel_rfl)) (fun _ _ _ h => h) (Or.inl ⟨by rfl, ?_⟩) ?_ ?_
        rotate_left
        ·intro w'
         go_simp
         with_reducible rfl
        rotate_left
        ·simp only [Act.put, sA, sZ, sS, i64_w, i32_w]
         rfl
        refine pure_ (i := 10) (N := some 6) (v := ?_) (a' := ?_) mk_LnS1_11 rfl rfl (any_of HT_.out (by kernel_rfl)) (fun _ _ _ h => h) (Or.inl ⟨by rfl, ?_⟩) ?_ ?_
        rotate_left
        ·intro w'
         go_simp
         with_reducible rfl
        rotate_left
        ·simp only [Act.put, sA, sZ, sS, i64_w, i32_w]
         rfl
        refine pure_ (i := 11) (N := some 7) (v := ?_) (a' := ?_) mk_LnS1_12 rfl rfl (any_of HT_.out (by kernel_rfl)) (fun _ _ _ h => h) (Or.inl ⟨by rfl, ?_⟩) ?_ ?_
        rotate_left
        ·intro w'
         go_simp
         with_reducible rfl
        rotate_left
        ·simp only [Act.put, sA, sZ, sS, i64_w, i32_w]
         rfl
        refine done_ (done_of HT_.out (by kernel_rfl)) ?_
        try go_wp2_with (first | ((with_reducible refine gate_dst (N := 54) rfl ?_); refine Kd.R_lit (Kd.int .i64) _ 3 ?hg (N := 54) ?hd (xs := ([a0] : List Int)) (inner := [.int .i64 a0]) (ok := fun _ => True) (okp := fun _ => True) ?hr ?hp (fun _ hk => hk) trivial (Below.refl _ _) (Nat.le_refl _) (by simp) ?_; (case hd => rfl); (case hg => rfl); (case hr => first | (go_simp; done) | (go_simp; rfl)); (case hp => exact (Reps.one (show Kd.M (Kd.int .i64) _ _ _ a0 [.int .i64 a0] from rfl) (Reps.none _ _))); intro v135 w150 ho151 hb hg_ hnew_; clear hg_ hnew_; (first | rw [← Ny134.out] at ho151 | (simp only [Int.reduceToNat] at ho151; rw [← Ny134.out] at ho151)); have n0_ := A0 (RE (RM HO103.out) (RB ho151) hb); have n1_ := A0 (RE (RM HO106.out) (RB ho151) hb); have n2_ := A0 (RE (RM HO109.out) (RB ho151) hb); have n3_ := A0 (RE (RM HO112.out) (RB ho151) hb); have n4_ := A0 (RE (RM HO115.out) (RB ho151) hb); have n5_ := A0 (RE (RM HO119.out) (RB ho151) hb); have n6_ := A0 (RW (RN (RN (RN (RN (RN (RN ho151 (RL (RM HO103.out))) (RL (RM HO106.out))) (RL (RM HO109.out))) (RL (RM HO112.out))) (RL (RM HO115.out))) (RL (RM HO119.out))) (below_size (BM HB.out))); have n7_ := A0 (below_step (BM HB.out) hb); clear HO103; clear HO106; clear HO109; clear HO112; clear HO115; clear HO119; clear HB; have HO103 := n0_; have HO106 := n1_; have HO109 := n2_; have HO112 := n3_; have HO115 := n4_; have HO119 := n5_; have HO136 := n6_; have HB := n7_; clear n0_ n1_ n2_ n3_ n4_ n5_ n6_ n7_; clear hb ho151; obtain ⟨Ao152, co152, eo152⟩ := RS HO136.out; subst eo152) | ((with_reducible refine gate_callee (f := 27) rfl ?_); refine goesL_ (some 55) rfl rfl Try.func27 (by kernel_rfl) rfl #[.slice Ao142 t104.length co142, .slice Ao152 y134.length co152] rfl (by (try simp only [lA, lC, lN]); first | done | rfl | (simp only [lD, lT]; rfl)) ?_; (with_reducible refine (sobriquetkeep_Ints.calls _ _ t104 _ _ y134 t137 _ ?side1 ?side2 ?side3 ?side4 A89.out).mono ?_); (case side1 => repeat (first | exact (RR HO106.out).2.2 | (with_reducible refine Kd.C_alloc ?_ _) | (with_reducible refine CD ?_ _) | (with_reducible refine Kd.C_drew ?_))); (case side2 => exact (RR HO106.out).2.1); (case side3 => repeat (first | exact (RR HO136.out).2.2 | (with_reducible refine Kd.C_alloc ?_ _) | (with_reducible refine CD ?_ _) | (with_reducible refine Kd.C_drew ?_))); (case side4 => exact (RR HO136.out).2.1); rintro e w' ⟨rfl, ⟨nd, rfl⟩⟩; refine ⟨_, rfl, ?_⟩) | (go_at_call 52; (with_reducible refine (sobriquetlaw11_wakes.calls  t139 _ A133.out).mono ?_); rintro e w153 ⟨rfl, hb⟩; have n0_ := A0 (Kd.R_below (RM HO103.out) hb); have n1_ := A0 (Kd.R_below (RM HO106.out) hb); have n2_ := A0 (Kd.R_below (RM HO109.out) hb); have n3_ := A0 (Kd.R_below (RM HO112.out) hb); have n4_ := A0 (Kd.R_below (RM HO115.out) hb); have n5_ := A0 (Kd.R_below (RM HO119.out) hb); have n6_ := A0 (Kd.R_below (RM HO136.out) hb); have n7_ := A0 (below_step (BM HB.out) hb); clear HO103; clear HO106; clear HO109; clear HO112; clear HO115; clear HO119; clear HO136; clear HB; have HO103 := n0_; have HO106 := n1_; have HO109 := n2_; have HO112 := n3_; have HO115 := n4_; have HO119 := n5_; have HO136 := n6_; have HB := n7_; clear n0_ n1_ n2_ n3_ n4_ n5_ n6_ n7_; (try clear hb); (try clear hb2); (try clear hk); (try clear hi)))
        go_ret
        exact ⟨by first | rfl | (simp [errW_none, errW_some] <;> rfl) | (simp [*, errW_none, errW_some] <;> rfl), BM HB.out⟩
       ·rw [if_neg c132] at H
        have c132b0 : (t137 == false) = false := by simpa using c132
        (try (have c132b1 : decide (t137 = false) = false := by simpa using c132))
        (try (have c132b2 : (t137 == false) = false := by simpa using c132))
        (try (have c132b3 : ¬ (t137 = false) := by simpa using c132))
        clear c132
        obtain rfl := Option.some.inj H
        go_enter Try.func19, Try.ntmps19
        try go_wp2_with (first | ((with_reducible refine gate_dst (N := 9) rfl ?_); refine Kd.R_lit (Kd.int .i64) _ 3 ?hg (N := 9) ?hd (xs := ([a0] : List Int)) (inner := [.int .i64 a0]) (ok := fun _ => True) (okp := fun _ => True) ?hr ?hp (fun _ hk => hk) trivial (Below.refl _ _) (Nat.le_refl _) (by simp) ?_; (case hd => rfl); (case hg => rfl); (case hr => first | (go_simp; done) | (go_simp; rfl)); (case hp => exact (Reps.one (show Kd.M (Kd.int .i64) _ _ _ a0 [.int .i64 a0] from rfl) (Reps.none _ _))); intro v102 w154 ho155 hb hg_ hnew_; clear hg_ hnew_; (first | rw [← Ny101.out] at ho155 | (simp only [Int.reduceToNat] at ho155; rw [← Ny101.out] at ho155)); have n0_ := A0 (RW ho155 (below_size (BM HB.out))); have n1_ := A0 (below_step (BM HB.out) hb); clear HB; have HO103 := n0_; have HB := n1_; clear n0_ n1_; clear hb ho155; obtain ⟨Ao156, co156, eo156⟩ := RS HO103.out; subst eo156) | ((with_reducible refine gate_callee (f := 50) rfl ?_); refine goesL_ (some 10) rfl rfl Try.func50 (by kernel_rfl) rfl #[.slice Ao156 y101.length co156, .bool false] rfl (by (try simp only [lA, lC, lN]); first | done | rfl | (simp only [lD, lT]; rfl)) ?_; (with_reducible refine (norm_Form.calls _ _ y101 false t104 _ ?side1 ?side2 A2.out).mono ?_); (case side1 => repeat (first | exact (RR HO103.out).2.2 | (with_reducible refine Kd.C_alloc ?_ _) | (with_reducible refine CD ?_ _) | (with_reducible refine Kd.C_drew ?_))); (case side2 => exact (RR HO103.out).2.1); rintro e w157 ⟨v105, rfl, ho0, hb⟩; refine ⟨_, rfl, ?_⟩; have n0_ := A0 (RE (RM HO103.out) (RB ho0) hb); have n1_ := A0 (RW (RN ho0 (RL (RM HO103.out))) (below_size (BM HB.out))); have n2_ := A0 (below_step (BM HB.out) hb); clear HO103; clear HB; have HO103 := n0_; have HO106 := n1_; have HB := n2_; clear n0_ n1_ n2_; (try clear hb); (try clear hb2); (try clear hk); (try clear hi); (try clear ho0)) | ((with_reducible refine gate_dst (N := 12) rfl ?_); refine Kd.R_lit (Kd.int .i64) _ 3 ?hg (N := 12) ?hd (xs := ([a0] : List Int)) (inner := [.int .i64 a0]) (ok := fun _ => True) (okp := fun _ => True) ?hr ?hp (fun _ hk => hk) trivial (Below.refl _ _) (Nat.le_refl _) (by simp) ?_; (case hd => rfl); (case hg => rfl); (case hr => first | (go_simp; done) | (go_simp; rfl)); (case hp => exact (Reps.one (show Kd.M (Kd.int .i64) _ _ _ a0 [.int .i64 a0] from rfl) (Reps.none _ _))); intro v108 w158 ho159 hb hg_ hnew_; clear hg_ hnew_; (first | rw [← Ny107.out] at ho159 | (simp only [Int.reduceToNat] at ho159; rw [← Ny107.out] at ho159)); have n0_ := A0 (RE (RM HO103.out) (RB ho159) hb); have n1_ := A0 (RE (RM HO106.out) (RB ho159) hb); have n2_ := A0 (RW (RN (RN ho159 (RL (RM HO103.out))) (RL (RM HO106.out))) (below_size (BM HB.out))); have n3_ := A0 (below_step (BM HB.out) hb); clear HO103; clear HO106; clear HB; have HO103 := n0_; have HO106 := n1_; have HO109 := n2_; have HB := n3_; clear n0_ n1_ n2_ n3_; clear hb ho159; obtain ⟨Ao160, co160, eo160⟩ := RS HO109.out; subst eo160) | ((with_reducible refine gate_callee (f := 51) rfl ?_); refine goesL_ (some 13) rfl rfl Try.func51 (by kernel_rfl) rfl #[.slice Ao160 y107.length co160, .bool false] rfl (by (try simp only [lA, lC, lN]); first | done | rfl | (simp only [lD, lT]; rfl)) ?_; (with_reducible refine (norm_Apart.calls _ _ y107 false t110 _ ?side1 ?side2 A3.out).mono ?_); (case side1 => repeat (first | exact (RR HO109.out).2.2 | (with_reducible refine Kd.C_alloc ?_ _) | (with_reducible refine CD ?_ _) | (with_reducible refine Kd.C_drew ?_))); (case side2 => exact (RR HO109.out).2.1); rintro e w161 ⟨v111, rfl, ho0, hb⟩; refine ⟨_, rfl, ?_⟩; have n0_ := A0 (RE (RM HO103.out) (RB ho0) hb); have n1_ := A0 (RE (RM HO106.out) (RB ho0) hb); have n2_ := A0 (RE (RM HO109.out) (RB ho0) hb); have n3_ := A0 (RW (RN (RN (RN ho0 (RL (RM HO103.out))) (RL (RM HO106.out))) (RL (RM HO109.out))) (below_size (BM HB.out))); have n4_ := A0 (below_step (BM HB.out) hb); clear HO103; clear HO106; clear HO109; clear HB; have HO103 := n0_; have HO106 := n1_; have HO109 := n2_; have HO112 := n3_; have HB := n4_; clear n0_ n1_ n2_ n3_ n4_; (try clear hb); (try clear hb2); (try clear hk); (try clear hi); (try clear ho0); obtain ⟨Ao162, co162, eo162⟩ := RS HO106.out; subst eo162) | ((with_reducible refine gate_callee (f := 51) rfl ?_); refine goesL_ (some 15) rfl rfl Try.func51 (by kernel_rfl) rfl #[.slice Ao162 t104.length co162, .bool false] rfl (by (try simp only [lA, lC, lN]); first | done | rfl | (simp only [lD, lT]; rfl)) ?_; (with_reducible refine (norm_Apart.calls _ _ t104 false t113 _ ?side1 ?side2 A4.out).mono ?_); (case side1 => repeat (first | exact (RR HO106.out).2.2 | (with_reducible refine Kd.C_alloc ?_ _) | (with_reducible refine CD ?_ _) | (with_reducible refine Kd.C_drew ?_))); (case side2 => exact (RR HO106.out).2.1); rintro e w163 ⟨v114, rfl, ho0, hb⟩; refine ⟨_, rfl, ?_⟩; have n0_ := A0 (RE (RM HO103.out) (RB ho0) hb); have n1_ := A0 (RE (RM HO106.out) (RB ho0) hb); have n2_ := A0 (RE (RM HO109.out) (RB ho0) hb); have n3_ := A0 (RE (RM HO112.out) (RB ho0) hb); have n4_ := A0 (RW (RN (RN (RN (RN ho0 (RL (RM HO103.out))) (RL (RM HO106.out))) (RL (RM HO109.out))) (RL (RM HO112.out))) (below_size (BM HB.out))); have n5_ := A0 (below_step (BM HB.out) hb); clear HO103; clear HO106; clear HO109; clear HO112; clear HB; have HO103 := n0_; have HO106 := n1_; have HO109 := n2_; have HO112 := n3_; have HO115 := n4_; have HB := n5_; clear n0_ n1_ n2_ n3_ n4_ n5_; (try clear hb); (try clear hb2); (try clear hk); (try clear hi); (try clear ho0); obtain ⟨Ao164, co164, eo164⟩ := RS HO115.out; subst eo164; obtain ⟨Ao165, co165, eo165⟩ := RS HO112.out; subst eo165) | ((with_reducible refine gate_callee (f := 27) rfl ?_); refine goesL_ (some 17) rfl rfl Try.func27 (by kernel_rfl) rfl #[.slice Ao164 t113.length co164, .slice Ao165 t110.length co165] rfl (by (try simp only [lA, lC, lN]); first | done | rfl | (simp only [lD, lT]; rfl)) ?_; (with_reducible refine (sobriquetkeep_Ints.calls _ _ t113 _ _ t110 true _ ?side1 ?side2 ?side3 ?side4 A5.out).mono ?_); (case side1 => repeat (first | exact (RR HO115.out).2.2 | (with_reducible refine Kd.C_alloc ?_ _) | (with_reducible refine CD ?_ _) | (with_reducible refine Kd.C_drew ?_))); (case side2 => exact (RR HO115.out).2.1); (case side3 => repeat (first | exact (RR HO112.out).2.2 | (with_reducible refine Kd.C_alloc ?_ _) | (with_reducible refine CD ?_ _) | (with_reducible refine Kd.C_drew ?_))); (case side4 => exact (RR HO112.out).2.1); rintro e w' ⟨rfl, ⟨nd, rfl⟩⟩; refine ⟨_, rfl, ?_⟩) | ((with_reducible refine gate_callee (f := 55) rfl ?_); refine goesL_ (some 20) rfl rfl Try.func55 (by kernel_rfl) rfl #[.int .i64 a0] rfl (by (try simp only [lA, lC, lN]); first | done | rfl | (simp only [lD, lT]; rfl)) ?_; (with_reducible refine (ucd_Canon.calls a0 t117 _ A7.out).mono ?_); rintro e w166 ⟨v118, rfl, ho0, hb⟩; refine ⟨_, rfl, ?_⟩; have n0_ := A0 (RE (RM HO103.out) (RB ho0) hb); have n1_ := A0 (RE (RM HO106.out) (RB ho0) hb); have n2_ := A0 (RE (RM HO109.out) (RB ho0) hb); have n3_ := A0 (RE (RM HO112.out) (RB ho0) hb); have n4_ := A0 (RE (RM HO115.out) (RB ho0) hb); have n5_ := A0 (RW (RN (RN (RN (RN (RN ho0 (RL (RM HO103.out))) (RL (RM HO106.out))) (RL (RM HO109.out))) (RL (RM HO112.out))) (RL (RM HO115.out))) (below_size (BM HB.out))); have n6_ := A0 (below_step (BM HB.out) hb); clear HO103; clear HO106; clear HO109; clear HO112; clear HO115; clear HB; have HO103 := n0_; have HO106 := n1_; have HO109 := n2_; have HO112 := n3_; have HO115 := n4_; have HO119 := n5_; have HB := n6_; clear n0_ n1_ n2_ n3_ n4_ n5_ n6_; (try clear hb); (try clear hb2); (try clear hk); (try clear hi); (try clear ho0); obtain ⟨Ao167, co167, eo167⟩ := RS HO119.out; subst eo167))
        have n0_ := A0 (Kd.R_drew HO103.out)
        have n1_ := A0 (Kd.R_drew HO106.out)
        have n2_ := A0 (Kd.R_drew HO109.out)
        have n3_ := A0 (Kd.R_drew HO112.out)
        have n4_ := A0 (Kd.R_drew HO115.out)
        have n5_ := A0 (Kd.R_drew HO119.out)
        have n6_ := A0 (below_drew1 HB.out)
        clear HO103
        clear HO106
        clear HO109
        clear HO112
        clear HO115
        clear HO119
        clear HB
        have HO103 := n0_
        have HO106 := n1_
        have HO109 := n2_
        have HO112 := n3_
        have HO115 := n4_
        have HO119 := n5_
        have HB := n6_
        clear n0_ n1_ n2_ n3_ n4_ n5_ n6_
        have p130 : 0 ≤ (0 : Int) := (by omega)
        have q130 : 0 < (t117.length : Int) := of_decide_eq_true (by first | (with_reducible assumption) | assumption)
        obtain ⟨ad130, e130, hx130_0⟩ := Kd.at_int (RR HO119.out).2.2 0 p130 q130
        cases e130
        have qi130 : (0 < t117.length) = True := eq_true (by omega)
        (try rw [show ((0 : Int)).toNat = 0 from rfl] at hx130_0)
        (try rw [Addr.add_zero'] at hx130_0)
        replace p130 := eq_true p130
        replace q130 := eq_true q130
        have p131 : 0 ≤ (1 : Int) := (by omega)
        have q131 : 1 < (t117.length : Int) := of_decide_eq_true (by first | (with_reducible assumption) | assumption)
        obtain ⟨ad131, e131, hx131_0⟩ := Kd.at_int (RR HO119.out).2.2 1 p131 q131
        obtain rfl : ad130 = ad131 := (by injection e131)
        (try simp only [show (1 : Int).toNat = 1 from rfl, Nat.reduceMul, Nat.reduceEqDiff, Go.Addr.add, ↓reduceIte] at hx131_0)
        have qi131 : (1 < t117.length) = True := eq_true (by omega)
        (try rw [show ((1 : Int)).toNat = 1 from rfl] at hx131_0)
        replace p131 := eq_true p131
        replace q131 := eq_true q131
        refine start_ (n := 12) (S := fun w' => w'.cell? ad130 = some (.int .i64 (rd t117 0)) ∧ w'.cell? ⟨ad130.block, ad130.off + 1, none⟩ = some (.int .i64 (rd t117 1))) (ds := []) mk_LnS1_0 (by kernel_rfl) rfl rfl ⟨hx130_0, hx131_0⟩ (fun hHeld => ?_); refine with_tabW sobriquetlaw11_NormScalars.tab9 sobriquetlaw11_NormScalars.bits9 (fun HT_ HW_ => ?_)
        generalize w166.drew = w168 at HO103 HO106 HO109 HO112 HO115 HO119 HB hx130_0 hx131_0 hHeld ⊢
        refine pure_ (i := 0) (N := some 43) (v := ?_) (a' := ?_) mk_LnS1_1 rfl rfl (any_of HT_.out (by kernel_rfl)) (fun _ _ _ h => h) (Or.inl ⟨by rfl, ?_⟩) ?_ ?_
        rotate_left
        ·intro w'
         go_simp
         with_reducible rfl
        rotate_left
        ·simp only [Act.put, sA, sZ, sS, i64_w, i32_w]
         rfl
        refine pure_ (i := 1) (N := some 44) (v := ?_) (a' := ?_) mk_LnS1_2 rfl rfl (any_of HT_.out (by kernel_rfl)) (fun _ _ _ h => h) (Or.inl ⟨by rfl, ?_⟩) ?_ ?_
        rotate_left
        ·intro w'
         go_simp
         with_reducible rfl
        rotate_left
        ·simp only [Act.put, sA, sZ, sS, i64_w, i32_w]
         rfl
        refine pure_ (i := 3) (N := some 46) (v := ?_) (a' := ?_) mk_LnS1_3 rfl rfl (any_of HT_.out (by kernel_rfl)) (fun _ _ _ h => h) (Or.inl ⟨by rfl, ?_⟩) ?_ ?_
        rotate_left
        ·intro w'
         go_simp
         with_reducible rfl
        rotate_left
        ·simp only [Act.put, sA, sZ, sS, i64_w, i32_w]
         rfl
        refine pure_ (i := 4) (N := some 47) (v := ?_) (a' := ?_) mk_LnS1_4 rfl rfl (any_of HT_.out (by kernel_rfl)) (fun _ _ _ h => h) (Or.inl ⟨by rfl, ?_⟩) ?_ ?_
        rotate_left
        ·intro w'
         go_simp
         with_reducible rfl
        rotate_left
        ·simp only [Act.put, sA, sZ, sS, i64_w, i32_w]
         rfl
        refine take_ (i := 2) (N := some 45) (v := ?_) (a' := ?_) mk_LnS1_5 rfl rfl (take_ofW HT_.out HW_.out (by kernel_rfl)) (fun _ _ _ h => h) (Or.inl ⟨by rfl, ?_⟩) hHeld ?_ ?_
        rotate_left
        ·rintro w' ⟨s0, s1⟩
         go_simp
         with_reducible rfl
        rotate_left
        ·simp only [Act.put, sA, sZ, sS, i64_w, i32_w]
         rfl
        refine take_ (i := 5) (N := some 48) (v := ?_) (a' := ?_) mk_LnS1_6 rfl rfl (take_ofW HT_.out HW_.out (by kernel_rfl)) (fun _ _ _ h => h) (Or.inl ⟨by rfl, ?_⟩) hHeld ?_ ?_
        rotate_left
        ·rintro w' ⟨s0, s1⟩
         go_simp
         with_reducible rfl
        rotate_left
        ·simp only [Act.put, sA, sZ, sS, i64_w, i32_w]
         rfl
        refine one_ (i := 6) (N := some 49) mk_LnS1_7 rfl rfl (one_of HT_.out (by kernel_rfl)) (by decide) (fun K hK => ?_)
        refine goes_ Try.func35 (by kernel_rfl) rfl #[.int .i64 (rd t117 0), .int .i64 (rd t117 1)] (by rfl) rfl rfl (by (try simp only [lA, lC, lN]); first | done | rfl | (simp only [lD, lT]; rfl)) ?_
        with_reducible refine (ucd_Pair.calls (rd t117 0) (rd t117 1) t132 false _ A88.out).mono ?_
        rintro e w169 ⟨rfl, hb⟩
        have HS0_ := (hb.cell (World.block_lt_of_cell? _ _ (hHeld.1))).trans (hHeld.1)
        have HS1_ := (hb.cell (World.block_lt_of_cell? _ _ (hHeld.2))).trans (hHeld.2)
        refine ⟨_, rfl, ?_⟩
        have n0_ := A0 (Kd.R_below (RM HO103.out) hb)
        have n1_ := A0 (Kd.R_below (RM HO106.out) hb)
        have n2_ := A0 (Kd.R_below (RM HO109.out) hb)
        have n3_ := A0 (Kd.R_below (RM HO112.out) hb)
        have n4_ := A0 (Kd.R_below (RM HO115.out) hb)
        have n5_ := A0 (Kd.R_below (RM HO119.out) hb)
        have n6_ := A0 (below_step (BM HB.out) hb)
        clear HO103
        clear HO106
        clear HO109
        clear HO112
        clear HO115
        clear HO119
        clear HB
        have HO103 := n0_
        have HO106 := n1_
        have HO109 := n2_
        have HO112 := n3_
        have HO115 := n4_
        have HO119 := n5_
        have HB := n6_
        clear n0_ n1_ n2_ n3_ n4_ n5_ n6_
        (try clear hb)
        (try clear hb2)
        (try clear hk)
        (try clear hi)
        refine hK.out _ _ ⟨HS0_, HS1_⟩ (fun hHeld => ?_)
        clear hK K
        refine norm_ (a' := ?_) ?_ ?_
        rotate_left
        ·show Act.put _ (some 49) _ = _
         simp only [Act.put, sA, sZ, sS, i64_w, i32_w]
         rfl
        refine pure_ (i := 7) (N := some 42) (v := ?_) (a' := ?_) mk_LnS1_8 rfl rfl (any_of HT_.out (by kernel_rfl)) (fun _ _ _ h => h) (Or.inl ⟨by rfl, ?_⟩) ?_ ?_
        rotate_left
        ·intro w'
         go_simp
         with_reducible rfl
        rotate_left
        ·simp only [Act.put, sA, sZ, sS, i64_w, i32_w]
         rfl
        refine pure_ (i := 8) (N := some 50) (v := ?_) (a' := ?_) mk_LnS1_9 rfl rfl (any_of HT_.out (by kernel_rfl)) (fun _ _ _ h => h) (Or.inl ⟨by rfl, ?_⟩) ?_ ?_
        rotate_left
        ·intro w'
         go_simp
         with_reducible rfl
        rotate_left
        ·simp only [Act.put, sA, sZ, sS, i64_w, i32_w]
         rfl
        refine pure_ (i := 9) (N := some 51) (v := ?_) (a' := ?_) mk_LnS1_10 rfl rfl (any_of HT_.out (by kernel_rfl)) (fun _ _ _ h => h) (Or.inl ⟨by rfl, ?_⟩) ?_ ?_
        rotate_left
        ·intro w'
         go_simp
         with_reducible rfl
        rotate_left
        ·simp only [Act.put, sA, sZ, sS, i64_w, i32_w]
         rfl
        refine pure_ (i := 10) (N := some 6) (v := ?_) (a' := ?_) mk_LnS1_11 rfl rfl (any_of HT_.out (by kernel_rfl)) (fun _ _ _ h => h) (Or.inl ⟨by rfl, ?_⟩) ?_ ?_
        rotate_left
        ·intro w'
         go_simp
         with_reducible rfl
        rotate_left
        ·simp only [Act.put, sA, sZ, sS, i64_w, i32_w]
         rfl
        refine pure_ (i := 11) (N := some 7) (v := ?_) (a' := ?_) mk_LnS1_12 rfl rfl (any_of HT_.out (by kernel_rfl)) (fun _ _ _ h => h) (Or.inl ⟨by rfl, ?_⟩) ?_ ?_
        rotate_left
        ·intro w'
         go_simp
         with_reducible rfl
        rotate_left
        ·simp only [Act.put, sA, sZ, sS, i64_w, i32_w]
         rfl
        refine done_ (done_of HT_.out (by kernel_rfl)) ?_
        try go_wp2_with (first | ((with_reducible refine gate_dst (N := 54) rfl ?_); refine Kd.R_lit (Kd.int .i64) _ 3 ?hg (N := 54) ?hd (xs := ([a0] : List Int)) (inner := [.int .i64 a0]) (ok := fun _ => True) (okp := fun _ => True) ?hr ?hp (fun _ hk => hk) trivial (Below.refl _ _) (Nat.le_refl _) (by simp) ?_; (case hd => rfl); (case hg => rfl); (case hr => first | (go_simp; done) | (go_simp; rfl)); (case hp => exact (Reps.one (show Kd.M (Kd.int .i64) _ _ _ a0 [.int .i64 a0] from rfl) (Reps.none _ _))); intro v135 w170 ho171 hb hg_ hnew_; clear hg_ hnew_; (first | rw [← Ny134.out] at ho171 | (simp only [Int.reduceToNat] at ho171; rw [← Ny134.out] at ho171)); have n0_ := A0 (RE (RM HO103.out) (RB ho171) hb); have n1_ := A0 (RE (RM HO106.out) (RB ho171) hb); have n2_ := A0 (RE (RM HO109.out) (RB ho171) hb); have n3_ := A0 (RE (RM HO112.out) (RB ho171) hb); have n4_ := A0 (RE (RM HO115.out) (RB ho171) hb); have n5_ := A0 (RE (RM HO119.out) (RB ho171) hb); have n6_ := A0 (RW (RN (RN (RN (RN (RN (RN ho171 (RL (RM HO103.out))) (RL (RM HO106.out))) (RL (RM HO109.out))) (RL (RM HO112.out))) (RL (RM HO115.out))) (RL (RM HO119.out))) (below_size (BM HB.out))); have n7_ := A0 (below_step (BM HB.out) hb); clear HO103; clear HO106; clear HO109; clear HO112; clear HO115; clear HO119; clear HB; have HO103 := n0_; have HO106 := n1_; have HO109 := n2_; have HO112 := n3_; have HO115 := n4_; have HO119 := n5_; have HO136 := n6_; have HB := n7_; clear n0_ n1_ n2_ n3_ n4_ n5_ n6_ n7_; clear hb ho171; obtain ⟨Ao172, co172, eo172⟩ := RS HO136.out; subst eo172) | ((with_reducible refine gate_callee (f := 27) rfl ?_); refine goesL_ (some 55) rfl rfl Try.func27 (by kernel_rfl) rfl #[.slice Ao162 t104.length co162, .slice Ao172 y134.length co172] rfl (by (try simp only [lA, lC, lN]); first | done | rfl | (simp only [lD, lT]; rfl)) ?_; (with_reducible refine (sobriquetkeep_Ints.calls _ _ t104 _ _ y134 t137 _ ?side1 ?side2 ?side3 ?side4 A89.out).mono ?_); (case side1 => repeat (first | exact (RR HO106.out).2.2 | (with_reducible refine Kd.C_alloc ?_ _) | (with_reducible refine CD ?_ _) | (with_reducible refine Kd.C_drew ?_))); (case side2 => exact (RR HO106.out).2.1); (case side3 => repeat (first | exact (RR HO136.out).2.2 | (with_reducible refine Kd.C_alloc ?_ _) | (with_reducible refine CD ?_ _) | (with_reducible refine Kd.C_drew ?_))); (case side4 => exact (RR HO136.out).2.1); rintro e w' ⟨rfl, ⟨nd, rfl⟩⟩; refine ⟨_, rfl, ?_⟩))
        go_ret
        exact ⟨by first | rfl | (simp [errW_none, errW_some] <;> rfl) | (simp [*, errW_none, errW_some] <;> rfl), BM HB.out⟩
     ·rw [if_neg c87] at H
      exact absurd H (by simp)
    ·rw [if_neg c86] at H
     exact absurd H (by simp)
 ·replace c6 := Bool.eq_false_iff.mpr c6
  subst c6
  have H1 : (some false) = some r := by rw [if_neg (show ¬ (false = true) by decide)] at H; exact H
  clear H
  have H := H1
  clear H1
  obtain rfl := Option.some.inj H
  go_enter Try.func19, Try.ntmps19
  go_wp2_with (first | ((with_reducible refine gate_dst (N := 9) rfl ?_); refine Kd.R_lit (Kd.int .i64) _ 3 ?hg (N := 9) ?hd (xs := ([a0] : List Int)) (inner := [.int .i64 a0]) (ok := fun _ => True) (okp := fun _ => True) ?hr ?hp (fun _ hk => hk) trivial (Below.refl _ _) (Nat.le_refl _) (by simp) ?_; (case hd => rfl); (case hg => rfl); (case hr => first | (go_simp; done) | (go_simp; rfl)); (case hp => exact (Reps.one (show Kd.M (Kd.int .i64) _ _ _ a0 [.int .i64 a0] from rfl) (Reps.none _ _))); intro v102 w173 ho174 hb hg_ hnew_; clear hg_ hnew_; (first | rw [← Ny101.out] at ho174 | (simp only [Int.reduceToNat] at ho174; rw [← Ny101.out] at ho174)); have n0_ := A0 (RW ho174 (below_size (BM HB.out))); have n1_ := A0 (below_step (BM HB.out) hb); clear HB; have HO103 := n0_; have HB := n1_; clear n0_ n1_; clear hb ho174; obtain ⟨Ao175, co175, eo175⟩ := RS HO103.out; subst eo175) | ((with_reducible refine gate_callee (f := 50) rfl ?_); refine goesL_ (some 10) rfl rfl Try.func50 (by kernel_rfl) rfl #[.slice Ao175 y101.length co175, .bool false] rfl (by (try simp only [lA, lC, lN]); first | done | rfl | (simp only [lD, lT]; rfl)) ?_; (with_reducible refine (norm_Form.calls _ _ y101 false t104 _ ?side1 ?side2 A2.out).mono ?_); (case side1 => repeat (first | exact (RR HO103.out).2.2 | (with_reducible refine Kd.C_alloc ?_ _) | (with_reducible refine CD ?_ _) | (with_reducible refine Kd.C_drew ?_))); (case side2 => exact (RR HO103.out).2.1); rintro e w176 ⟨v105, rfl, ho0, hb⟩; refine ⟨_, rfl, ?_⟩; have n0_ := A0 (RE (RM HO103.out) (RB ho0) hb); have n1_ := A0 (RW (RN ho0 (RL (RM HO103.out))) (below_size (BM HB.out))); have n2_ := A0 (below_step (BM HB.out) hb); clear HO103; clear HB; have HO103 := n0_; have HO106 := n1_; have HB := n2_; clear n0_ n1_ n2_; (try clear hb); (try clear hb2); (try clear hk); (try clear hi); (try clear ho0)) | ((with_reducible refine gate_dst (N := 12) rfl ?_); refine Kd.R_lit (Kd.int .i64) _ 3 ?hg (N := 12) ?hd (xs := ([a0] : List Int)) (inner := [.int .i64 a0]) (ok := fun _ => True) (okp := fun _ => True) ?hr ?hp (fun _ hk => hk) trivial (Below.refl _ _) (Nat.le_refl _) (by simp) ?_; (case hd => rfl); (case hg => rfl); (case hr => first | (go_simp; done) | (go_simp; rfl)); (case hp => exact (Reps.one (show Kd.M (Kd.int .i64) _ _ _ a0 [.int .i64 a0] from rfl) (Reps.none _ _))); intro v108 w177 ho178 hb hg_ hnew_; clear hg_ hnew_; (first | rw [← Ny107.out] at ho178 | (simp only [Int.reduceToNat] at ho178; rw [← Ny107.out] at ho178)); have n0_ := A0 (RE (RM HO103.out) (RB ho178) hb); have n1_ := A0 (RE (RM HO106.out) (RB ho178) hb); have n2_ := A0 (RW (RN (RN ho178 (RL (RM HO103.out))) (RL (RM HO106.out))) (below_size (BM HB.out))); have n3_ := A0 (below_step (BM HB.out) hb); clear HO103; clear HO106; clear HB; have HO103 := n0_; have HO106 := n1_; have HO109 := n2_; have HB := n3_; clear n0_ n1_ n2_ n3_; clear hb ho178; obtain ⟨Ao179, co179, eo179⟩ := RS HO109.out; subst eo179) | ((with_reducible refine gate_callee (f := 51) rfl ?_); refine goesL_ (some 13) rfl rfl Try.func51 (by kernel_rfl) rfl #[.slice Ao179 y107.length co179, .bool false] rfl (by (try simp only [lA, lC, lN]); first | done | rfl | (simp only [lD, lT]; rfl)) ?_; (with_reducible refine (norm_Apart.calls _ _ y107 false t110 _ ?side1 ?side2 A3.out).mono ?_); (case side1 => repeat (first | exact (RR HO109.out).2.2 | (with_reducible refine Kd.C_alloc ?_ _) | (with_reducible refine CD ?_ _) | (with_reducible refine Kd.C_drew ?_))); (case side2 => exact (RR HO109.out).2.1); rintro e w180 ⟨v111, rfl, ho0, hb⟩; refine ⟨_, rfl, ?_⟩; have n0_ := A0 (RE (RM HO103.out) (RB ho0) hb); have n1_ := A0 (RE (RM HO106.out) (RB ho0) hb); have n2_ := A0 (RE (RM HO109.out) (RB ho0) hb); have n3_ := A0 (RW (RN (RN (RN ho0 (RL (RM HO103.out))) (RL (RM HO106.out))) (RL (RM HO109.out))) (below_size (BM HB.out))); have n4_ := A0 (below_step (BM HB.out) hb); clear HO103; clear HO106; clear HO109; clear HB; have HO103 := n0_; have HO106 := n1_; have HO109 := n2_; have HO112 := n3_; have HB := n4_; clear n0_ n1_ n2_ n3_ n4_; (try clear hb); (try clear hb2); (try clear hk); (try clear hi); (try clear ho0); obtain ⟨Ao181, co181, eo181⟩ := RS HO106.out; subst eo181) | ((with_reducible refine gate_callee (f := 51) rfl ?_); refine goesL_ (some 15) rfl rfl Try.func51 (by kernel_rfl) rfl #[.slice Ao181 t104.length co181, .bool false] rfl (by (try simp only [lA, lC, lN]); first | done | rfl | (simp only [lD, lT]; rfl)) ?_; (with_reducible refine (norm_Apart.calls _ _ t104 false t113 _ ?side1 ?side2 A4.out).mono ?_); (case side1 => repeat (first | exact (RR HO106.out).2.2 | (with_reducible refine Kd.C_alloc ?_ _) | (with_reducible refine CD ?_ _) | (with_reducible refine Kd.C_drew ?_))); (case side2 => exact (RR HO106.out).2.1); rintro e w182 ⟨v114, rfl, ho0, hb⟩; refine ⟨_, rfl, ?_⟩; have n0_ := A0 (RE (RM HO103.out) (RB ho0) hb); have n1_ := A0 (RE (RM HO106.out) (RB ho0) hb); have n2_ := A0 (RE (RM HO109.out) (RB ho0) hb); have n3_ := A0 (RE (RM HO112.out) (RB ho0) hb); have n4_ := A0 (RW (RN (RN (RN (RN ho0 (RL (RM HO103.out))) (RL (RM HO106.out))) (RL (RM HO109.out))) (RL (RM HO112.out))) (below_size (BM HB.out))); have n5_ := A0 (below_step (BM HB.out) hb); clear HO103; clear HO106; clear HO109; clear HO112; clear HB; have HO103 := n0_; have HO106 := n1_; have HO109 := n2_; have HO112 := n3_; have HO115 := n4_; have HB := n5_; clear n0_ n1_ n2_ n3_ n4_ n5_; (try clear hb); (try clear hb2); (try clear hk); (try clear hi); (try clear ho0); obtain ⟨Ao183, co183, eo183⟩ := RS HO115.out; subst eo183; obtain ⟨Ao184, co184, eo184⟩ := RS HO112.out; subst eo184) | ((with_reducible refine gate_callee (f := 27) rfl ?_); refine goesL_ (some 17) rfl rfl Try.func27 (by kernel_rfl) rfl #[.slice Ao183 t113.length co183, .slice Ao184 t110.length co184] rfl (by (try simp only [lA, lC, lN]); first | done | rfl | (simp only [lD, lT]; rfl)) ?_; (with_reducible refine (sobriquetkeep_Ints.calls _ _ t113 _ _ t110 false _ ?side1 ?side2 ?side3 ?side4 A5.out).mono ?_); (case side1 => repeat (first | exact (RR HO115.out).2.2 | (with_reducible refine Kd.C_alloc ?_ _) | (with_reducible refine CD ?_ _) | (with_reducible refine Kd.C_drew ?_))); (case side2 => exact (RR HO115.out).2.1); (case side3 => repeat (first | exact (RR HO112.out).2.2 | (with_reducible refine Kd.C_alloc ?_ _) | (with_reducible refine CD ?_ _) | (with_reducible refine Kd.C_drew ?_))); (case side4 => exact (RR HO112.out).2.1); rintro e w' ⟨rfl, ⟨nd, rfl⟩⟩; refine ⟨_, rfl, ?_⟩))
  go_ret
  exact ⟨by first | rfl | (simp [errW_none, errW_some] <;> rfl) | (simp [*, errW_none, errW_some] <;> rfl), BM HB.out⟩

/-- THE ONE PURE STATEMENT of sobriquetlaw11_NormScalars: yours. -/
def sobriquetlaw11_NormScalars.Pure : Prop := ∀ (a0 : Int), (Lit.int .i64 a0).wf = true → sobriquetlaw11_NormScalars.f a0 = some true
theorem sobriquetlaw11_NormScalars.walk (P : sobriquetlaw11_NormScalars.Pure) (a0 : Int) (w : World) (w0 : (Lit.int .i64 a0).wf = true) :
  Calls Try.prog 19 #[.int .i64 a0] w fun e w' => e = .returned (.bool true) ∧ Below w.heap.size w w' := by
 have h := P a0 w0
 refine (sobriquetlaw11_NormScalars.calls a0 true w h).mono ?_
 rintro e w' ⟨rfl, hd⟩
 exact ⟨rfl, hd⟩

end Go.Proofs.Ytjolmhokeceljaa.LnS
