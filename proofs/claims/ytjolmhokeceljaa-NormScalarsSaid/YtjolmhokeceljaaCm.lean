-- Written by a program of this session out of the translation (a printer). Lean checks it.
import Derived.Test.YtjolmhokeceljaaProg
import Derived.Below
import Derived.Deep.Draws
import Derived.Deep.AppendLies
import Derived.Maps.AppendAt
import Derived.OwnWalk
import Derived.Laws.BytesArg
import Derived.Laws.MakeOwn
import Derived.Laws.OwnMore
import Derived.Deep.OwnRows
import Derived.Tactics
import Derived.Lib.ConvBytes
import Derived.Laws.Slices
import Derived.WalkKit
import Derived.KernelRfl
import Derived.RowKit3
import Derived.Deep.LoopGhost
import Derived.Deep.QuietTactic
import Derived.BigQuiet
import Derived.WideLaws
import Derived.Deep.DeepCutAuto
import Derived.Deep.CutBlock
import Derived.Deep.RegionHeld3
import Derived.Laws.Rows
import Derived.Lib.AppendStr
import Derived.ArgAppend
import Derived.Laws.IdiomCopy
import Derived.OrdersHeld
import Derived.Laws.BitsLemmas
import Derived.RowKit
import Derived.Test.YtjolmhokeceljaaPair
import Derived.Test.YtjolmhokeceljaaWWords
import Derived.Test.YtjolmhokeceljaaWLast
import Derived.Test.YtjolmhokeceljaaWTab
import Derived.Test.YtjolmhokeceljaaWQPut
import Derived.Test.YtjolmhokeceljaaWApart
import Derived.Test.YtjolmhokeceljaaWArr
import Derived.Test.YtjolmhokeceljaaWZeros
import Derived.Test.YtjolmhokeceljaaWFoot
import Derived.Test.YtjolmhokeceljaaWKept
import Derived.Test.YtjolmhokeceljaaWShare
import Derived.Test.YtjolmhokeceljaaWN
import Derived.Test.YtjolmhokeceljaaWRepsOne
import Derived.Test.YtjolmhokeceljaaWGuard
import Derived.Test.YtjolmhokeceljaaWNEv
import Derived.Test.YtjolmhokeceljaaWMore
namespace Go.Proofs.Ytjolmhokeceljaa.Cm
open Go.RowKit Go.Proofs.Ytjolmhokeceljaa.Own Go.Proofs.YtjolmhokeceljaaW.PrintWords Go.Proofs.YtjolmhokeceljaaW.PrintLast Go.Proofs.YtjolmhokeceljaaW.PrintMore
attribute [local go_sem] max2_int min2_int max_two min_two max_three min_three max_four min_four   -- for this text's walks alone
set_option linter.unusedVariables false
set_option linter.unusedSimpArgs false



def errW : Option Int → Value
 | none => .nilIface
 | some c => .iface 0 (.int .i64 c)
theorem errW_none : errW none = .nilIface := rfl
theorem errW_some (c : Int) : errW (some c) = .iface 0 (.int .i64 c) := rfl

theorem info3 : (Try.prog.info? 3).map (fun i => (i.zero, i.size, i.bytes)) = some (some (.int .i64 0), 1, 8) := by kernel_rfl
-- the values' own types

end Go.Proofs.Ytjolmhokeceljaa.Cm

namespace Go.Proofs.Ytjolmhokeceljaa.Cm
open Go.RowKit Go.Proofs.Ytjolmhokeceljaa.Own Go.Proofs.YtjolmhokeceljaaW.PrintWords Go.Proofs.YtjolmhokeceljaaW.PrintLast Go.Proofs.YtjolmhokeceljaaW.PrintMore
attribute [local go_sem] max2_int min2_int max_two min_two max_three min_three max_four min_four   -- for this text's walks alone
set_option linter.unusedVariables false
set_option linter.unusedSimpArgs false

/-! ### compose_Two: function 32 -/
def compose_Two.f (a0 : Int) (a1 : Int) : Option (Int × Bool) := (hangul_Join.f a0 a1).bind fun bt101 => (if bt101.2 = true then (some (bt101.1, true)) else ((ucd_Pair.f a0 a1).bind fun bt103 => (some (bt103.1, bt103.2))))
set_option maxHeartbeats 8000000 in
set_option maxRecDepth 100000 in
theorem compose_Two.calls (a0 : Int) (a1 : Int) (r1 : Int) (r2 : Bool) (w : World) (h : compose_Two.f a0 a1 = some (r1, r2)) :
  Calls Try.prog 32 #[.int .i64 a0, .int .i64 a1] w fun e w' => e = .returned (.tuple #[.int .i64 r1, .bool r2]) ∧ Below w.heap.size w w' := by
 have HB := Aside0.mk (Below.refl w.heap.size w)
 have H : ((hangul_Join.f a0 a1).bind fun bt101 => (if bt101.2 = true then (some (bt101.1, true)) else ((ucd_Pair.f a0 a1).bind fun bt103 => (some (bt103.1, bt103.2))))) = some (r1, r2) := h
 clear h
 replace H := Option.bind_eq_some_iff.mp H
 obtain ⟨⟨t101, t102⟩, A30, H⟩ := H
 replace H : (if t102 = true then (some (t101, true)) else ((ucd_Pair.f a0 a1).bind fun bt103 => (some (bt103.1, bt103.2)))) = some (r1, r2) := H
 have A3 := Aside0.mk A30
 clear A30
 by_cases c4 : t102 = true
 ·subst c4
  have H1 : (some (t101, true)) = some (r1, r2) := by rw [if_pos rfl] at H; exact H
  clear H
  have H := H1
  clear H1
  simp only [Option.some.injEq, Prod.mk.injEq] at H
  obtain ⟨rfl, rfl⟩ := H
  go_enter Try.func32, Try.ntmps32
  go_wp2_with (first | ((with_reducible refine gate_callee (f := 34) rfl ?_); refine goesL_ (some 11) rfl rfl Try.func34 (by kernel_rfl) rfl #[.int .i64 a0, .int .i64 a1] rfl (by (try simp only [List.map_toArray, List.map_cons, List.map_nil]); first | done | rfl | (simp only [List.length_drop, List.length_take]; rfl)) ?_; (with_reducible refine (hangul_Join.calls a0 a1 t101 true _ A3.out).mono ?_); rintro e w' ⟨rfl, ⟨nd, rfl⟩⟩; refine ⟨_, rfl, ?_⟩))
  go_ret2
  exact ⟨by first | rfl | (simp [errW_none, errW_some] <;> rfl) | (simp [*, errW_none, errW_some] <;> rfl), BM HB.out⟩
 ·replace c4 := Bool.eq_false_iff.mpr c4
  subst c4
  have H1 : ((ucd_Pair.f a0 a1).bind fun bt103 => (some (bt103.1, bt103.2))) = some (r1, r2) := by rw [if_neg (show ¬ (false = true) by decide)] at H; exact H
  clear H
  have H := H1
  clear H1
  replace H := Option.bind_eq_some_iff.mp H
  obtain ⟨⟨t103, t104⟩, A50, H⟩ := H
  replace H : (some (t103, t104)) = some (r1, r2) := H
  have A5 := Aside0.mk A50
  clear A50
  simp only [Option.some.injEq, Prod.mk.injEq] at H
  obtain ⟨rfl, rfl⟩ := H
  go_enter Try.func32, Try.ntmps32
  go_wp2_with (first | ((with_reducible refine gate_callee (f := 34) rfl ?_); refine goesL_ (some 11) rfl rfl Try.func34 (by kernel_rfl) rfl #[.int .i64 a0, .int .i64 a1] rfl (by (try simp only [List.map_toArray, List.map_cons, List.map_nil]); first | done | rfl | (simp only [List.length_drop, List.length_take]; rfl)) ?_; (with_reducible refine (hangul_Join.calls a0 a1 t101 false _ A3.out).mono ?_); rintro e w' ⟨rfl, ⟨nd, rfl⟩⟩; refine ⟨_, rfl, ?_⟩) | ((with_reducible refine gate_callee (f := 35) rfl ?_); refine goesL_ (some 18) rfl rfl Try.func35 (by kernel_rfl) rfl #[.int .i64 a0, .int .i64 a1] rfl (by (try simp only [List.map_toArray, List.map_cons, List.map_nil]); first | done | rfl | (simp only [List.length_drop, List.length_take]; rfl)) ?_; (with_reducible refine (ucd_Pair.calls a0 a1 t103 t104 _ A5.out).mono ?_); rintro e w6 ⟨rfl, hb⟩; refine ⟨_, rfl, ?_⟩; have n0_ := Aside0.mk (below_step (BM HB.out) hb); clear HB; have HB := n0_; clear n0_; (try clear hb); (try clear hb2); (try clear hk); (try clear hi)))
  go_ret2
  exact ⟨by first | rfl | (simp [errW_none, errW_some] <;> rfl) | (simp [*, errW_none, errW_some] <;> rfl), BM HB.out⟩

/-! ### compose_All: function 33 -/
mutual
def compose_All.l0 : Nat → List Int → Int → List Int → Int → Int → Option (List Int)
 | 0, _, _, _, _, _ => none
 | k + 1, x3, x4, x13, x14, x15 => if x15 < x14 then (if 0 ≤ x15 then (if x15 < (x13.length : Int) then ((ucd_Class.f (rd x13 x15)).bind fun t106 => (if (wrap64 ((x3.length : Int) - 1)) > x4 then (if 0 ≤ (wrap64 ((x3.length : Int) - 1)) then (if (wrap64 ((x3.length : Int) - 1)) < (x3.length : Int) then ((ucd_Class.f (rd x3 (wrap64 ((x3.length : Int) - 1)))).bind fun t108 => (if t108 = 0 then (compose_All.j1 k x3 x4 (rd x13 x15) t106 true x13 x14 x15) else (compose_All.j1 k x3 x4 (rd x13 x15) t106 (decide (t108 ≥ t106)) x13 x14 x15))) else (none)) else (none)) else (compose_All.j1 k x3 x4 (rd x13 x15) t106 false x13 x14 x15))) else (none)) else (none)) else (some x3)
def compose_All.j1 : Nat → List Int → Int → Int → Int → Bool → List Int → Int → Int → Option (List Int)
 | 0, _, _, _, _, _, _, _, _ => none
 | k + 1, x3, x4, x6, x7, x9, x13, x14, x15 => if x4 ≥ 0 then (compose_All.j2 k x3 x4 x6 x7 x13 x14 x15 (!x9)) else (compose_All.j2 k x3 x4 x6 x7 x13 x14 x15 false)
def compose_All.j2 : Nat → List Int → Int → Int → Int → List Int → Int → Int → Bool → Option (List Int)
 | 0, _, _, _, _, _, _, _, _ => none
 | k + 1, x3, x4, x6, x7, x13, x14, x15, x44 => if x44 = true then (if 0 ≤ x4 then (if x4 < (x3.length : Int) then ((compose_Two.f (rd x3 x4) x6).bind fun bt110 => (if bt110.2 = true then (compose_All.l0 k (x3.set (x4 : Int).toNat bt110.1) x4 x13 x14 (wrap64 (x15 + 1))) else (if x3.length < 17592186044416 then ((some (x3 ++ [x6] : List Int)).bind fun y113 => (if x7 = 0 then (compose_All.l0 k y113 (wrap64 ((y113.length : Int) - 1)) x13 x14 (wrap64 (x15 + 1))) else (compose_All.l0 k y113 x4 x13 x14 (wrap64 (x15 + 1))))) else (none)))) else (none)) else (none)) else (if x3.length < 17592186044416 then ((some (x3 ++ [x6] : List Int)).bind fun y116 => (if x7 = 0 then (compose_All.l0 k y116 (wrap64 ((y116.length : Int) - 1)) x13 x14 (wrap64 (x15 + 1))) else (compose_All.l0 k y116 x4 x13 x14 (wrap64 (x15 + 1))))) else (none))
end
def compose_All.f (k : Nat) (l0 : List Int) : Option (List Int) := compose_All.l0 k ([] : List Int) (-1) l0 (l0.length : Int) 0
theorem compose_All.mono_l : ∀ k, (∀ y0 y1 y2 y3 y4, LeO (compose_All.l0 k y0 y1 y2 y3 y4) (compose_All.l0 (k + 1) y0 y1 y2 y3 y4)) ∧ (∀ y0 y1 y2 y3 y4 y5 y6 y7, LeO (compose_All.j1 k y0 y1 y2 y3 y4 y5 y6 y7) (compose_All.j1 (k + 1) y0 y1 y2 y3 y4 y5 y6 y7)) ∧ (∀ y0 y1 y2 y3 y4 y5 y6 y7, LeO (compose_All.j2 k y0 y1 y2 y3 y4 y5 y6 y7) (compose_All.j2 (k + 1) y0 y1 y2 y3 y4 y5 y6 y7))
 | 0 => ⟨fun _ _ _ _ _ r h => by simp [compose_All.l0] at h, fun _ _ _ _ _ _ _ _ r h => by simp [compose_All.j1] at h, fun _ _ _ _ _ _ _ _ r h => by simp [compose_All.j2] at h⟩
 | k + 1 => by
  obtain ⟨ih0, ih1, ih2⟩ := compose_All.mono_l k
  refine ⟨?_, ?_, ?_⟩
  ·intro y0 y1 y2 y3 y4
   unfold compose_All.l0
   repeat' first
   | (with_reducible exact ih0 _ _ _ _ _)
   | (with_reducible exact ih1 _ _ _ _ _ _ _ _)
   | (with_reducible exact ih2 _ _ _ _ _ _ _ _)
   | (with_reducible exact LeO.refl _)
   | (with_reducible exact LeO.none _)
   | (with_reducible refine LeO.ite ?_ ?_)
   | (with_reducible refine LeO.bind ?_ (fun _ => ?_))
   | exact ih0 _ _ _ _ _
   | exact ih1 _ _ _ _ _ _ _ _
   | exact ih2 _ _ _ _ _ _ _ _
   | exact LeO.none _
   | refine LeO.ite ?_ ?_
   | refine LeO.bind ?_ (fun _ => ?_)
  ·intro y0 y1 y2 y3 y4 y5 y6 y7
   unfold compose_All.j1
   repeat' first
   | (with_reducible exact ih0 _ _ _ _ _)
   | (with_reducible exact ih1 _ _ _ _ _ _ _ _)
   | (with_reducible exact ih2 _ _ _ _ _ _ _ _)
   | (with_reducible exact LeO.refl _)
   | (with_reducible exact LeO.none _)
   | (with_reducible refine LeO.ite ?_ ?_)
   | (with_reducible refine LeO.bind ?_ (fun _ => ?_))
   | exact ih0 _ _ _ _ _
   | exact ih1 _ _ _ _ _ _ _ _
   | exact ih2 _ _ _ _ _ _ _ _
   | exact LeO.none _
   | refine LeO.ite ?_ ?_
   | refine LeO.bind ?_ (fun _ => ?_)
  ·intro y0 y1 y2 y3 y4 y5 y6 y7
   unfold compose_All.j2
   repeat' first
   | (with_reducible exact ih0 _ _ _ _ _)
   | (with_reducible exact ih1 _ _ _ _ _ _ _ _)
   | (with_reducible exact ih2 _ _ _ _ _ _ _ _)
   | (with_reducible exact LeO.refl _)
   | (with_reducible exact LeO.none _)
   | (with_reducible refine LeO.ite ?_ ?_)
   | (with_reducible refine LeO.bind ?_ (fun _ => ?_))
   | exact ih0 _ _ _ _ _
   | exact ih1 _ _ _ _ _ _ _ _
   | exact ih2 _ _ _ _ _ _ _ _
   | exact LeO.none _
   | refine LeO.ite ?_ ?_
   | refine LeO.bind ?_ (fun _ => ?_)
theorem compose_All.mono : ∀ a0 k, LeO (compose_All.f k a0) (compose_All.f (k + 1) a0) := by
 intro a0 k
 obtain ⟨ih0, ih1, ih2⟩ := compose_All.mono_l k
 unfold compose_All.f
 repeat' first
   | (with_reducible exact ih0 _ _ _ _ _)
   | (with_reducible exact ih1 _ _ _ _ _ _ _ _)
   | (with_reducible exact ih2 _ _ _ _ _ _ _ _)
   | (with_reducible exact LeO.refl _)
   | (with_reducible exact LeO.none _)
   | (with_reducible refine LeO.ite ?_ ?_)
   | (with_reducible refine LeO.bind ?_ (fun _ => ?_))
   | exact ih0 _ _ _ _ _
   | exact ih1 _ _ _ _ _ _ _ _
   | exact ih2 _ _ _ _ _ _ _ _
   | exact LeO.none _
   | refine LeO.ite ?_ ?_
   | refine LeO.bind ?_ (fun _ => ?_)
set_option maxHeartbeats 8000000 in
set_option maxRecDepth 100000 in
theorem compose_All.calls (k : Nat) (A0 : Option Addr) (c0 : Nat) (l0 : List Int) (r : List Int) (w : World) (hr0 : Kd.C (Kd.int .i64) w A0 l0.length l0) (hc0 : l0.length ≤ c0) (h : compose_All.f k l0 = some r) :
  Calls Try.prog 33 #[.slice A0 l0.length c0] w fun e w' => ∃ v0_ : Value, e = .returned (v0_) ∧ Kd.R (Kd.int .i64) 3 w' w.heap.size (fun _ => True) v0_ r ∧ Below w.heap.size w w' := by
 have HR0 := Aside0.mk hr0
 have HC0 := Aside0.mk hc0
 clear hr0 hc0
 have HB := Aside0.mk (Below.refl w.heap.size w)
 have H : (compose_All.l0 k ([] : List Int) (-1) l0 (l0.length : Int) 0) = some r := h
 clear h
 have H' := Aside0.mk H
 clear H
 go_enter Try.func33, Try.ntmps33
 go_wp2
 go_loopg [3, 4, 15] k (fun kq v3 v4 v15 w' => ∃ (x3_1 : List Int) (x4_1 : Int) (x15_1 : Int), v4 = .int .i64 x4_1 ∧ v15 = .int .i64 x15_1 ∧ Aside0 (compose_All.l0 kq x3_1 x4_1 l0 (l0.length : Int) x15_1 = some r) ∧ Aside0 (kq ≤ k) ∧ Aside0 (Kd.R (Kd.int .i64) 3 w' w.heap.size (fun _ => True) v3 x3_1) ∧ Aside0 (Below w.heap.size w w'))
 case atStart => exact ⟨(([] : List Int)), ((-1)), (0), (by first | rfl | (simp; done) | (simp [*]; done)), (by first | rfl | (simp; done) | (simp [*]; done)), H', ⟨Nat.le_refl _⟩, ⟨by first | exact Kd.R_nil _ _ _ _ _ | exact Kd.N_nil _ _ _ _ _ | exact Kd.V_nil _ _ _ _ _ | exact Kd.Q_nil _ _ _ _ _ | exact Kd.S_nil _ _ _ _ _⟩, ⟨BM HB.out⟩⟩
 case round =>
  clear H'
  obtain ⟨x3_1, x4_1, x15_1, rfl, rfl, HA, HK1, HO_3, HB⟩ := hrel
  cases gk with
  | zero => exact absurd HA.out (by simp [compose_All.l0])
  | succ k1 =>
   have H := HA.out
   clear HA
   simp only [compose_All.l0] at H
   by_cases c2 : x15_1 < (l0.length : Int)
   ·rw [if_pos c2] at H
    have c2b0 : decide (x15_1 < (l0.length : Int)) = true := decide_eq_true c2
    clear c2
    by_cases c3 : 0 ≤ x15_1
    ·rw [if_pos c3] at H
     have c3b0 : decide (0 ≤ x15_1) = true := decide_eq_true c3
     clear c3
     by_cases c4 : x15_1 < (l0.length : Int)
     ·rw [if_pos c4] at H
      have c4b0 : decide (x15_1 < (l0.length : Int)) = true := decide_eq_true c4
      clear c4
      replace H := Option.bind_eq_some_iff.mp H
      obtain ⟨t106, A50, H⟩ := H
      replace H : (if (wrap64 ((x3_1.length : Int) - 1)) > x4_1 then (if 0 ≤ (wrap64 ((x3_1.length : Int) - 1)) then (if (wrap64 ((x3_1.length : Int) - 1)) < (x3_1.length : Int) then ((ucd_Class.f (rd x3_1 (wrap64 ((x3_1.length : Int) - 1)))).bind fun t108 => (if t108 = 0 then (compose_All.j1 k1 x3_1 x4_1 (rd l0 x15_1) t106 true l0 (l0.length : Int) x15_1) else (compose_All.j1 k1 x3_1 x4_1 (rd l0 x15_1) t106 (decide (t108 ≥ t106)) l0 (l0.length : Int) x15_1))) else (none)) else (none)) else (compose_All.j1 k1 x3_1 x4_1 (rd l0 x15_1) t106 false l0 (l0.length : Int) x15_1)) = some r := H
      have A5 := Aside0.mk A50
      clear A50
      have HC6 := Aside0.mk H
      clear H
      have p105 : 0 ≤ (x15_1 : Int) := of_decide_eq_true (by first | (with_reducible assumption) | assumption)
      have q105 : x15_1 < (l0.length : Int) := of_decide_eq_true (by first | (with_reducible assumption) | assumption)
      obtain ⟨ad105, e105, hx105_0⟩ := Kd.at_int HR0.out x15_1 p105 q105
      cases e105
      replace hx105_0 := (HB.out.cell (World.block_lt_of_cell? w _ hx105_0)).trans hx105_0
      replace p105 := eq_true p105
      replace q105 := eq_true q105
      go_upto_if 26 with (first | ((with_reducible refine gate_callee (f := 37) rfl ?_); refine goesL_ (some 20) rfl rfl Try.func37 (by kernel_rfl) rfl #[.int .i64 (rd l0 x15_1)] rfl (by (try simp only [List.map_toArray, List.map_cons, List.map_nil]); first | done | rfl | (simp only [List.length_drop, List.length_take]; rfl)) ?_; (with_reducible refine (ucd_Class.calls (rd l0 x15_1) t106 _ A5.out).mono ?_); rintro e w7 ⟨rfl, hb⟩; refine ⟨_, rfl, ?_⟩; have n0_ := Aside0.mk (Kd.R_below (RM HO_3.out) hb); have n1_ := Aside0.mk (below_step (BM HB.out) hb); clear HO_3; clear HB; have HO_3 := n0_; have HB := n1_; clear n0_ n1_; (try clear hb); (try clear hb2); (try clear hk); (try clear hi); obtain ⟨Ao8, co8, eo8⟩ := Kd.R_slice HO_3.out; subst eo8))
      (try simp only [Act.put, List.setIfInBounds_toArray, List.set_cons_zero, List.set_cons_succ])
      go_cut [9] (fun v9 wc => ∃ (kq : Nat) (x9_5 : Bool), v9 = .bool x9_5 ∧ Aside0 (compose_All.j1 kq x3_1 x4_1 (rd l0 x15_1) t106 x9_5 l0 (l0.length : Int) x15_1 = some r) ∧ Aside0 (kq ≤ k1) ∧ Aside0 (Kd.R (Kd.int .i64) 3 wc w.heap.size (fun _ => True) (.slice Ao8 x3_1.length co8) x3_1) ∧ Aside0 (Below w.heap.size w wc))
      case first =>
       have H := HC6.out
       clear HC6
       by_cases c9 : (wrap64 ((x3_1.length : Int) - 1)) > x4_1
       ·rw [if_pos c9] at H
        have c9b0 : decide (x4_1 < (wrap64 ((x3_1.length : Int) - 1))) = true := decide_eq_true c9
        clear c9
        (first | rw [c9b0] | (simp only [i64_w, i32_w]; rw [c9b0]) | skip)
        obtain ⟨ji10, hji10⟩ : ∃ j_ : Int, (wrap64 ((x3_1.length : Int) - 1)) = j_ := ⟨_, rfl⟩
        replace H : (if 0 ≤ (ji10) then (if (ji10) < (x3_1.length : Int) then ((ucd_Class.f (rd x3_1 (ji10))).bind fun t108 => (if t108 = 0 then (compose_All.j1 k1 x3_1 x4_1 (rd l0 x15_1) t106 true l0 (l0.length : Int) x15_1) else (compose_All.j1 k1 x3_1 x4_1 (rd l0 x15_1) t106 (decide (t108 ≥ t106)) l0 (l0.length : Int) x15_1))) else (none)) else (none)) = some r := by first | (rw [hji10] at H; exact H) | (simp only [hji10] at H ⊢; exact H)
        (try rw [hji10] at c9b0)
        have hji10w : (IntKind.i64.wrap ((x3_1.length : Int) - 1)) = ji10 := (i64_w _).trans hji10
        by_cases c11 : 0 ≤ (ji10)
        ·rw [if_pos c11] at H
         have c11b0 : decide (0 ≤ (ji10)) = true := decide_eq_true c11
         clear c11
         by_cases c12 : (ji10) < (x3_1.length : Int)
         ·rw [if_pos c12] at H
          have c12b0 : decide ((ji10) < (x3_1.length : Int)) = true := decide_eq_true c12
          clear c12
          replace H := Option.bind_eq_some_iff.mp H
          obtain ⟨t108, A130, H⟩ := H
          replace H : (if t108 = 0 then (compose_All.j1 k1 x3_1 x4_1 (rd l0 x15_1) t106 true l0 (l0.length : Int) x15_1) else (compose_All.j1 k1 x3_1 x4_1 (rd l0 x15_1) t106 (decide (t108 ≥ t106)) l0 (l0.length : Int) x15_1)) = some r := H
          have A13 := Aside0.mk A130
          clear A130
          by_cases c14 : t108 = 0
          ·rw [if_pos c14] at H
           have c14b0 : (t108 == 0) = true := beq_iff_eq.mpr c14
           have c14b1 : (t108 != 0) = false := bne_eq_false_iff_eq.mpr c14
           clear c14
           have H' := Aside0.mk H
           clear H
           have p107 : 0 ≤ ((ji10) : Int) := of_decide_eq_true (by first | (with_reducible assumption) | assumption)
           have q107 : (ji10) < (x3_1.length : Int) := of_decide_eq_true (by first | (with_reducible assumption) | assumption)
           obtain ⟨ad107, e107, hx107_0⟩ := Kd.at_int (Kd.R_reads' HO_3.out).2.2 (ji10) p107 q107
           cases e107
           replace p107 := eq_true p107
           replace q107 := eq_true q107
           go_wp2_with (first | ((with_reducible refine gate_callee (f := 37) rfl ?_); refine goesL_ (some 31) rfl rfl Try.func37 (by kernel_rfl) rfl #[.int .i64 (rd x3_1 (ji10))] rfl (by (try simp only [List.map_toArray, List.map_cons, List.map_nil]); first | done | (simp only [hji10]; rfl) | rfl | (simp only [List.length_drop, List.length_take]; rfl)) ?_; (with_reducible refine (ucd_Class.calls (rd x3_1 (ji10)) t108 _ A13.out).mono ?_); rintro e w15 ⟨rfl, hb⟩; refine ⟨_, rfl, ?_⟩; have n0_ := Aside0.mk (Kd.R_below (RM HO_3.out) hb); have n1_ := Aside0.mk (below_step (BM HB.out) hb); clear HO_3; clear HB; have HO_3 := n0_; have HB := n1_; clear n0_ n1_; (try clear hb); (try clear hb2); (try clear hk); (try clear hi)))
           subst hji10
           go_meet
           case rel => exact ⟨_, (true), (by first | rfl | (simp; done) | (simp [*]; done)), H', ⟨by have := HK1.out; first | omega | exact Nat.le_refl _⟩, ⟨RM HO_3.out⟩, ⟨BM HB.out⟩⟩
          ·rw [if_neg c14] at H
           have c14b0 : (t108 == 0) = false := beq_eq_false_iff_ne.mpr c14
           have c14b1 : (t108 != 0) = true := bne_iff_ne.mpr c14
           have H' := Aside0.mk H
           clear H
           have p107 : 0 ≤ ((ji10) : Int) := of_decide_eq_true (by first | (with_reducible assumption) | assumption)
           have q107 : (ji10) < (x3_1.length : Int) := of_decide_eq_true (by first | (with_reducible assumption) | assumption)
           obtain ⟨ad107, e107, hx107_0⟩ := Kd.at_int (Kd.R_reads' HO_3.out).2.2 (ji10) p107 q107
           cases e107
           replace p107 := eq_true p107
           replace q107 := eq_true q107
           go_wp2_with (first | ((with_reducible refine gate_callee (f := 37) rfl ?_); refine goesL_ (some 31) rfl rfl Try.func37 (by kernel_rfl) rfl #[.int .i64 (rd x3_1 (ji10))] rfl (by (try simp only [List.map_toArray, List.map_cons, List.map_nil]); first | done | (simp only [hji10]; rfl) | rfl | (simp only [List.length_drop, List.length_take]; rfl)) ?_; (with_reducible refine (ucd_Class.calls (rd x3_1 (ji10)) t108 _ A13.out).mono ?_); rintro e w16 ⟨rfl, hb⟩; refine ⟨_, rfl, ?_⟩; have n0_ := Aside0.mk (Kd.R_below (RM HO_3.out) hb); have n1_ := Aside0.mk (below_step (BM HB.out) hb); clear HO_3; clear HB; have HO_3 := n0_; have HB := n1_; clear n0_ n1_; (try clear hb); (try clear hb2); (try clear hk); (try clear hi)))
           subst hji10
           go_meet
           case rel => exact ⟨_, (decide (t108 ≥ t106)), (by first | rfl | (simp; done) | (simp [*]; done)), H', ⟨by have := HK1.out; first | omega | exact Nat.le_refl _⟩, ⟨RM HO_3.out⟩, ⟨BM HB.out⟩⟩
         ·rw [if_neg c12] at H
          exact absurd H (by simp)
        ·rw [if_neg c11] at H
         exact absurd H (by simp)
       ·rw [if_neg c9] at H
        have c9b0 : decide (x4_1 < (wrap64 ((x3_1.length : Int) - 1))) = false := decide_eq_false c9
        clear c9
        (first | rw [c9b0] | (simp only [i64_w, i32_w]; rw [c9b0]) | skip)
        have H' := Aside0.mk H
        clear H
        go_wp2
        go_meet
        case rel => exact ⟨_, (false), (by first | rfl | (simp; done) | (simp [*]; done)), H', ⟨by have := HK1.out; first | omega | exact Nat.le_refl _⟩, ⟨RM HO_3.out⟩, ⟨BM HB.out⟩⟩
      case rest =>
       clear HC6
       try clear c1
       try clear p1
       try clear q1
       try clear hx1
       try clear c2
       try clear c2b0
       try clear p2
       try clear c3
       try clear c3b0
       try clear c4
       try clear c4b0
       try clear p6
       try clear c9
       try clear c9b0
       try clear p10
       try clear q10
       try clear hx10
       try clear c11
       try clear c11b0
       try clear c12
       try clear c12b0
       try clear c14
       try clear c14b0
       try clear c14b1
       try clear hx105_0
       try clear hx107_0
       try clear p105
       try clear p107
       try clear q105
       try clear q107
       obtain ⟨kq, x9_5, rfl, HA, HJ5, HO_3, HB⟩ := hcut
       cases kq with
       | zero => exact absurd HA.out (by simp [compose_All.j1])
       | succ kj5 =>
        have H := HA.out
        clear HA
        simp only [compose_All.j1] at H
        have HC17 := Aside0.mk H
        clear H
        go_upto_region 12 with (fail)
        go_cut [44] (fun v44 wc => ∃ (kq : Nat) (x44_16 : Bool), v44 = .bool x44_16 ∧ Aside0 (compose_All.j2 kq x3_1 x4_1 (rd l0 x15_1) t106 l0 (l0.length : Int) x15_1 x44_16 = some r) ∧ Aside0 (kq ≤ kj5) ∧ Aside0 (Kd.R (Kd.int .i64) 3 wc w.heap.size (fun _ => True) (.slice Ao8 x3_1.length co8) x3_1) ∧ Aside0 (Below w.heap.size w wc))
        case first =>
         have H := HC17.out
         clear HC17
         by_cases c18 : x4_1 ≥ 0
         ·rw [if_pos c18] at H
          have c18b0 : decide (0 ≤ x4_1) = true := decide_eq_true c18
          clear c18
          (first | rw [c18b0] | (simp only [i64_w, i32_w]; rw [c18b0]) | skip)
          have H' := Aside0.mk H
          clear H
          go_wp2
          go_meet
          case rel => exact ⟨_, (!x9_5), (by first | rfl | (simp; done) | (simp [*]; done)), H', ⟨by have := HK1.out; have := HJ5.out; first | omega | exact Nat.le_refl _⟩, ⟨RM HO_3.out⟩, ⟨BM HB.out⟩⟩
         ·rw [if_neg c18] at H
          have c18b0 : decide (0 ≤ x4_1) = false := decide_eq_false c18
          clear c18
          (first | rw [c18b0] | (simp only [i64_w, i32_w]; rw [c18b0]) | skip)
          have H' := Aside0.mk H
          clear H
          go_wp2
          go_meet
          case rel => exact ⟨_, (false), (by first | rfl | (simp; done) | (simp [*]; done)), H', ⟨by have := HK1.out; have := HJ5.out; first | omega | exact Nat.le_refl _⟩, ⟨RM HO_3.out⟩, ⟨BM HB.out⟩⟩
        case rest =>
         clear HC17
         try clear c1
         try clear p1
         try clear q1
         try clear hx1
         try clear c2
         try clear c2b0
         try clear p2
         try clear c3
         try clear c3b0
         try clear c4
         try clear c4b0
         try clear p6
         try clear c9
         try clear c9b0
         try clear p10
         try clear q10
         try clear hx10
         try clear c11
         try clear c11b0
         try clear c12
         try clear c12b0
         try clear c14
         try clear c14b0
         try clear c14b1
         try clear c18
         try clear c18b0
         try clear hx105_0
         try clear hx107_0
         try clear p1
         try clear p10
         try clear p105
         try clear p107
         try clear p2
         try clear p6
         try clear q1
         try clear q10
         try clear q105
         try clear q107
         obtain ⟨kq, x44_16, rfl, HA, HJ16, HO_3, HB⟩ := hcut
         cases kq with
         | zero => exact absurd HA.out (by simp [compose_All.j2])
         | succ kj16 =>
          have H := HA.out
          clear HA
          simp only [compose_All.j2] at H
          by_cases c19 : x44_16 = true
          ·subst c19
           have H1 : (if 0 ≤ x4_1 then (if x4_1 < (x3_1.length : Int) then ((compose_Two.f (rd x3_1 x4_1) (rd l0 x15_1)).bind fun bt110 => (if bt110.2 = true then (compose_All.l0 kj16 (x3_1.set (x4_1 : Int).toNat bt110.1) x4_1 l0 (l0.length : Int) (wrap64 (x15_1 + 1))) else (if x3_1.length < 17592186044416 then ((some (x3_1 ++ [(rd l0 x15_1)] : List Int)).bind fun y113 => (if t106 = 0 then (compose_All.l0 kj16 y113 (wrap64 ((y113.length : Int) - 1)) l0 (l0.length : Int) (wrap64 (x15_1 + 1))) else (compose_All.l0 kj16 y113 x4_1 l0 (l0.length : Int) (wrap64 (x15_1 + 1))))) else (none)))) else (none)) else (none)) = some r := by rw [if_pos rfl] at H; exact H
           clear H
           have H := H1
           clear H1
           by_cases c20 : 0 ≤ x4_1
           ·rw [if_pos c20] at H
            have c20b0 : decide (0 ≤ x4_1) = true := decide_eq_true c20
            clear c20
            by_cases c21 : x4_1 < (x3_1.length : Int)
            ·rw [if_pos c21] at H
             have c21b0 : decide (x4_1 < (x3_1.length : Int)) = true := decide_eq_true c21
             clear c21
             replace H := Option.bind_eq_some_iff.mp H
             obtain ⟨⟨t110, t111⟩, A220, H⟩ := H
             replace H : (if t111 = true then (compose_All.l0 kj16 (x3_1.set (x4_1 : Int).toNat t110) x4_1 l0 (l0.length : Int) (wrap64 (x15_1 + 1))) else (if x3_1.length < 17592186044416 then ((some (x3_1 ++ [(rd l0 x15_1)] : List Int)).bind fun y113 => (if t106 = 0 then (compose_All.l0 kj16 y113 (wrap64 ((y113.length : Int) - 1)) l0 (l0.length : Int) (wrap64 (x15_1 + 1))) else (compose_All.l0 kj16 y113 x4_1 l0 (l0.length : Int) (wrap64 (x15_1 + 1))))) else (none))) = some r := H
             have A22 := Aside0.mk A220
             clear A220
             by_cases c23 : t111 = true
             ·subst c23
              have H1 : (compose_All.l0 kj16 (x3_1.set (x4_1 : Int).toNat t110) x4_1 l0 (l0.length : Int) (wrap64 (x15_1 + 1))) = some r := by rw [if_pos rfl] at H; exact H
              clear H
              have H := H1
              clear H1
              obtain ⟨y112, hy112⟩ : ∃ y_ : List Int, y_ = (x3_1.set (x4_1 : Int).toNat t110) := ⟨_, rfl⟩
              replace H : (compose_All.l0 kj16 y112 x4_1 l0 (l0.length : Int) (wrap64 (x15_1 + 1))) = some r := by first | (rw [hy112]; with_reducible exact H) | (have H2_ := (Option.bind_some _ _).symm.trans H; rw [hy112]; with_reducible exact H2_) | (have H2_ := (Option.bind_some _ _).symm.trans H; with_reducible exact H2_) | with_reducible exact H | (rw [hy112]; exact H) | exact H
              have Ny112 := Aside0.mk hy112
              clear hy112
              have H' := Aside0.mk H
              clear H
              have p109 : 0 ≤ (x4_1 : Int) := of_decide_eq_true (by first | (with_reducible assumption) | assumption)
              have q109 : x4_1 < (x3_1.length : Int) := of_decide_eq_true (by first | (with_reducible assumption) | assumption)
              obtain ⟨ad109, e109, hx109_0⟩ := Kd.at_int (Kd.R_reads' HO_3.out).2.2 x4_1 p109 q109
              cases e109
              replace p109 := eq_true p109
              replace q109 := eq_true q109
              go_wp2_with (first | ((with_reducible refine gate_callee (f := 32) rfl ?_); refine goesL_ (some 51) rfl rfl Try.func32 (by kernel_rfl) rfl #[.int .i64 (rd x3_1 x4_1), .int .i64 (rd l0 x15_1)] rfl (by (try simp only [List.map_toArray, List.map_cons, List.map_nil]); first | done | rfl | (simp only [List.length_drop, List.length_take]; rfl)) ?_; (with_reducible refine (compose_Two.calls (rd x3_1 x4_1) (rd l0 x15_1) t110 true _ A22.out).mono ?_); rintro e w25 ⟨rfl, hb⟩; refine ⟨_, rfl, ?_⟩; have n0_ := Aside0.mk (Kd.R_below (RM HO_3.out) hb); have n1_ := Aside0.mk (below_step (BM HB.out) hb); clear HO_3; clear HB; have HO_3 := n0_; have HB := n1_; clear n0_ n1_; (try clear hb); (try clear hb2); (try clear hk); (try clear hi); have p24 : 0 ≤ (x4_1 : Int) := of_decide_eq_true (by first | (with_reducible assumption) | assumption); have q24 : (x4_1 : Int) < ((x3_1.length : Int) : Int) := of_decide_eq_true (by first | (with_reducible assumption) | assumption); obtain ⟨go24, co24, eo24, gb24, gl24, cl24, HG24⟩ := Kd.R_form HO_3.out (by omega); (first | cases eo24 | (injection eo24 with ea_ en_ ec_; (first | subst ea_ | (injection ea_ with ea_; subst ea_)); subst ec_; clear en_)); have GB24 := Aside0.mk gb24; have GG24 := Aside0.mk HG24; clear gb24 gl24 HG24; (first | simp only [add_plain] at hx109_0 | skip); obtain ⟨hx24_0, hf24_0⟩ := Kd.R_celln 0 HO_3.out (x4_1 : Int) p24 q24; replace p24 := eq_true p24; replace q24 := eq_true q24; obtain ⟨hy26_, hz26_⟩ := Kd.R_celln 0 HO_3.out (x4_1 : Int) (of_decide_eq_true (by first | (with_reducible assumption) | assumption)) (of_decide_eq_true (by first | (with_reducible assumption) | assumption)); have HP26 := Kd.R_putg HO_3.out (x4_1 : Int) t110) | ((with_reducible refine gate_store (t := 3) (p := 58) rfl ?_); refine store_event (t := 3) (p := 58) (v := ?vo_w27) (w1 := (w25.setCell ⟨go24, (x4_1 : Int).toNat, none⟩ (.int .i64 t110))) ?hg ?ho ?hn ?hr ?_; (case ho => rfl); (case hg => rfl); (case hn => rfl); (case hr => first | (go_simp; done) | (go_simp; rfl)); intro w27 hw; have hg : w25.grownBy w27 (some go24) := (by rw [hw]; exact HP26.2); have hp_ : Kd.R (Kd.int .i64) 3 w27 w.heap.size (fun _ => True) (.slice (some ⟨go24, 0, none⟩) x3_1.length co8) y112 := (by rw [hw, Ny112.out]; exact HP26.1); clear HP26; have n0_ := Aside0.mk (hp_); have n1_ := Aside0.mk ((by rw [hw]; exact below_set (HB.out) GB24.out : Below w.heap.size w w27)); clear HO_3; clear HB; have HO_3 := n0_; have HB := n1_; clear n0_ n1_; clear hg hw hp_))
              go_roundg kj16
              case measure => have := HK1.out; have := HJ5.out; have := HJ16.out; omega
              case rel => exact ⟨(y112), (x4_1), (wrap64 (x15_1 + 1)), (by first | rfl | (simp; done) | (simp [*]; done)), (by first | rfl | (simp; done) | (simp [*]; done)), H', ⟨by have := HK1.out; have := HJ5.out; have := HJ16.out; omega⟩, ⟨RM HO_3.out⟩, ⟨BM HB.out⟩⟩
             ·replace c23 := Bool.eq_false_iff.mpr c23
              subst c23
              have H1 : (if x3_1.length < 17592186044416 then ((some (x3_1 ++ [(rd l0 x15_1)] : List Int)).bind fun y113 => (if t106 = 0 then (compose_All.l0 kj16 y113 (wrap64 ((y113.length : Int) - 1)) l0 (l0.length : Int) (wrap64 (x15_1 + 1))) else (compose_All.l0 kj16 y113 x4_1 l0 (l0.length : Int) (wrap64 (x15_1 + 1))))) else (none)) = some r := by rw [if_neg (show ¬ (false = true) by decide)] at H; exact H
              clear H
              have H := H1
              clear H1
              by_cases c28 : x3_1.length < 17592186044416
              ·rw [if_pos c28] at H
               have LMc28 := Aside0.mk c28
               clear c28
               obtain ⟨y113, hy113⟩ : ∃ y_ : List Int, y_ = (x3_1 ++ [(rd l0 x15_1)]) := ⟨_, rfl⟩
               replace H : (if t106 = 0 then (compose_All.l0 kj16 y113 (wrap64 ((y113.length : Int) - 1)) l0 (l0.length : Int) (wrap64 (x15_1 + 1))) else (compose_All.l0 kj16 y113 x4_1 l0 (l0.length : Int) (wrap64 (x15_1 + 1)))) = some r := by first | (rw [hy113]; with_reducible exact H) | (have H2_ := (Option.bind_some _ _).symm.trans H; rw [hy113]; with_reducible exact H2_) | (have H2_ := (Option.bind_some _ _).symm.trans H; with_reducible exact H2_) | with_reducible exact H | (rw [hy113]; exact H) | exact H
               have Ny113 := Aside0.mk hy113
               clear hy113
               by_cases c29 : t106 = 0
               ·rw [if_pos c29] at H
                have c29b0 : (t106 == 0) = true := beq_iff_eq.mpr c29
                have c29b1 : (t106 != 0) = false := bne_eq_false_iff_eq.mpr c29
                clear c29
                have H' := Aside0.mk H
                clear H
                have p109 : 0 ≤ (x4_1 : Int) := of_decide_eq_true (by first | (with_reducible assumption) | assumption)
                have q109 : x4_1 < (x3_1.length : Int) := of_decide_eq_true (by first | (with_reducible assumption) | assumption)
                obtain ⟨ad109, e109, hx109_0⟩ := Kd.at_int (Kd.R_reads' HO_3.out).2.2 x4_1 p109 q109
                cases e109
                replace p109 := eq_true p109
                replace q109 := eq_true q109
                go_wp2_with (first | ((with_reducible refine gate_callee (f := 32) rfl ?_); refine goesL_ (some 51) rfl rfl Try.func32 (by kernel_rfl) rfl #[.int .i64 (rd x3_1 x4_1), .int .i64 (rd l0 x15_1)] rfl (by (try simp only [List.map_toArray, List.map_cons, List.map_nil]); first | done | rfl | (simp only [List.length_drop, List.length_take]; rfl)) ?_; (with_reducible refine (compose_Two.calls (rd x3_1 x4_1) (rd l0 x15_1) t110 false _ A22.out).mono ?_); rintro e w30 ⟨rfl, hb⟩; refine ⟨_, rfl, ?_⟩; have n0_ := Aside0.mk (Kd.R_below (RM HO_3.out) hb); have n1_ := Aside0.mk (below_step (BM HB.out) hb); clear HO_3; clear HB; have HO_3 := n0_; have HB := n1_; clear n0_ n1_; (try clear hb); (try clear hb2); (try clear hk); (try clear hi)) | ((with_reducible refine gate_builtin (b := .append) (xs := #[.tmp 59, .tmp 61]) rfl ?_); at_builtin; refine Kd.R_append (Kd.int .i64) (w0 := w) w.heap.size rfl (.tmp 59) (.tmp 61) 22 3 (.int .i64 0) 8 rfl Try.underlying22 info3 rfl (by decide) (by omega) (.slice (some ad109) x3_1.length co8) x3_1 (rd l0 x15_1) [.int .i64 (rd l0 x15_1)] (fun _ => True) (fun _ => False) rfl rfl ?aP (fun _ hk => hk.elim) ?aF ?aO ?aB ?aS ?aL ?_; (case aP => exact rfl); (case aB => exact (BM HB.out)); (case aF => exact (fun _ _ => trivial)); (case aO => exact (RM HO_3.out)); (case aS => exact (below_size (BM HB.out))); (case aL => have := LMc28.out; omega); intro v114 w31 ho hb hg hat; rw [← Ny113.out] at ho; have n0_ := Aside0.mk (hb); have n1_ := Aside0.mk (ho); clear HB; clear HO_3; have HB := n0_; have HO115 := n1_; clear n0_ n1_; clear ho hb hg hat; obtain ⟨Ao32, co32, eo32⟩ := Kd.R_slice HO115.out; subst eo32))
                go_roundg kj16
                case measure => have := HK1.out; have := HJ5.out; have := HJ16.out; omega
                case rel => exact ⟨(y113), (wrap64 ((y113.length : Int) - 1)), (wrap64 (x15_1 + 1)), (by first | rfl | (simp; done) | (simp [*]; done)), (by first | rfl | (simp; done) | (simp [*]; done)), H', ⟨by have := HK1.out; have := HJ5.out; have := HJ16.out; omega⟩, ⟨RM HO115.out⟩, ⟨BM HB.out⟩⟩
               ·rw [if_neg c29] at H
                have c29b0 : (t106 == 0) = false := beq_eq_false_iff_ne.mpr c29
                have c29b1 : (t106 != 0) = true := bne_iff_ne.mpr c29
                have H' := Aside0.mk H
                clear H
                have p109 : 0 ≤ (x4_1 : Int) := of_decide_eq_true (by first | (with_reducible assumption) | assumption)
                have q109 : x4_1 < (x3_1.length : Int) := of_decide_eq_true (by first | (with_reducible assumption) | assumption)
                obtain ⟨ad109, e109, hx109_0⟩ := Kd.at_int (Kd.R_reads' HO_3.out).2.2 x4_1 p109 q109
                cases e109
                replace p109 := eq_true p109
                replace q109 := eq_true q109
                go_wp2_with (first | ((with_reducible refine gate_callee (f := 32) rfl ?_); refine goesL_ (some 51) rfl rfl Try.func32 (by kernel_rfl) rfl #[.int .i64 (rd x3_1 x4_1), .int .i64 (rd l0 x15_1)] rfl (by (try simp only [List.map_toArray, List.map_cons, List.map_nil]); first | done | rfl | (simp only [List.length_drop, List.length_take]; rfl)) ?_; (with_reducible refine (compose_Two.calls (rd x3_1 x4_1) (rd l0 x15_1) t110 false _ A22.out).mono ?_); rintro e w33 ⟨rfl, hb⟩; refine ⟨_, rfl, ?_⟩; have n0_ := Aside0.mk (Kd.R_below (RM HO_3.out) hb); have n1_ := Aside0.mk (below_step (BM HB.out) hb); clear HO_3; clear HB; have HO_3 := n0_; have HB := n1_; clear n0_ n1_; (try clear hb); (try clear hb2); (try clear hk); (try clear hi)) | ((with_reducible refine gate_builtin (b := .append) (xs := #[.tmp 59, .tmp 61]) rfl ?_); at_builtin; refine Kd.R_append (Kd.int .i64) (w0 := w) w.heap.size rfl (.tmp 59) (.tmp 61) 22 3 (.int .i64 0) 8 rfl Try.underlying22 info3 rfl (by decide) (by omega) (.slice (some ad109) x3_1.length co8) x3_1 (rd l0 x15_1) [.int .i64 (rd l0 x15_1)] (fun _ => True) (fun _ => False) rfl rfl ?aP (fun _ hk => hk.elim) ?aF ?aO ?aB ?aS ?aL ?_; (case aP => exact rfl); (case aB => exact (BM HB.out)); (case aF => exact (fun _ _ => trivial)); (case aO => exact (RM HO_3.out)); (case aS => exact (below_size (BM HB.out))); (case aL => have := LMc28.out; omega); intro v114 w34 ho hb hg hat; rw [← Ny113.out] at ho; have n0_ := Aside0.mk (hb); have n1_ := Aside0.mk (ho); clear HB; clear HO_3; have HB := n0_; have HO115 := n1_; clear n0_ n1_; clear ho hb hg hat))
                go_roundg kj16
                case measure => have := HK1.out; have := HJ5.out; have := HJ16.out; omega
                case rel => exact ⟨(y113), (x4_1), (wrap64 (x15_1 + 1)), (by first | rfl | (simp; done) | (simp [*]; done)), (by first | rfl | (simp; done) | (simp [*]; done)), H', ⟨by have := HK1.out; have := HJ5.out; have := HJ16.out; omega⟩, ⟨RM HO115.out⟩, ⟨BM HB.out⟩⟩
              ·rw [if_neg c28] at H
               exact absurd H (by simp)
            ·rw [if_neg c21] at H
             exact absurd H (by simp)
           ·rw [if_neg c20] at H
            exact absurd H (by simp)
          ·replace c19 := Bool.eq_false_iff.mpr c19
           subst c19
           have H1 : (if x3_1.length < 17592186044416 then ((some (x3_1 ++ [(rd l0 x15_1)] : List Int)).bind fun y116 => (if t106 = 0 then (compose_All.l0 kj16 y116 (wrap64 ((y116.length : Int) - 1)) l0 (l0.length : Int) (wrap64 (x15_1 + 1))) else (compose_All.l0 kj16 y116 x4_1 l0 (l0.length : Int) (wrap64 (x15_1 + 1))))) else (none)) = some r := by rw [if_neg (show ¬ (false = true) by decide)] at H; exact H
           clear H
           have H := H1
           clear H1
           by_cases c35 : x3_1.length < 17592186044416
           ·rw [if_pos c35] at H
            have LMc35 := Aside0.mk c35
            clear c35
            obtain ⟨y116, hy116⟩ : ∃ y_ : List Int, y_ = (x3_1 ++ [(rd l0 x15_1)]) := ⟨_, rfl⟩
            replace H : (if t106 = 0 then (compose_All.l0 kj16 y116 (wrap64 ((y116.length : Int) - 1)) l0 (l0.length : Int) (wrap64 (x15_1 + 1))) else (compose_All.l0 kj16 y116 x4_1 l0 (l0.length : Int) (wrap64 (x15_1 + 1)))) = some r := by first | (rw [hy116]; with_reducible exact H) | (have H2_ := (Option.bind_some _ _).symm.trans H; rw [hy116]; with_reducible exact H2_) | (have H2_ := (Option.bind_some _ _).symm.trans H; with_reducible exact H2_) | with_reducible exact H | (rw [hy116]; exact H) | exact H
            have Ny116 := Aside0.mk hy116
            clear hy116
            by_cases c36 : t106 = 0
            ·rw [if_pos c36] at H
             have c36b0 : (t106 == 0) = true := beq_iff_eq.mpr c36
             have c36b1 : (t106 != 0) = false := bne_eq_false_iff_eq.mpr c36
             clear c36
             have H' := Aside0.mk H
             clear H
             go_wp2_with (first | ((with_reducible refine gate_builtin (b := .append) (xs := #[.tmp 59, .tmp 61]) rfl ?_); at_builtin; refine Kd.R_append (Kd.int .i64) (w0 := w) w.heap.size rfl (.tmp 59) (.tmp 61) 22 3 (.int .i64 0) 8 rfl Try.underlying22 info3 rfl (by decide) (by omega) (.slice Ao8 x3_1.length co8) x3_1 (rd l0 x15_1) [.int .i64 (rd l0 x15_1)] (fun _ => True) (fun _ => False) rfl rfl ?aP (fun _ hk => hk.elim) ?aF ?aO ?aB ?aS ?aL ?_; (case aP => exact rfl); (case aB => exact (BM HB.out)); (case aF => exact (fun _ _ => trivial)); (case aO => exact (RM HO_3.out)); (case aS => exact (below_size (BM HB.out))); (case aL => have := LMc35.out; omega); intro v117 w37 ho hb hg hat; rw [← Ny116.out] at ho; have n0_ := Aside0.mk (hb); have n1_ := Aside0.mk (ho); clear HB; clear HO_3; have HB := n0_; have HO118 := n1_; clear n0_ n1_; clear ho hb hg hat; obtain ⟨Ao38, co38, eo38⟩ := Kd.R_slice HO118.out; subst eo38))
             go_roundg kj16
             case measure => have := HK1.out; have := HJ5.out; have := HJ16.out; omega
             case rel => exact ⟨(y116), (wrap64 ((y116.length : Int) - 1)), (wrap64 (x15_1 + 1)), (by first | rfl | (simp; done) | (simp [*]; done)), (by first | rfl | (simp; done) | (simp [*]; done)), H', ⟨by have := HK1.out; have := HJ5.out; have := HJ16.out; omega⟩, ⟨RM HO118.out⟩, ⟨BM HB.out⟩⟩
            ·rw [if_neg c36] at H
             have c36b0 : (t106 == 0) = false := beq_eq_false_iff_ne.mpr c36
             have c36b1 : (t106 != 0) = true := bne_iff_ne.mpr c36
             have H' := Aside0.mk H
             clear H
             go_wp2_with (first | ((with_reducible refine gate_builtin (b := .append) (xs := #[.tmp 59, .tmp 61]) rfl ?_); at_builtin; refine Kd.R_append (Kd.int .i64) (w0 := w) w.heap.size rfl (.tmp 59) (.tmp 61) 22 3 (.int .i64 0) 8 rfl Try.underlying22 info3 rfl (by decide) (by omega) (.slice Ao8 x3_1.length co8) x3_1 (rd l0 x15_1) [.int .i64 (rd l0 x15_1)] (fun _ => True) (fun _ => False) rfl rfl ?aP (fun _ hk => hk.elim) ?aF ?aO ?aB ?aS ?aL ?_; (case aP => exact rfl); (case aB => exact (BM HB.out)); (case aF => exact (fun _ _ => trivial)); (case aO => exact (RM HO_3.out)); (case aS => exact (below_size (BM HB.out))); (case aL => have := LMc35.out; omega); intro v117 w39 ho hb hg hat; rw [← Ny116.out] at ho; have n0_ := Aside0.mk (hb); have n1_ := Aside0.mk (ho); clear HB; clear HO_3; have HB := n0_; have HO118 := n1_; clear n0_ n1_; clear ho hb hg hat))
             go_roundg kj16
             case measure => have := HK1.out; have := HJ5.out; have := HJ16.out; omega
             case rel => exact ⟨(y116), (x4_1), (wrap64 (x15_1 + 1)), (by first | rfl | (simp; done) | (simp [*]; done)), (by first | rfl | (simp; done) | (simp [*]; done)), H', ⟨by have := HK1.out; have := HJ5.out; have := HJ16.out; omega⟩, ⟨RM HO118.out⟩, ⟨BM HB.out⟩⟩
           ·rw [if_neg c35] at H
            exact absurd H (by simp)
     ·rw [if_neg c4] at H
      exact absurd H (by simp)
    ·rw [if_neg c3] at H
     exact absurd H (by simp)
   ·rw [if_neg c2] at H
    have c2b0 : decide (x15_1 < (l0.length : Int)) = false := decide_eq_false c2
    clear c2
    obtain rfl := Option.some.inj H
    go_wp2
    go_ret
    exact ⟨_, by first | rfl | (simp [errW_none, errW_some] <;> rfl) | (simp [*, errW_none, errW_some] <;> rfl), RM HO_3.out, BM HB.out⟩

end Go.Proofs.Ytjolmhokeceljaa.Cm
