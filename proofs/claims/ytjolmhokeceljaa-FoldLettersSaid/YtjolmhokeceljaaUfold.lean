/-
  The contract of 'ucd.Fold': it returns the case folding of the table, or nothing.
-/
import Derived.Test.YtjolmhokeceljaaClone
import Derived.Test.YtjolmhokeceljaaSob
import Derived.Test.YtjolmhokeceljaaBa1
namespace Go.Proofs.Ytjolmhokeceljaa.Own
open Go.RowKit Go.Proofs.YtjolmhokeceljaaW.PrintWords Go.Proofs.Ytjolmhokeceljaa.Ba

def toS (x : Int × List Int) : S60 := ⟨x.1, x.2⟩
def foldS : List S60 := Sob.foldT.map toS
theorem foldS_eq : api_Folds.f 600 = some foldS := by kernel_rfl

theorem lookS_map (L : List (Int × List Int)) (c : Int) : lookS (L.map toS) c = Sob.lookM L c := by
  induction L with
  | nil => rfl
  | cons x r ih =>
    obtain ⟨f, l⟩ := x
    simp only [List.map_cons, lookS, Sob.lookM, ih, toS]
theorem lookM_len (n : Nat) (L : List (Int × List Int)) (h : L.all (fun x => decide (x.2.length ≤ n)) = true) (c : Int) : (Sob.lookM L c).length ≤ n := by
  induction L with
  | nil => simp [Sob.lookM]
  | cons x r ih =>
    obtain ⟨f, l⟩ := x
    simp only [List.all_cons, Bool.and_eq_true, decide_eq_true_eq] at h
    simp only [Sob.lookM]
    split
    · exact h.1
    · exact ih h.2
theorem fold_len (c : Int) : (Sob.fold c).length ≤ 8 := lookM_len 8 _ (by decide +kernel) c

def ucd_Fold.f (a0 : Int) : Option (List Int) := some (Sob.fold a0)

set_option maxRecDepth 100000 in
set_option maxHeartbeats 2000000 in
theorem ucd_Fold.calls (a0 : Int) (r : List Int) (w : World) (h : ucd_Fold.f a0 = some r) :
    Calls Try.prog 31 #[.int .i64 a0] w fun e w' => ∃ v0_ : Value, e = .returned (v0_) ∧ Kd.R (Kd.int .i64) 3 w' w.heap.size (fun _ => True) v0_ r ∧ Below w.heap.size w w' := by
  obtain rfl := Option.some.inj h
  clear h
  have hl := fold_len a0
  go_enter Try.func31, Try.ntmps31
  go_wp2_with (go_at_call 73; refine (api_Folds.calls 600 foldS _ foldS_eq).mono ?_; rintro e w1 ⟨v0, rfl, HR, hb1⟩; obtain ⟨A, c, rfl, hlc, HC⟩ := Kd.N_reads HR; clear HR; replace HC := Aside0.mk HC; replace hb1 := Aside0.mk hb1)
  go_wp2_with (go_at_call 72; refine (found_maps foldS A c a0 w1 HC.out).mono ?_; rintro e w2 ⟨A2, n2, c2, rfl, HC2, hn2, hb2⟩; have hn := Kd.C_len HC2; subst hn; replace HC2 := Aside0.mk HC2; replace hb2 := Aside0.mk hb2)
  go_wp2_with (go_at_call 71; refine (clone_any (lookS foldS a0) A2 c2 w2 HC2.out (by rw [show lookS foldS a0 = Sob.fold a0 from lookS_map _ _]; omega)).mono ?_; rintro e w3 ⟨v3, rfl, HR3, hb3⟩; replace HR3 := Aside0.mk HR3; replace hb3 := Aside0.mk hb3)
  go_ret
  have hb : Below w.heap.size w w3 := below_then (below_then hb1.out hb1.out.size hb2.out) (Nat.le_trans hb1.out.size hb2.out.size) hb3.out
  exact ⟨v3, rfl, by rw [show Sob.fold a0 = lookS foldS a0 from (lookS_map _ _).symm]; exact Kd.R_lower HR3.out (Nat.le_trans hb1.out.size hb2.out.size), hb⟩

end Go.Proofs.Ytjolmhokeceljaa.Own
