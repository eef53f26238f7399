/-
  The contract of the witness of chapter 11's statements ('wakes'): it returns true.
-/
import Derived.Test.YtjolmhokeceljaaNormS
namespace Go.Proofs.Ytjolmhokeceljaa.Own
open Go.RowKit Go.Proofs.YtjolmhokeceljaaW.PrintWords Go.Proofs.YtjolmhokeceljaaW.PrintLast
set_option linter.unusedVariables false

theorem wk_form : norm_Form.f [64257, 101, 769] true = some [102, 105, 233] := by kernel_rfl
theorem wk_ints : sobriquetkeep_Ints.f [102, 105, 233] [102, 105, 233] = some true := by kernel_rfl
theorem wk_q1 : norm_Quick.f [65] true = some true := by kernel_rfl
theorem wk_q2 : norm_Quick.f [64257] true = some false := by kernel_rfl
theorem wk_same : norm_Same.f [8491] [65, 778] false = some true := by kernel_rfl
theorem lit_C (W : World) (xs : List Int) (hm : xs.length ≤ 1000) : CI (W.alloc (.cells (encs (Value.int .i64) xs).toArray 3)) (some ⟨W.heap.size, 0, none⟩) xs.length xs := (Kd.R_reads' (RI.lit W W.heap.size xs (Nat.le_refl _) (by omega))).2.2

theorem drawn_below {W w' : World} {o : Obj} (h : Drawn0 (W.alloc o) w') : Below W.heap.size W w' := by
  obtain ⟨nd, rfl⟩ := h
  exact pw_below_drewN ((Below.refl _ _).alloc (Nat.le_refl _) _) nd
def sobriquetlaw11_wakes.f : Option Bool := some true
set_option maxRecDepth 100000 in
set_option maxHeartbeats 4000000 in
theorem sobriquetlaw11_wakes.calls (r : Bool) (w : World) (h : sobriquetlaw11_wakes.f = some r) :
    Calls Try.prog 52 #[] w fun e w' => e = .returned (.bool r) ∧ Below w.heap.size w w' := by
  obtain rfl := Option.some.inj h
  clear h
  have FO := Aside0.mk (fun W : World => norm_Form.calls (some ⟨W.heap.size, 0, none⟩) 3 [64257, 101, 769] true _ (W.alloc (.cells #[.int .i64 64257, .int .i64 101, .int .i64 769] 3)) (lit_C W [64257, 101, 769] (by simp)) (by simp) wk_form)
  have IN := Aside0.mk (fun (A : Option Addr) (c : Nat) (W : World) (hC : CI W A 3 [102, 105, 233]) (hc : 3 ≤ c) => sobriquetkeep_Ints.calls A c [102, 105, 233] (some ⟨W.heap.size, 0, none⟩) 3 [102, 105, 233] true (W.alloc (.cells #[.int .i64 102, .int .i64 105, .int .i64 233] 3)) (Kd.C_alloc hC _) hc (lit_C W [102, 105, 233] (by simp)) (by simp) wk_ints)
  have Q1 := Aside0.mk (fun W : World => norm_Quick.calls (some ⟨W.heap.size, 0, none⟩) 1 [65] true _ (W.alloc (.cells #[.int .i64 65] 3)) (lit_C W [65] (by simp)) (by simp) wk_q1)
  have Q2 := Aside0.mk (fun W : World => norm_Quick.calls (some ⟨W.heap.size, 0, none⟩) 1 [64257] true _ (W.alloc (.cells #[.int .i64 64257] 3)) (lit_C W [64257] (by simp)) (by simp) wk_q2)
  have SA := Aside0.mk (fun W : World => norm_Same.calls (some ⟨W.heap.size, 0, none⟩) 1 [8491] (some ⟨W.heap.size + 1, 0, none⟩) 2 [65, 778] false _ ((W.alloc (.cells #[.int .i64 8491] 3)).alloc (.cells #[.int .i64 65, .int .i64 778] 3)) (Kd.C_alloc (lit_C W [8491] (by simp)) _) (by simp)
    (by have := lit_C (W.alloc (.cells #[.int .i64 8491] 3)) [65, 778] (by simp); rwa [World.size_alloc] at this) (by simp) wk_same)
  have hb0 := Aside0.mk (Below.refl w.heap.size w)
  go_enter Try.func52, Try.ntmps52
  go_wp2_with (first | (go_at_call 50; refine (FO.out _).mono ?_; rintro e w1 ⟨v1, rfl, hr1, hb1⟩; obtain ⟨A1, c1, rfl⟩ := Kd.R_slice hr1; have hrd := Kd.R_reads' hr1; replace hb1 := Aside0.mk (below_then (hb0.out.alloc (Nat.le_refl _) _) (by simp) hb1); clear hr1; replace hrd := Aside0.mk hrd) | (go_at_call 27; refine (IN.out _ _ _ hrd.out.2.2 hrd.out.2.1).mono ?_; rintro e w2 ⟨rfl, hd2⟩; replace hd2 := Aside0.mk (below_then hb1.out hb1.out.size (drawn_below hd2)); clear hrd) | (go_at_call 53; refine (Q1.out _).mono ?_; rintro e w3 ⟨rfl, hb3⟩; clear Q1; replace hb3 := Aside0.mk hb3) | (go_at_call 53; refine (Q2.out _).mono ?_; rintro e w4 ⟨rfl, hb4⟩; clear Q2; replace hb4 := Aside0.mk hb4) | (go_at_call 54; refine (SA.out _).mono ?_; rintro e w5 ⟨rfl, hb5⟩; replace hb5 := Aside0.mk hb5))
  go_ret
  have b3 := below_mid hd2.out hb3.out
  have b4 := below_mid b3 hb4.out
  exact ⟨rfl, below_then ((b4.alloc b4.size _).alloc (by have := b4.size; simp; omega) _) (by have := b4.size; simp; omega) hb5.out⟩

end Go.Proofs.Ytjolmhokeceljaa.Own
