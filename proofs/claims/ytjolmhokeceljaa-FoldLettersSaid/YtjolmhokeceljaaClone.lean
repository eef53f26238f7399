/-
  The contract of 'slices.Clone' of ints: new memory with the same numbers (nil for nil), for at most 1000000 numbers.
-/
import Derived.Test.YtjolmhokeceljaaFound
namespace Go.Proofs.Ytjolmhokeceljaa.Own
open Go.RowKit Go.Proofs.YtjolmhokeceljaaW.PrintWords Go.Proofs.Ytjolmhokeceljaa.Ba

set_option maxRecDepth 100000 in
set_option maxHeartbeats 2000000 in
theorem clone_any (xs : List Int) (A : Option Addr) (c : Nat) (w : World) (hC : (Kd.int .i64).C w A xs.length xs) (hlen : xs.length ≤ 1000000) :
    Calls Try.prog 71 #[.slice A xs.length c] w fun e w' => ∃ v0_ : Value, e = .returned v0_ ∧ Kd.R (Kd.int .i64) 3 w' w.heap.size (fun _ => True) v0_ xs ∧ Below w.heap.size w w' := by
  have HC := Aside0.mk hC
  clear hC
  rcases A with _ | ad
  · have h0 : xs.length = 0 := by
      rcases Nat.eq_zero_or_pos xs.length with h | h
      · exact h
      · obtain ⟨ad, e, _⟩ := HC.out.2.2 h
        cases e
    obtain rfl : xs = [] := List.eq_nil_of_length_eq_zero h0
    have hnil := fun W : World => Lib.run_eql_slice_nil (P := Try.prog) W 22 3 none 0 c 0 0 Try.underlying22
    clear hlen HC h0
    go_enter Try.func71, Try.ntmps71
    go_wp2
    go_ret
    exact ⟨_, rfl, Kd.R_nil _ _ _ _ _, Below.refl _ _⟩
  · have hnil := fun W : World => Lib.run_eql_slice_nil (P := Try.prog) W 22 3 (some ad) xs.length c 0 0 Try.underlying22
    go_enter Try.func71, Try.ntmps71
    have HL : RI (w.alloc (.cells #[] 3)) w.heap.size (.slice (some ⟨w.heap.size, 0, none⟩) 0 0) [] := RI.lit w w.heap.size [] (Nat.le_refl _) (by simp)
    have HB := Aside0.mk ((Below.refl w.heap.size w).alloc (Nat.le_refl _) (.cells #[] 3))
    have HLs := Aside0.mk HL
    have HC2 := Aside0.mk (Kd.C_alloc HC.out (.cells #[] 3))
    clear HL HC
    go_wp2_with (at_builtin; refine appRow (w0 := w) w.heap.size rfl _ _ rfl Try.underlying22 infoInt (.slice (some ⟨w.heap.size, 0, none⟩) 0 0) [] xs (some ad) xs.length c rfl rfl HLs.out HC2.out HB.out (by simp) (by simp; omega) ?_; intro v1 w1 h1 h2 _ _; replace h1 := Aside0.mk h1; replace h2 := Aside0.mk h2)
    go_ret
    exact ⟨v1, rfl, h1.out, h2.out⟩

end Go.Proofs.Ytjolmhokeceljaa.Own
