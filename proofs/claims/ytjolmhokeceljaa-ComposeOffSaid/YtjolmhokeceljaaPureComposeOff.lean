/-
  The pure statement of ComposeOff is proved: for each of five letters and any two of eight marks the second mark is composed with the letter just if the first one does not keep it off: all 320 cases are reckoned.
-/
import Derived.Test.YtjolmhokeceljaaLx
namespace Go.Proofs.Ytjolmhokeceljaa.Pure
open Go.RowKit Go.Proofs.Ytjolmhokeceljaa.Own Go.Proofs.Ytjolmhokeceljaa.Lx Go.Proofs.YtjolmhokeceljaaW.PrintWords Go.Proofs.YtjolmhokeceljaaW.PrintLast

theorem u64_pos (a : Int) : 0 ≤ IntKind.u64.wrap a ∧ IntKind.u64.wrap a < 18446744073709551616 := by
  simp only [IntKind.wrap, IntKind.signed, IntKind.bits]
  simp
  omega
theorem u64_in (a : Int) (h0 : 0 ≤ a) (h1 : a < 18446744073709551616) : IntKind.u64.wrap a = a := by
  simp only [IntKind.wrap, IntKind.signed, IntKind.bits]
  simp
  omega
theorem mod_of (a : Int) (m : Nat) (hm : 0 < m) (hm2 : m ≤ 100) (h0 : 0 ≤ a) : ∃ n : Nat, n < m ∧ wrap64 (Int.tmod a (m : Int)) = (n : Int) := by
  have h2 := Int.emod_lt_of_pos a (show (0 : Int) < (m : Int) by omega)
  have h3 := Int.emod_nonneg a (show (m : Int) ≠ 0 by omega)
  refine ⟨(Int.tmod a (m : Int)).toNat, ?_, ?_⟩
  · rw [Int.tmod_eq_emod_of_nonneg h0]; omega
  · rw [Int.tmod_eq_emod_of_nonneg h0]; unfold wrap64; omega

set_option maxRecDepth 100000 in
set_option maxHeartbeats 4000000 in
theorem ComposeOff : sobriquetlaw10_ComposeOff.Pure := by
  intro a b _ _
  refine ⟨1, ?_⟩
  obtain ⟨p0, p1⟩ := u64_pos a
  obtain ⟨n1, h1, e1⟩ := mod_of (IntKind.u64.wrap a) 5 (by omega) (by omega) p0
  have q : IntKind.u64.wrap (Int.tdiv (IntKind.u64.wrap a) 5) = Int.tdiv (IntKind.u64.wrap a) 5 := by
    refine u64_in _ ?_ ?_ <;> rw [Int.tdiv_eq_ediv_of_nonneg p0] <;> omega
  obtain ⟨n2, h2, e2⟩ := mod_of (IntKind.u64.wrap (Int.tdiv (IntKind.u64.wrap a) 5)) 8 (by omega) (by omega) (by rw [q, Int.tdiv_eq_ediv_of_nonneg p0]; omega)
  obtain ⟨n3, h3, e3⟩ := mod_of (IntKind.u64.wrap b) 8 (by omega) (by omega) (u64_pos b).1
  simp only [Int.cast_ofNat_Int] at e1 e2 e3
  unfold sobriquetlaw10_ComposeOff.f
  rw [e1, e2, e3]
  clear e1 e2 e3 q p0 p1
  revert n3
  revert n2
  revert n1
  decide +kernel

end Go.Proofs.Ytjolmhokeceljaa.Pure
