/-
  The pure statement of FoldLetters is proved: for every number the fold of its last seven bits is the small letter where that is a capital letter of ASCII and itself else, and what has no folding stays.
-/
import Derived.Test.YtjolmhokeceljaaLf1
import Derived.Test.YtjolmhokeceljaaSobFold
namespace Go.Proofs.Ytjolmhokeceljaa.Pure
open Go.RowKit Go.Proofs.Ytjolmhokeceljaa.Own Go.Proofs.Ytjolmhokeceljaa.Lf Go.Proofs.YtjolmhokeceljaaW.PrintWords Go.Proofs.YtjolmhokeceljaaW.PrintLast

theorem fold_wakes' : sobriquetlaw12_wakes.f = some true := by kernel_rfl
theorem fold_ascii : (List.range 128).all (fun m => decide (Sob.fold1 (m : Int) = [if 65 ≤ m ∧ m ≤ 90 then (m : Int) + 32 else m])) = true := by decide +kernel
theorem low7 (a : Int) : ∃ m : Nat, m < 128 ∧ wrap64 (Int.tmod (IntKind.u64.wrap a) 128) = (m : Int) := by
  have h0 : 0 ≤ IntKind.u64.wrap a := by simp only [IntKind.wrap, IntKind.signed, IntKind.bits]; simp; omega
  refine ⟨(Int.tmod (IntKind.u64.wrap a) 128).toNat, ?_, ?_⟩
  · rw [Int.tmod_eq_emod_of_nonneg h0]; omega
  · rw [Int.tmod_eq_emod_of_nonneg h0]; unfold wrap64; omega

theorem letters_last (a x y : Int) (k : Nat) (h : Sob.fold1 x = [y]) : sobriquetlaw12_FoldLetters.j1 (k + 1) a x y = some true := by
  unfold sobriquetlaw12_FoldLetters.j1
  simp only [fold_One.f, Option.bind_some, h, sobriquetkeep_Ints.f, decide_true, if_true, ucd_Fold.f, fold_wakes']
  by_cases e : Sob.fold a = []
  · have : Sob.fold1 a = [a] := by unfold Sob.fold1; rw [e]
    rw [if_pos (by rw [e]; rfl), this]
    simp
  · have : Sob.fold1 a = Sob.fold a := by unfold Sob.fold1; split <;> simp_all
    rw [if_neg (by intro q; exact e (List.length_eq_zero_iff.1 (by omega))), this]
    simp

theorem FoldLetters : sobriquetlaw12_FoldLetters.Pure := by
  intro a _
  refine ⟨2, ?_⟩
  unfold sobriquetlaw12_FoldLetters.f
  obtain ⟨m, hm, e⟩ := low7 a
  rw [e]
  have hf := of_decide_eq_true (List.all_eq_true.1 fold_ascii m (List.mem_range.2 hm))
  by_cases h1 : (m : Int) ≥ 65
  · rw [if_pos h1]
    by_cases h2 : (m : Int) ≤ 90
    · rw [if_pos (by omega)] at hf
      rw [decide_eq_true h2]
      simp only [sobriquetlaw12_FoldLetters.j0, if_true]
      rw [show wrap64 ((m : Int) + 32) = (m : Int) + 32 from by unfold wrap64; omega]
      exact letters_last _ _ _ 0 hf
    · rw [if_neg (by omega)] at hf
      rw [decide_eq_false h2]
      simp only [sobriquetlaw12_FoldLetters.j0, Bool.false_eq_true, if_false]
      exact letters_last _ _ _ 0 hf
  · rw [if_neg h1]
    rw [if_neg (by omega)] at hf
    simp only [sobriquetlaw12_FoldLetters.j0, Bool.false_eq_true, if_false]
    exact letters_last _ _ _ 0 hf

end Go.Proofs.Ytjolmhokeceljaa.Pure
