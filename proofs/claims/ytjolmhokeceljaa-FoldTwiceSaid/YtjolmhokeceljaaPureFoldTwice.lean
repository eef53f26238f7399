/-
  The pure statement of FoldTwice is proved: for all lists of ints of at most 300 numbers folding twice is folding once, and two lists side by side are folded side by side (longer ones: the law returns true at once).
-/
import Derived.Test.YtjolmhokeceljaaLf1
import Derived.Test.YtjolmhokeceljaaSobFold
namespace Go.Proofs.Ytjolmhokeceljaa.Pure
open Go.RowKit Go.Proofs.Ytjolmhokeceljaa.Own Go.Proofs.Ytjolmhokeceljaa.Lf Go.Proofs.YtjolmhokeceljaaW.PrintWords Go.Proofs.YtjolmhokeceljaaW.PrintLast

theorem fold_wakes : sobriquetlaw12_wakes.f = some true := by kernel_rfl
theorem fold_all_eq (l : List Int) (h : l.length ≤ 1000000) : fold_All.f l = some (Sob.foldAll l) := if_pos h

theorem FoldTwice : sobriquetlaw12_FoldTwice.Pure := by
  intro l0 l1 _ _ _ _ _ _
  refine ⟨1, ?_⟩
  unfold sobriquetlaw12_FoldTwice.f
  by_cases h0 : (l0.length : Int) > 300
  · rw [if_pos h0]; rfl
  rw [if_neg h0]
  by_cases h1 : (l1.length : Int) > 300
  · rw [decide_eq_true h1]; rfl
  rw [decide_eq_false h1]
  have f0 := foldAll_len l0
  have f1 := foldAll_len l1
  have e0 := fold_all_eq l0 (by omega)
  have e1 := fold_all_eq l1 (by omega)
  have e2 := fold_all_eq (Sob.foldAll l0) (by omega)
  have e3 := fold_all_eq (l0 ++ l1) (by rw [List.length_append]; omega)
  have e4 : sobriquetkeep_TwinInts.f l0 = some l0 := if_pos (by omega)
  rw [Sob.foldAll_twice] at e2
  rw [Sob.foldAll_append] at e3
  simp only [sobriquetlaw12_FoldTwice.j0]
  rw [if_neg (by decide), e0]
  simp only [Option.bind_some, e2, sobriquetkeep_Ints.f, decide_true, if_true, e4]
  rw [if_pos (by omega), e3]
  simp only [Option.bind_some, e1]
  rw [if_pos (by omega), fold_wakes]
  rfl

end Go.Proofs.Ytjolmhokeceljaa.Pure
