/-
  The pure statement of NormQuick is proved: for all two lists of at most 200 numbers what is quick is its own form, and both side by side are quick just if each is.
-/
import Derived.Test.YtjolmhokeceljaaLnQ
import Derived.Test.YtjolmhokeceljaaSobQ
namespace Go.Proofs.Ytjolmhokeceljaa.Pure
open Go.RowKit Go.Proofs.Ytjolmhokeceljaa.Own Go.Proofs.Ytjolmhokeceljaa.LnQ Go.Proofs.YtjolmhokeceljaaW.PrintWords Go.Proofs.YtjolmhokeceljaaW.PrintLast

theorem quick_wakes : sobriquetlaw11_wakes.f = some true := by kernel_rfl
theorem quick_last (k : Nat) (a b : List Int) (c : Bool) (ha : a.length ≤ 200) (hb : b.length ≤ 200) : sobriquetlaw11_NormQuick.j1 (k + 1) a b c (Sob.quick c a) (Sob.quick c b) false = some true := by
  have e1 : sobriquetkeep_TwinInts.f a = some a := if_pos (by omega)
  have e2 : norm_Quick.f (a ++ b) c = some (Sob.quick c a && Sob.quick c b) := by unfold norm_Quick.f; rw [Sob.quick_append]
  rw [sobriquetlaw11_NormQuick.j1, if_neg (by simp), e1, Option.bind_some, if_pos (by omega), e2, Option.bind_some, quick_wakes]
  cases Sob.quick c a <;> cases Sob.quick c b <;> rfl
theorem NormQuick : sobriquetlaw11_NormQuick.Pure := by
  intro a b c _ _ _ _ _ _
  refine ⟨2, ?_⟩
  unfold sobriquetlaw11_NormQuick.f
  by_cases h0 : (a.length : Int) > 200
  · rw [if_pos h0, sobriquetlaw11_NormQuick.j0, if_pos rfl]
  rw [if_neg h0]
  by_cases h1 : (b.length : Int) > 200
  · rw [decide_eq_true h1, sobriquetlaw11_NormQuick.j0, if_pos rfl]
  rw [decide_eq_false h1, sobriquetlaw11_NormQuick.j0, if_neg (by simp)]
  unfold norm_Quick.f
  rw [Option.bind_some, Option.bind_some]
  have last := quick_last 0 a b c (by omega) (by omega)
  by_cases hq : Sob.quick c a = true
  · rw [if_pos hq]
    unfold norm_Form.f
    rw [if_pos (by omega), Sob.quick_form hq, Option.bind_some]
    unfold sobriquetkeep_Ints.f
    rw [decide_eq_true rfl, Option.bind_some]
    exact last
  · rw [if_neg hq]
    exact last

end Go.Proofs.Ytjolmhokeceljaa.Pure
