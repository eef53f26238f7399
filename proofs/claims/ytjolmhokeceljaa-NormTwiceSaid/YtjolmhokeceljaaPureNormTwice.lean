/-
  The pure statement of NormTwice is proved: for all lists of at most 200 numbers forms and decompositions of one another's results are the same as of the original.
-/
import Derived.Test.YtjolmhokeceljaaLnT
namespace Go.Proofs.Ytjolmhokeceljaa.Pure
open Go.RowKit Go.Proofs.Ytjolmhokeceljaa.Own Go.Proofs.Ytjolmhokeceljaa.LnT Go.Proofs.YtjolmhokeceljaaW.PrintWords Go.Proofs.YtjolmhokeceljaaW.PrintLast

theorem twice_wakes : sobriquetlaw11_wakes.f = some true := by kernel_rfl
theorem NormTwice : sobriquetlaw11_NormTwice.Pure := by
  intro s k _ _ _
  unfold sobriquetlaw11_NormTwice.f
  by_cases h0 : (s.length : Int) > 200
  · rw [if_pos h0]
  rw [if_neg h0]
  have hf := Sob.form_len k s
  have ha := Sob.apart_len k s
  have e1 : norm_Form.f s k = some (Sob.form k s) := if_pos (by omega)
  have e2 : norm_Apart.f s k = some (Sob.apart k s) := if_pos (by omega)
  have e3 : norm_Form.f (Sob.form k s) k = some (Sob.form k s) := by unfold norm_Form.f; rw [if_pos (by omega), Sob.form_form]
  have e4 : norm_Form.f (Sob.apart k s) k = some (Sob.form k s) := by unfold norm_Form.f; rw [if_pos (by omega), Sob.form_apart]
  have e5 : norm_Apart.f (Sob.form k s) k = some (Sob.apart k s) := by unfold norm_Apart.f; rw [if_pos (by omega), Sob.apart_form]
  have e6 : norm_Apart.f (Sob.apart k s) k = some (Sob.apart k s) := by unfold norm_Apart.f; rw [if_pos (by omega), Sob.apart_apart]
  have same : ∀ l : List Int, sobriquetkeep_Ints.f l l = some true := fun l => by unfold sobriquetkeep_Ints.f; rw [decide_eq_true rfl]
  rw [e1, Option.bind_some, e2, Option.bind_some, e3, Option.bind_some, same, Option.bind_some, if_pos rfl, e4, Option.bind_some, same, Option.bind_some, if_pos rfl, e5, Option.bind_some, same, Option.bind_some, if_pos rfl, e6, Option.bind_some, same, Option.bind_some, if_pos rfl, twice_wakes]
  rfl

end Go.Proofs.Ytjolmhokeceljaa.Pure
