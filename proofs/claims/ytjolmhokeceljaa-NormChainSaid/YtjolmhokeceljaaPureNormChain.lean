/-
  The pure statement of NormChain is proved: for all lists of at most 200 numbers the compatible form of the canonical form, or of the canonical decomposition, is the compatible form, which is in canonical form.
-/
import Derived.Test.YtjolmhokeceljaaLnC
namespace Go.Proofs.Ytjolmhokeceljaa.Pure
open Go.RowKit Go.Proofs.Ytjolmhokeceljaa.Own Go.Proofs.Ytjolmhokeceljaa.LnC Go.Proofs.YtjolmhokeceljaaW.PrintWords Go.Proofs.YtjolmhokeceljaaW.PrintLast

theorem chain_wakes : sobriquetlaw11_wakes.f = some true := by kernel_rfl
theorem NormChain : sobriquetlaw11_NormChain.Pure := by
  intro s _ _ _
  unfold sobriquetlaw11_NormChain.f
  by_cases h0 : (s.length : Int) > 200
  · rw [if_pos h0]
  rw [if_neg h0]
  have h1 := Sob.form_len true s
  have h2 := Sob.form_len false s
  have h3 := Sob.apart_len false s
  have e1 : norm_Form.f s true = some (Sob.form true s) := if_pos (by omega)
  have e2 : norm_Form.f s false = some (Sob.form false s) := if_pos (by omega)
  have e3 : norm_Form.f (Sob.form false s) true = some (Sob.form true s) := by unfold norm_Form.f; rw [if_pos (by omega), Sob.form_chain]
  have e4 : norm_Apart.f s false = some (Sob.apart false s) := if_pos (by omega)
  have e5 : norm_Form.f (Sob.apart false s) true = some (Sob.form true s) := by unfold norm_Form.f; rw [if_pos (by omega), Sob.form_chain_apart]
  have e6 : norm_Form.f (Sob.form true s) false = some (Sob.form true s) := by unfold norm_Form.f; rw [if_pos (by omega), Sob.form_canonical]
  have same : ∀ l : List Int, sobriquetkeep_Ints.f l l = some true := fun l => by unfold sobriquetkeep_Ints.f; rw [decide_eq_true rfl]
  rw [e1, Option.bind_some, e2, Option.bind_some, e3, Option.bind_some, same, Option.bind_some, if_pos rfl, e4, Option.bind_some, e5, Option.bind_some, same, Option.bind_some, if_pos rfl, e6, Option.bind_some, same, Option.bind_some, if_pos rfl, chain_wakes]
  rfl

end Go.Proofs.Ytjolmhokeceljaa.Pure
