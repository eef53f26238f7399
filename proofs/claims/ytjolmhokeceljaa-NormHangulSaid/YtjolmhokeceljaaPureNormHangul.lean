/-
  The pure statement of NormHangul is proved: the letters of any two syllables, side by side, have these two for their form, and are what these come apart to.
-/
import Derived.Test.YtjolmhokeceljaaLnH
import Derived.Test.YtjolmhokeceljaaSobQ
namespace Go.Proofs.Ytjolmhokeceljaa.Pure
open Go.RowKit Go.Proofs.Ytjolmhokeceljaa.Own Go.Proofs.Ytjolmhokeceljaa.LnH Go.Proofs.YtjolmhokeceljaaW.PrintWords Go.Proofs.YtjolmhokeceljaaW.PrintLast

theorem hangul_wakes : sobriquetlaw11_wakes.f = some true := by kernel_rfl
theorem syl_of (a : Int) : ∃ c : Int, (44032 ≤ c ∧ c < 55204) ∧ wrap64 (44032 + (wrap64 (Int.tmod (IntKind.u64.wrap a) 11172))) = c := by
  have h0 : 0 ≤ IntKind.u64.wrap a := by simp only [IntKind.wrap, IntKind.signed, IntKind.bits]; simp; omega
  refine ⟨44032 + Int.tmod (IntKind.u64.wrap a) 11172, ?_, ?_⟩
  · rw [Int.tmod_eq_emod_of_nonneg h0]; omega
  · rw [Int.tmod_eq_emod_of_nonneg h0]; unfold wrap64; omega
theorem split_short (c : Int) : (Sob.split c).length ≤ 3 := by unfold Sob.split; split <;> (try split) <;> simp
theorem NormHangul : sobriquetlaw11_NormHangul.Pure := by
  intro a0 b0 _ _
  obtain ⟨a, ha, ea⟩ := syl_of a0
  obtain ⟨b, hb, eb⟩ := syl_of b0
  unfold sobriquetlaw11_NormHangul.f
  rw [ea, eb]
  have la := split_short a
  have lb := split_short b
  unfold hangul_Split.f
  rw [Option.bind_some, Option.bind_some, if_pos (by omega), Option.bind_some]
  have e1 : ∀ k, norm_Form.f (Sob.split a ++ Sob.split b) k = some [a, b] := fun k => by unfold norm_Form.f; rw [if_pos (by rw [List.length_append]; omega), Sob.form_letters k ha hb]
  have e2 : norm_Apart.f [a, b] false = some (Sob.split a ++ Sob.split b) := by unfold norm_Apart.f; rw [if_pos (by simp), Sob.apart_syl false ha hb]
  have same : ∀ l : List Int, sobriquetkeep_Ints.f l l = some true := fun l => by unfold sobriquetkeep_Ints.f; rw [decide_eq_true rfl]
  rw [e1, Option.bind_some, same, Option.bind_some, if_pos rfl, e1, Option.bind_some, same, Option.bind_some, if_pos rfl, e2, Option.bind_some, same, Option.bind_some, if_pos rfl, hangul_wakes]
  rfl

end Go.Proofs.Ytjolmhokeceljaa.Pure
