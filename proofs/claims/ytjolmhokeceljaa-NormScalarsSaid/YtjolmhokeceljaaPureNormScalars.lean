/-
  The pure statement of NormScalars is proved: for every number its form comes apart to what the number does; one with a decomposition of two is its own form just if the two make it, one with a decomposition of one never is.
-/
import Derived.Test.YtjolmhokeceljaaLnS
import Derived.Test.YtjolmhokeceljaaSobQ
namespace Go.Proofs.Ytjolmhokeceljaa.Pure
open Go.RowKit Go.Proofs.Ytjolmhokeceljaa.Own Go.Proofs.Ytjolmhokeceljaa.LnS Go.Proofs.YtjolmhokeceljaaW.PrintWords Go.Proofs.YtjolmhokeceljaaW.PrintLast

theorem scalars_wakes : sobriquetlaw11_wakes.f = some true := by kernel_rfl
theorem NormScalars : sobriquetlaw11_NormScalars.Pure := by
  intro c _
  unfold sobriquetlaw11_NormScalars.f
  have h1 := Sob.form_len false [c]
  have e1 : norm_Form.f [c] false = some (Sob.form false [c]) := if_pos (by simp)
  have e2 : norm_Apart.f [c] false = some (Sob.apart false [c]) := if_pos (by simp)
  have e3 : norm_Apart.f (Sob.form false [c]) false = some (Sob.apart false [c]) := by unfold norm_Apart.f; rw [if_pos (by simp at h1; omega), Sob.apart_form]
  rw [e1, Option.bind_some, e2, Option.bind_some, e3, Option.bind_some]
  unfold sobriquetkeep_Ints.f ucd_Canon.f
  rw [decide_eq_true rfl, Option.bind_some, if_pos rfl, Option.bind_some]
  have h2 := Sob.canon_two c
  by_cases n0 : Sob.canon c = []
  · rw [if_pos (by rw [n0]; rfl), Sob.form_plain n0, decide_eq_true rfl, Option.bind_some, if_pos rfl, scalars_wakes]
    rfl
  have p0 : (Sob.canon c).length ≠ 0 := fun e => n0 (List.eq_nil_of_length_eq_zero e)
  rw [if_neg (by omega)]
  by_cases n1 : (Sob.canon c).length = 1
  · have hf : ¬ Sob.form false [c] = [c] := fun e => by
      obtain ⟨x, y, h, _⟩ := Sob.form_self n0 e
      rw [h] at n1
      simp at n1
    rw [if_pos (by omega), decide_eq_false hf, Option.bind_some, if_neg (by simp), scalars_wakes]
    rfl
  rw [if_neg (by omega), if_pos (by omega), if_pos (by omega)]
  have hl : (Sob.canon c).length = 2 := by omega
  obtain ⟨x, y, hxy⟩ : ∃ x y, Sob.canon c = [x, y] := by
    match h : Sob.canon c, hl with
    | [x, y], _ => exact ⟨x, y, rfl⟩
  rw [hxy, show rd [x, y] 0 = x from rfl, show rd [x, y] 1 = y from rfl]
  unfold ucd_Pair.f
  rw [Option.bind_some, Option.bind_some]
  cases hp : Sob.pair x y with
  | none =>
    have hf : ¬ Sob.form false [c] = [c] := fun e => by
      obtain ⟨x', y', h, h'⟩ := Sob.form_self n0 e
      rw [hxy] at h
      cases h
      rw [hp] at h'
      cases h'
    rw [decide_eq_false hf, if_neg (by simp [duo]), if_pos (by simp), scalars_wakes]
    rfl
  | some d =>
    rw [if_pos (by simp [duo])]
    by_cases hd : d = c
    · subst hd
      rw [Sob.form_pair hp, decide_eq_true rfl, if_pos (by simp [duo]), scalars_wakes]
      rfl
    · have hf : ¬ Sob.form false [c] = [c] := fun e => by
        obtain ⟨x', y', h, h'⟩ := Sob.form_self n0 e
        rw [hxy] at h
        cases h
        rw [hp] at h'
        cases h'
        exact hd rfl
      rw [decide_eq_false hf, if_pos (by simp [duo, hd]), scalars_wakes]
      rfl

end Go.Proofs.Ytjolmhokeceljaa.Pure
