/-
  The plain law of case folding: what is folded stays, and lists are folded one behind the other.
-/
import Derived.Test.YtjolmhokeceljaaSob
namespace Go.Proofs.Ytjolmhokeceljaa.Sob

theorem lookM_cases (L : List (Int × List Int)) (c : Int) : lookM L c = [] ∨ ∃ e ∈ L, e.1 = c ∧ lookM L c = e.2 := by
  induction L with
  | nil => exact .inl rfl
  | cons x r ih =>
    obtain ⟨f, l⟩ := x
    by_cases h : f = c
    · exact .inr ⟨(f, l), List.mem_cons_self, h, by simp only [lookM, if_pos h]⟩
    · have e : lookM ((f, l) :: r) c = lookM r c := by simp only [lookM, if_neg h]
      rcases ih with ih | ⟨y, hy, h1, h2⟩
      · exact .inl (e.trans ih)
      · exact .inr ⟨y, List.mem_cons_of_mem _ hy, h1, e.trans h2⟩
theorem foldT_fix : foldT.all (fun e => e.2.all (fun y => decide (fold1 y = [y]))) = true := by decide +kernel
theorem fold1_fix (c y : Int) (h : y ∈ fold1 c) : fold1 y = [y] := by
  unfold fold1 at h
  rcases lookM_cases foldT c with e | ⟨x, hx, _, e⟩
  · have e' : fold c = [] := e
    rw [e'] at h
    simp only [List.mem_singleton] at h
    subst h
    unfold fold1
    rw [e']
  · have e' : fold c = x.2 := e
    have := List.all_eq_true.1 (List.all_eq_true.1 foldT_fix x hx)
    split at h
    · rename_i h0
      simp only [List.mem_singleton] at h
      subst h
      unfold fold1
      rw [h0]
    · rw [e'] at h
      exact of_decide_eq_true (this y h)
theorem foldAll_append (a b : List Int) : foldAll (a ++ b) = foldAll a ++ foldAll b := by simp [foldAll]
theorem foldAll_fix (s : List Int) (h : ∀ y ∈ s, fold1 y = [y]) : foldAll s = s := by
  induction s with
  | nil => rfl
  | cons c s ih =>
    have e1 := h c List.mem_cons_self
    have e2 := ih (fun y hy => h y (List.mem_cons_of_mem _ hy))
    unfold foldAll at e2 ⊢
    rw [List.flatMap_cons, e1, e2]
    rfl
theorem mem_foldAll {s : List Int} {y : Int} (h : y ∈ foldAll s) : fold1 y = [y] := by
  obtain ⟨c, _, hy⟩ := List.mem_flatMap.1 h
  exact fold1_fix c y hy
theorem foldAll_twice (s : List Int) : foldAll (foldAll s) = foldAll s := foldAll_fix _ (fun _ h => mem_foldAll h)

end Go.Proofs.Ytjolmhokeceljaa.Sob
