/-
  Plain laws of composing: what two numbers make is of class 0, and so is the first of them; the syllables.
-/
import Derived.Test.YtjolmhokeceljaaSobFold
namespace Go.Proofs.Ytjolmhokeceljaa.Sob

theorem pairOf_mem (a b : Int) (L : List (Int × Int × Int)) {c : Int} (h : pairOf a b L = some c) : (c, a, b) ∈ L := by
  induction L with
  | nil => cases h
  | cons e r ih =>
    obtain ⟨n, x, y⟩ := e
    unfold pairOf at h
    split at h
    · rename_i q
      obtain ⟨rfl, rfl⟩ := q
      cases h
      exact List.mem_cons_self
    · exact List.mem_cons_of_mem _ (ih h)
theorem lookR_off (L : List (Int × Int × Int)) (lo hi c : Int) (h : L.all (fun e => decide (e.2.1 < lo) || decide (hi < e.1)) = true) (h0 : lo ≤ c) (h1 : c ≤ hi) : lookR L c = 0 := by
  induction L with
  | nil => rfl
  | cons e r ih =>
    obtain ⟨f, t, v⟩ := e
    simp only [List.all_cons, Bool.and_eq_true, Bool.or_eq_true, decide_eq_true_eq] at h
    unfold lookR
    rw [if_neg (by omega)]
    exact ih h.2
theorem cls_off (lo hi c : Int) (h : classT.all (fun e => decide (e.2.1 < lo) || decide (hi < e.1)) = true) (h0 : lo ≤ c) (h1 : c ≤ hi) : cls c = 0 := by
  unfold cls
  split
  · exact lookR_off _ lo hi c h h0 h1
  · rfl
theorem cls_syl {c : Int} (h0 : 44032 ≤ c) (h1 : c < 55204) : cls c = 0 := cls_off 44032 55203 c (by decide +kernel) h0 (by omega)
theorem cls_jamo {c : Int} (h0 : 4352 ≤ c) (h1 : c < 4608) : cls c = 0 := cls_off 4352 4607 c (by decide +kernel) h0 (by omega)
theorem compT_cls : compT.all (fun e => decide (cls e.1 = 0 ∧ cls e.2.1 = 0)) = true := by decide +kernel
theorem pair_cls {a b c : Int} (h : pair a b = some c) : cls a = 0 ∧ cls c = 0 := by
  have := of_decide_eq_true (List.all_eq_true.1 compT_cls _ (pairOf_mem a b _ h))
  exact ⟨this.2, this.1⟩
theorem join_cls {a b c : Int} (h : join a b = some c) : cls a = 0 ∧ cls c = 0 ∧ cls b = 0 := by
  unfold join at h
  split at h
  · rename_i q
    cases h
    exact ⟨cls_jamo (by omega) (by omega), cls_syl (by omega) (by omega), cls_jamo (by omega) (by omega)⟩
  · split at h
    · rename_i q
      cases h
      exact ⟨cls_syl (by omega) (by omega), cls_syl (by omega) (by omega), cls_jamo (by omega) (by omega)⟩
    · cases h
theorem two_cls {a b c : Int} (h : two a b = some c) : cls a = 0 ∧ cls c = 0 := by
  unfold two at h
  split at h
  · rename_i x e
    cases h
    have := join_cls e
    exact ⟨this.1, this.2.1⟩
  · exact pair_cls h
theorem compose_two (a b : Int) : compose [a, b] = match two a b with
    | some c => [c]
    | none => [a, b] := by
  by_cases z : cls a = 0
  · have e1 : cstep ([], none, []) a = ([], some a, []) := by simp [cstep, cpush, z, crow]
    have e2 : cstep ([], some a, []) b = match two a b with
      | some n => ([], some n, [])
      | none => cpush ([], some a, []) b := by
      cases h : two a b <;> simp [cstep, blocked, h]
    unfold compose
    rw [List.foldl_cons, List.foldl_cons, List.foldl_nil, e1, e2]
    cases h : two a b with
    | some n => rfl
    | none =>
      simp only [cpush]
      split <;> simp [crow]
  · have e1 : cstep ([], none, []) a = ([], none, [a]) := by simp [cstep, cpush, z]
    have e2 : two a b = none := by
      cases h : two a b with
      | none => rfl
      | some c => exact absurd (two_cls h).1 z
    unfold compose
    rw [List.foldl_cons, List.foldl_cons, List.foldl_nil, e1, e2]
    simp only [cstep, cpush]
    split <;> simp [crow]

end Go.Proofs.Ytjolmhokeceljaa.Sob
