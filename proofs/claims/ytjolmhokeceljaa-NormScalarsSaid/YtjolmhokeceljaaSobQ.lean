/-
  Plain laws of what needs no looking at, of syllables and of scalars.
-/
import Derived.Test.YtjolmhokeceljaaNormQ
namespace Go.Proofs.Ytjolmhokeceljaa.Sob

theorem compT_sub : compT.all (fun e => decide (e ∈ canonT)) = true := by decide +kernel
theorem compT_form : compT.all (fun e => decide (form false [e.1] = [e.1])) = true := by decide +kernel
theorem compT_off : compT.all (fun e => !(decide (4352 ≤ e.2.2 ∧ e.2.2 < 4608))) = true := by decide +kernel
theorem next_of_dec {k : Bool} {c : Int} (h : dec k c = [c]) : next k c = [] := dec_done k c c (by rw [h]; simp)
theorem quick_calm {k : Bool} {c : Int} (h : quick1 k c = true) : Calm k c := by
  unfold quick1 at h
  simp only [Bool.and_eq_true, Bool.not_eq_true', Bool.or_eq_false_iff, decide_eq_true_eq, decide_eq_false_iff_not] at h
  obtain ⟨⟨hj, hc⟩, hd, hs⟩ := h
  have hc : cls c = 0 := by
    by_cases q : cls c = 0
    · exact q
    · exact absurd q (by simpa using hc)
  refine ⟨next_of_dec hd, hc, fun a => ?_⟩
  have hr : ¬ (4449 ≤ c ∧ c ≤ 4469) ∧ ¬ (4520 ≤ c ∧ c ≤ 4546) := by
    unfold jam at hj
    constructor
    · rintro ⟨h1, h2⟩
      simp [h1, h2] at hj
    · rintro ⟨h1, h2⟩
      simp [h1, h2] at hj
  unfold two
  have e : join a c = none := by unfold join; rw [if_neg (by omega), if_neg (by omega)]
  rw [e]
  cases hp : pair a c with
  | none => rfl
  | some n =>
    have hm := of_decide_eq_true (List.all_eq_true.1 compT_sub _ (pairOf_mem a c _ hp))
    have : second c = true := by
      unfold second
      rw [List.any_eq_true]
      exact ⟨(n, a, c), hm, by simp [hp]⟩
    rw [hs] at this
    cases this
theorem quick_form {k : Bool} {s : List Int} (h : quick k s = true) : form k s = s := form_calm fun c hc => quick_calm (List.all_eq_true.1 h c hc)
theorem quick_append (k : Bool) (a b : List Int) : quick k (a ++ b) = (quick k a && quick k b) := by unfold quick; rw [List.all_append]

/-! ### syllables -/
theorem pair_jamo {x y : Int} (h : 4352 ≤ y ∧ y < 4608) : pair x y = none := pairOf_none x y _ (fun e he q => by
  have := List.all_eq_true.1 compT_off e he
  simp at this
  omega)
theorem cpush_zero {t : CSt} {c : Int} (h : cls c = 0) : cpush t c = (crow t, some c, []) := by unfold cpush; rw [if_pos h]
theorem syl_lead {p : List Int} {o : Option Int} {c : Int} (h : 4352 ≤ c ∧ c < 4371) : cstep (p, o, []) c = (crow (p, o, []), some c, []) := by
  have hz : cls c = 0 := cls_jamo (by omega) (by omega)
  unfold cstep
  cases o with
  | none => exact cpush_zero hz
  | some a =>
    have h2 : two a c = none := by
      unfold two
      have e : join a c = none := by unfold join; rw [if_neg (by omega), if_neg (by omega)]
      rw [e]
      exact pair_jamo (by omega)
    simp only
    rw [h2]
    split
    · exact cpush_zero hz
    · exact cpush_zero hz
theorem syl_join {p : List Int} {a b c : Int} (h : join a b = some c) : cstep (p, some a, []) b = (p, some c, []) := by
  have h2 : two a b = some c := by unfold two; rw [h]
  unfold cstep
  simp only
  rw [h2]
  rfl
theorem syl_fold {c : Int} (h : 44032 ≤ c ∧ c < 55204) (p : List Int) (o : Option Int) : (split c).foldl cstep (p, o, []) = (crow (p, o, []), some c, []) := by
  rw [split_on h, List.foldl_append, List.foldl_cons, List.foldl_cons, List.foldl_nil, syl_lead (by omega)]
  have e1 : join (4352 + (c - 44032) / 588) (4449 + (c - 44032) / 28 % 21) = some (c - (c - 44032) % 28) := by
    unfold join
    rw [if_pos (by omega)]
    congr 1
    omega
  rw [syl_join e1]
  by_cases q : (c - 44032) % 28 > 0
  · rw [if_pos q, List.foldl_cons, List.foldl_nil]
    refine syl_join ?_
    unfold join
    rw [if_neg (by omega), if_pos (by omega)]
    congr 1
    omega
  · rw [if_neg q, List.foldl_nil, show c - (c - 44032) % 28 = c by omega]
theorem split_cls {c y : Int} (h : y ∈ split c) : cls y = 0 := cls_jamo (split_jamo h).1 (split_jamo h).2
theorem dec_syl (k : Bool) {c : Int} (h : 44032 ≤ c ∧ c < 55204) : dec k c = split c := by
  have hn : next k c ≠ [] := by rw [next_split k (split_ne h)]; exact split_ne h
  rw [dec_go k hn, next_split k (split_ne h)]
  exact decAll_stop k (fun y hy => next_jamo k (split_jamo hy))
theorem apart_syl (k : Bool) {a b : Int} (ha : 44032 ≤ a ∧ a < 55204) (hb : 44032 ≤ b ∧ b < 55204) : apart k [a, b] = split a ++ split b := by
  have e : decAll k [a, b] = split a ++ split b := by rw [decAll_cons, decAll_cons, dec_syl k ha, dec_syl k hb]; simp [decAll]
  unfold apart
  rw [e]
  refine put_id (order_zero fun c hc => ?_)
  rcases List.mem_append.1 hc with h | h <;> exact split_cls h
theorem form_letters (k : Bool) {a b : Int} (ha : 44032 ≤ a ∧ a < 55204) (hb : 44032 ≤ b ∧ b < 55204) : form k (split a ++ split b) = [a, b] := by
  have e : decAll k (split a ++ split b) = split a ++ split b := decAll_stop k (fun y hy => by
    rcases List.mem_append.1 hy with h | h <;> exact next_jamo k (split_jamo h))
  unfold form apart
  rw [e, put_id (order_zero fun c hc => by rcases List.mem_append.1 hc with h | h <;> exact split_cls h)]
  unfold compose
  rw [List.foldl_append, syl_fold ha, syl_fold hb]
  simp [crow]
theorem form_syl {c : Int} (h : 44032 ≤ c ∧ c < 55204) : form false [c] = [c] := by
  have e : decAll false [c] = split c := by rw [decAll_cons, dec_syl false h]; simp [decAll]
  unfold form apart
  rw [e, put_id (order_zero fun c hc => split_cls hc)]
  unfold compose
  rw [syl_fold h]
  simp [crow]

/-! ### scalars -/
theorem canon_two (c : Int) : (canon c).length ≤ 2 := by
  rcases lookC_cases canonT c with e | ⟨e, _, _, h⟩
  · rw [show canon c = lookC canonT c from rfl, e]; simp
  · rw [show canon c = lookC canonT c from rfl, h]; split <;> simp
theorem compose_one (c : Int) : compose [c] = [c] := by
  unfold compose
  rw [List.foldl_cons, List.foldl_nil]
  show crow (cpush ([], none, []) c) = _
  rw [cpush_row]
  rfl
theorem form_plain {c : Int} (h : canon c = []) : form false [c] = [c] := by
  by_cases hs : 44032 ≤ c ∧ c < 55204
  · exact form_syl hs
  · have hn : next false c = [] := next_compat false (split_off hs) h
    have e : decAll false [c] = [c] := decAll_stop false (fun y hy => by rw [List.mem_singleton.1 hy]; exact hn)
    unfold form apart
    rw [e]
    exact compose_one c
/-- A number with a decomposition that is its own form is a pair. -/
theorem form_self {c : Int} (h : canon c ≠ []) (hf : form false [c] = [c]) : ∃ x y, canon c = [x, y] ∧ pair x y = some c := by
  have hs : split c = [] := by
    by_cases q : 44032 ≤ c ∧ c < 55204
    · exact absurd (canon_off (.inr q)) h
    · exact split_off q
  have hm : c ∈ form false [c] := by rw [hf]; simp
  rcases compose_mem hm with h1 | ⟨a, b, h1⟩
  · have := apart_done false [c] c h1
    rw [next_canon false hs h] at this
    exact absurd this h
  · unfold two at h1
    split at h1
    · rename_i n e
      cases h1
      have : 44032 ≤ c ∧ c < 55204 := by
        unfold join at e
        split at e
        · cases e; omega
        · split at e
          · cases e; omega
          · cases e
      exact absurd (canon_off (.inr this)) h
    · exact ⟨a, b, of_decide_eq_true (List.all_eq_true.1 compT_canon _ (pairOf_mem a b _ h1)), h1⟩
theorem form_pair {c x y : Int} (h : pair x y = some c) : form false [c] = [c] := of_decide_eq_true (List.all_eq_true.1 compT_form _ (pairOf_mem x y _ h))

end Go.Proofs.Ytjolmhokeceljaa.Sob
