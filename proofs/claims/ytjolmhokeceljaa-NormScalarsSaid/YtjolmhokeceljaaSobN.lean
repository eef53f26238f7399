/-
  Plain laws of the normal forms: the tables' facts: what is taken apart is taken apart wholly; marks come apart to marks of their class; what two make comes apart to what the two come apart to.
  Plain laws of the normal forms: what is taken apart, put in order and composed.
  Plain laws of what is its own form.
-/
import Derived.Test.YtjolmhokeceljaaSob
namespace Go.Proofs.Ytjolmhokeceljaa.Sob

theorem lookC_cases (L : List (Int × Int × Int)) (c : Int) : lookC L c = [] ∨ ∃ e ∈ L, e.1 = c ∧ lookC L c = if e.2.2 = 0 then [e.2.1] else [e.2.1, e.2.2] := by
  induction L with
  | nil => exact .inl rfl
  | cons x r ih =>
    obtain ⟨f, a, b⟩ := x
    by_cases h : f = c
    · exact .inr ⟨(f, a, b), List.mem_cons_self, h, by simp only [lookC, if_pos h]⟩
    · have e : lookC ((f, a, b) :: r) c = lookC r c := by simp only [lookC, if_neg h]
      rcases ih with ih | ⟨y, hy, h1, h2⟩
      · exact .inl (e.trans ih)
      · exact .inr ⟨y, List.mem_cons_of_mem _ hy, h1, e.trans h2⟩
theorem lookC_none (L : List (Int × Int × Int)) (c : Int) (h : ∀ e ∈ L, e.1 ≠ c) : lookC L c = [] := by
  induction L with
  | nil => rfl
  | cons x r ih =>
    obtain ⟨f, a, b⟩ := x
    simp only [lookC, if_neg (h (f, a, b) List.mem_cons_self)]
    exact ih (fun e he => h e (List.mem_cons_of_mem _ he))
theorem lookM_none (L : List (Int × List Int)) (c : Int) (h : ∀ e ∈ L, e.1 ≠ c) : lookM L c = [] := by
  induction L with
  | nil => rfl
  | cons x r ih =>
    obtain ⟨f, a⟩ := x
    simp only [lookM, if_neg (h (f, a) List.mem_cons_self)]
    exact ih (fun e he => h e (List.mem_cons_of_mem _ he))

/-! ### the tables' keys are no syllables and no letters of syllables -/
theorem canonT_keys : canonT.all (fun e => !(decide (4352 ≤ e.1 ∧ e.1 < 4608) || decide (44032 ≤ e.1 ∧ e.1 < 55204))) = true := by decide +kernel
theorem compatT_keys : compatT.all (fun e => !(decide (4352 ≤ e.1 ∧ e.1 < 4608) || decide (44032 ≤ e.1 ∧ e.1 < 55204))) = true := by decide +kernel
theorem canon_off {c : Int} (h : (4352 ≤ c ∧ c < 4608) ∨ (44032 ≤ c ∧ c < 55204)) : canon c = [] := by
  refine lookC_none _ _ (fun e he q => ?_)
  have := List.all_eq_true.1 canonT_keys e he
  rw [q] at this
  simp at this
  omega
theorem compat_off {c : Int} (h : (4352 ≤ c ∧ c < 4608) ∨ (44032 ≤ c ∧ c < 55204)) : compat c = [] := by
  refine lookM_none _ _ (fun e he q => ?_)
  have := List.all_eq_true.1 compatT_keys e he
  rw [q] at this
  simp at this
  omega
theorem split_off {c : Int} (h : ¬ (44032 ≤ c ∧ c < 55204)) : split c = [] := by unfold split; rw [if_neg h]
theorem split_on {c : Int} (h : 44032 ≤ c ∧ c < 55204) : split c = [4352 + (c - 44032) / 588, 4449 + (c - 44032) / 28 % 21] ++ (if (c - 44032) % 28 > 0 then [4519 + (c - 44032) % 28] else []) := by unfold split; rw [if_pos h]
theorem split_ne {c : Int} (h : 44032 ≤ c ∧ c < 55204) : split c ≠ [] := by rw [split_on h]; simp
theorem split_jamo {c y : Int} (h : y ∈ split c) : 4352 ≤ y ∧ y < 4608 := by
  unfold split at h
  split at h
  · rename_i q
    split at h
    · simp at h
      omega
    · simp at h
      omega
  · cases h
theorem next_jamo (k : Bool) {c : Int} (h : 4352 ≤ c ∧ c < 4608) : next k c = [] := by
  unfold next
  rw [split_off (by omega), canon_off (.inl h), compat_off (.inl h)]
  cases k <;> rfl
theorem decN_stop (k : Bool) (n : Nat) {c : Int} (h : next k c = []) : decN k n c = [c] := by
  cases n with
  | zero => rfl
  | succ n => simp only [decN, h]
theorem decN_go (k : Bool) (n : Nat) {c : Int} (h : next k c ≠ []) : decN k (n + 1) c = (next k c).flatMap (decN k n) := by
  simp only [decN]
theorem dec_stop (k : Bool) {c : Int} (h : next k c = []) : dec k c = [c] := decN_stop k 3 h
theorem next_split (k : Bool) {c : Int} (h : split c ≠ []) : next k c = split c := by
  unfold next
  split
  · rename_i q; exact absurd q h
  · rfl
theorem next_canon (k : Bool) {c : Int} (h : split c = []) (h2 : canon c ≠ []) : next k c = canon c := by
  unfold next
  rw [h]
  simp only
theorem next_compat (k : Bool) {c : Int} (h : split c = []) (h2 : canon c = []) : next k c = if k then compat c else [] := by
  unfold next
  rw [h, h2]
/-- What is taken apart at first: a syllable; an entry of the canonical table; one of the other table. -/
theorem next_cases (k : Bool) (c : Int) : next k c = [] ∨ ((44032 ≤ c ∧ c < 55204) ∧ next k c = split c) ∨ (split c = [] ∧ ∃ e ∈ canonT, e.1 = c ∧ next k c = if e.2.2 = 0 then [e.2.1] else [e.2.1, e.2.2]) ∨ (split c = [] ∧ canon c = [] ∧ k = true ∧ ∃ e ∈ compatT, e.1 = c ∧ next k c = e.2) := by
  by_cases h : 44032 ≤ c ∧ c < 55204
  · exact .inr (.inl ⟨h, next_split k (split_ne h)⟩)
  have hs := split_off h
  rcases lookC_cases canonT c with e | ⟨e, he, h1, h2⟩
  · have e' : canon c = [] := e
    have hn := next_compat k hs e'
    cases k with
    | false => exact .inl hn
    | true =>
      rcases lookM_cases compatT c with q | ⟨x, hx, h1, h2⟩
      · exact .inl (hn.trans q)
      · exact .inr (.inr (.inr ⟨hs, e', rfl, x, hx, h1, hn.trans h2⟩))
  · have e' : canon c = if e.2.2 = 0 then [e.2.1] else [e.2.1, e.2.2] := h2
    have hn : canon c ≠ [] := by rw [e']; split <;> simp
    exact .inr (.inr (.inl ⟨hs, e, he, h1, (next_canon k hs hn).trans e'⟩))

/-- After so many steps all is taken apart. -/
def lev (k : Bool) : Nat → Int → Bool
  | 0, c => decide (next k c = [])
  | n + 1, c => (next k c).all (lev k n)
theorem canonT_lev (k : Bool) : canonT.all (fun e => lev k 3 e.1) = true := by cases k <;> decide +kernel
theorem compatT_lev : compatT.all (fun e => lev true 3 e.1) = true := by decide +kernel
theorem canonT_cls : canonT.all (fun e => decide (cls e.1 = 0) || (decide (cls e.2.1 = cls e.1) && (decide (e.2.2 = 0) || decide (cls e.2.2 = cls e.1)))) = true := by decide +kernel
theorem compatT_cls : compatT.all (fun e => decide (cls e.1 = 0) || e.2.all (fun y => decide (cls y = cls e.1))) = true := by decide +kernel
theorem compT_canon : compT.all (fun e => decide (canon e.1 = [e.2.1, e.2.2])) = true := by decide +kernel
theorem lev_of (k : Bool) (n : Nat) {c : Int} (h : next k c = []) : lev k n c = true := by
  cases n with
  | zero => exact decide_eq_true h
  | succ n => simp only [lev, h, List.all_nil]
theorem lev_all (k : Bool) (c : Int) : lev k 3 c = true := by
  rcases next_cases k c with h | ⟨h, e⟩ | ⟨hs, e, he, rfl, h⟩ | ⟨hs, hc, rfl, e, he, rfl, h⟩
  · exact lev_of k 3 h
  · show (next k c).all (lev k 2) = true
    rw [e]
    exact List.all_eq_true.2 fun y hy => lev_of k 2 (next_jamo k (split_jamo hy))
  · exact List.all_eq_true.1 (canonT_lev k) e he
  · exact List.all_eq_true.1 compatT_lev e he
theorem flatMap_same {α β : Type} {f g : α → List β} {l : List α} (h : ∀ y ∈ l, f y = g y) : l.flatMap f = l.flatMap g := by
  induction l with
  | nil => rfl
  | cons x l ih => rw [List.flatMap_cons, List.flatMap_cons, h x List.mem_cons_self, ih (fun y hy => h y (List.mem_cons_of_mem _ hy))]
theorem decN_lev (k : Bool) (n : Nat) : ∀ {c : Int}, lev k n c = true → ∀ m, n ≤ m → decN k m c = decN k n c := by
  induction n with
  | zero =>
    intro c h m _
    have h := of_decide_eq_true h
    rw [decN_stop k m h, decN_stop k 0 h]
  | succ n ih =>
    intro c h m hm
    obtain ⟨m, rfl⟩ : ∃ m', m = m' + 1 := ⟨m - 1, by omega⟩
    by_cases e : next k c = []
    · rw [decN_stop k _ e, decN_stop k _ e]
    · rw [decN_go k m e, decN_go k n e]
      exact flatMap_same fun y hy => ih (List.all_eq_true.1 h y hy) m (by omega)
theorem done_lev (k : Bool) (n : Nat) : ∀ {c : Int}, lev k n c = true → ∀ y ∈ decN k n c, next k y = [] := by
  induction n with
  | zero =>
    intro c h y hy
    rw [List.mem_singleton.1 hy]
    exact of_decide_eq_true h
  | succ n ih =>
    intro c h y hy
    by_cases e : next k c = []
    · rw [decN_stop k _ e] at hy
      rw [List.mem_singleton.1 hy]
      exact e
    · rw [decN_go k n e] at hy
      obtain ⟨z, hz, hy⟩ := List.mem_flatMap.1 hy
      exact ih (List.all_eq_true.1 h z hz) y hy
/-- What is taken apart is taken apart wholly. -/
theorem dec_done (k : Bool) (c : Int) : ∀ y ∈ dec k c, next k y = [] := done_lev k 3 (lev_all k c)
/-- One step, and then the rest. -/
theorem dec_go (k : Bool) {c : Int} (hn : next k c ≠ []) : dec k c = (next k c).flatMap (dec k) := by
  unfold dec
  rw [decN_go k 2 hn]
  exact flatMap_same fun y hy => (decN_lev k 2 (List.all_eq_true.1 (lev_all k c) y hy) 3 (by omega)).symm
theorem next_mark (k : Bool) {c : Int} (hc : cls c ≠ 0) : ∀ y ∈ next k c, cls y = cls c := by
  intro y hy
  rcases next_cases k c with h | ⟨h, e⟩ | ⟨hs, e, he, rfl, h⟩ | ⟨hs, hc', rfl, e, he, rfl, h⟩
  · rw [h] at hy; cases hy
  · exact absurd (cls_syl h.1 h.2) hc
  · have := List.all_eq_true.1 canonT_cls e he
    simp only [Bool.or_eq_true, Bool.and_eq_true, decide_eq_true_eq] at this
    rw [h] at hy
    split at hy
    · simp at hy; subst hy
      rcases this with q | q
      · exact absurd q hc
      · exact q.1
    · rename_i q2
      simp at hy
      rcases this with q | ⟨q, q3⟩
      · exact absurd q hc
      · rcases hy with rfl | rfl
        · exact q
        · rcases q3 with q3 | q3
          · exact absurd q3 q2
          · exact q3
  · have := List.all_eq_true.1 compatT_cls e he
    simp only [Bool.or_eq_true, decide_eq_true_eq, List.all_eq_true] at this
    rw [h] at hy
    rcases this with q | q
    · exact absurd q hc
    · exact q y hy
/-- A mark comes apart to marks of its class. -/
theorem decN_mark (k : Bool) (n : Nat) : ∀ {c : Int}, cls c ≠ 0 → ∀ y ∈ decN k n c, cls y = cls c := by
  induction n with
  | zero => intro c _ y hy; rw [List.mem_singleton.1 hy]
  | succ n ih =>
    intro c hc y hy
    by_cases h : next k c = []
    · rw [decN_stop k _ h] at hy; rw [List.mem_singleton.1 hy]
    · rw [decN_go k n h] at hy
      obtain ⟨z, hz, hy⟩ := List.mem_flatMap.1 hy
      have e := next_mark k hc z hz
      rw [ih (by omega) y hy, e]
theorem decAll_append (k : Bool) (a b : List Int) : decAll k (a ++ b) = decAll k a ++ decAll k b := by simp [decAll]
theorem decAll_cons (k : Bool) (c : Int) (s : List Int) : decAll k (c :: s) = dec k c ++ decAll k s := by simp [decAll]
theorem decAll_nil (k : Bool) : decAll k [] = [] := rfl
theorem decAll_stop (k : Bool) {s : List Int} (h : ∀ y ∈ s, next k y = []) : decAll k s = s := by
  induction s with
  | nil => rfl
  | cons c s ih => rw [decAll_cons, dec_stop k (h c List.mem_cons_self), ih (fun y hy => h y (List.mem_cons_of_mem _ hy))]; rfl
theorem decAll_done (k : Bool) {s : List Int} : ∀ y ∈ decAll k s, next k y = [] := by
  intro y hy
  obtain ⟨c, _, h⟩ := List.mem_flatMap.1 hy
  exact dec_done k c y h
theorem decAll_twice (k : Bool) (s : List Int) : decAll k (decAll k s) = decAll k s := decAll_stop k (decAll_done k)
theorem decAll_dec (k : Bool) (c : Int) : decAll k (dec k c) = dec k c := decAll_stop k (dec_done k c)
/-- What is taken apart wholly by both tables is so by the canonical one. -/
theorem next_less {c : Int} (h : next true c = []) : next false c = [] := by
  by_cases hs : split c = []
  · by_cases hc : canon c = []
    · rw [next_compat false hs hc]; rfl
    · rw [next_canon true hs hc] at h; exact absurd h hc
  · rw [next_split true hs] at h; exact absurd h hs

theorem next_same {c : Int} (h : next false c ≠ []) : next true c = next false c := by
  by_cases hs : split c = []
  · by_cases hc : canon c = []
    · exact absurd (next_compat false hs hc) h
    · rw [next_canon true hs hc, next_canon false hs hc]
  · rw [next_split true hs, next_split false hs]
theorem decAll_flat (k : Bool) {α : Type} (f : α → List Int) (l : List α) : decAll k (l.flatMap f) = l.flatMap (fun x => decAll k (f x)) := by
  induction l with
  | nil => rfl
  | cons x l ih => rw [List.flatMap_cons, decAll_append, ih, List.flatMap_cons]
theorem dec_both_lev (n : Nat) : ∀ {c : Int}, lev true n c = true → decAll true (dec false c) = dec true c := by
  induction n with
  | zero =>
    intro c h
    rw [dec_stop false (next_less (of_decide_eq_true h))]
    simp [decAll]
  | succ n ih =>
    intro c h
    by_cases e : next false c = []
    · rw [dec_stop false e]
      simp [decAll]
    · have e2 := next_same e
      rw [dec_go false e, decAll_flat, dec_go true (by rw [e2]; exact e), e2]
      refine flatMap_same fun y hy => ih (List.all_eq_true.1 h y (by rw [e2]; exact hy))
/-- Taken apart canonically, and then with the other table: as with both at once. -/
theorem dec_both (c : Int) : decAll true (dec false c) = dec true c := dec_both_lev 3 (lev_all true c)
theorem decAll_both (s : List Int) : decAll true (decAll false s) = decAll true s := by
  induction s with
  | nil => rfl
  | cons c s ih => rw [decAll_cons, decAll_append, dec_both, ih, decAll_cons]
theorem filter_decAll (k : Bool) (c : Int) (s : List Int) : (decAll k s).filter (zc c) = (decAll k (s.filter (zc c))).filter (zc c) := by
  induction s with
  | nil => rfl
  | cons x s ih =>
    rw [decAll_cons, List.filter_append, ih, List.filter_cons]
    by_cases q : zc c x = true
    · rw [if_pos q, decAll_cons, List.filter_append]
    · rw [if_neg q]
      have : (dec k x).filter (zc c) = [] := by
        rw [List.filter_eq_nil_iff]
        intro y hy
        unfold zc at q ⊢
        simp only [decide_eq_true_eq] at q ⊢
        have := decN_mark k 3 (by omega) y hy
        omega
      rw [this, List.nil_append]
theorem Eqv.dec (k : Bool) {s t : List Int} (h : Eqv s t) : Eqv (decAll k s) (decAll k t) := fun c => by rw [filter_decAll, h c, ← filter_decAll]

/-! ### what two make comes apart to what the two come apart to -/
theorem join_dec (k : Bool) {a b c : Int} (h : join a b = some c) : dec k c = dec k a ++ dec k b := by
  have hd : ∀ {c : Int}, 44032 ≤ c ∧ c < 55204 → dec k c = split c := fun {c} h => by
    have hn : next k c ≠ [] := by rw [next_split k (split_ne h)]; exact split_ne h
    rw [dec_go k hn, next_split k (split_ne h)]
    exact decAll_stop k (fun y hy => next_jamo k (split_jamo hy))
  unfold join at h
  split at h
  · rename_i q
    cases h
    have hc : 44032 ≤ 44032 + ((a - 4352) * 21 + b - 4449) * 28 ∧ 44032 + ((a - 4352) * 21 + b - 4449) * 28 < 55204 := by omega
    rw [hd hc, split_on hc, dec_stop k (next_jamo k (c := a) (by omega)), dec_stop k (next_jamo k (c := b) (by omega)), if_neg (by omega)]
    rw [show 4352 + (44032 + ((a - 4352) * 21 + b - 4449) * 28 - 44032) / 588 = a by omega, show 4449 + (44032 + ((a - 4352) * 21 + b - 4449) * 28 - 44032) / 28 % 21 = b by omega]
    rfl
  · split at h
    · rename_i q
      cases h
      have hc : 44032 ≤ a + b - 4519 ∧ a + b - 4519 < 55204 := by omega
      rw [hd hc, split_on hc, hd q.1, split_on q.1, dec_stop k (next_jamo k (c := b) (by omega)), if_pos (by omega), if_neg (by omega)]
      rw [show (a + b - 4519 - 44032) / 588 = (a - 44032) / 588 by omega, show (a + b - 4519 - 44032) / 28 % 21 = (a - 44032) / 28 % 21 by omega, show 4519 + (a + b - 4519 - 44032) % 28 = b by omega]
      rfl
    · cases h
theorem two_dec (k : Bool) {a b c : Int} (h : two a b = some c) : dec k c = dec k a ++ dec k b := by
  unfold two at h
  split at h
  · rename_i x e
    cases h
    exact join_dec k e
  · have e := of_decide_eq_true (List.all_eq_true.1 compT_canon _ (pairOf_mem a b _ h))
    have hs : split c = [] := by
      by_cases q : 44032 ≤ c ∧ c < 55204
      · rw [canon_off (.inr q)] at e; cases e
      · exact split_off q
    have hn : next k c = [a, b] := by rw [next_canon k hs (by rw [e]; simp), e]
    rw [dec_go k (by rw [hn]; simp), hn]
    simp

end Go.Proofs.Ytjolmhokeceljaa.Sob

namespace Go.Proofs.Ytjolmhokeceljaa.Sob

/-! ### composing -/
/-- What holds of the marks behind the last letter while numbers in order are composed. -/
structure CInv (t : CSt) (s : List Int) : Prop where
  nz : ∀ y ∈ t.2.2, cls y ≠ 0
  ord : inOrder (t.2.2 ++ s) = true
theorem inOrder_left {a b : List Int} (h : inOrder (a ++ b) = true) : inOrder a = true := by
  induction a with
  | nil => rfl
  | cons x a ih =>
    obtain ⟨h1, h2⟩ := (inOrder_cons x (a ++ b)).1 h
    refine (inOrder_cons x a).2 ⟨fun y hy => h1 y ?_, ih h2⟩
    cases a with
    | nil => cases hy
    | cons z a => exact hy
theorem inOrder_right {a b : List Int} (h : inOrder (a ++ b) = true) : inOrder b = true := by
  induction a with
  | nil => exact h
  | cons x a ih => exact ih (inOrder_tail h)
/-- Marks in order are no greater than the last one. -/
theorem order_last {m : List Int} {b : Int} (hm : inOrder m = true) (hz : ∀ y ∈ m, cls y ≠ 0) (hb : m.getLast? = some b) : ∀ y ∈ m, cls y ≤ cls b := by
  induction m with
  | nil => intro y hy; cases hy
  | cons x m ih =>
    intro y hy
    obtain ⟨h1, h2⟩ := (inOrder_cons x m).1 hm
    cases m with
    | nil =>
      simp at hb hy
      rw [hy, hb]
      exact Int.le_refl _
    | cons z m =>
      have hb' : (z :: m).getLast? = some b := by simpa [List.getLast?_cons_cons] using hb
      have := ih h2 (fun y hy => hz y (List.mem_cons_of_mem _ hy)) hb'
      rcases List.mem_cons.1 hy with rfl | hy
      · have h3 := this z List.mem_cons_self
        have h4 := h1 z rfl
        have h5 := hz z (List.mem_cons_of_mem _ List.mem_cons_self)
        omega
      · exact this y hy
theorem inOrder_skip {m s : List Int} {c : Int} (h : inOrder (m ++ c :: s) = true) (hc : ∀ b, m.getLast? = some b → cls b ≤ cls c) : inOrder (m ++ s) = true := by
  induction m with
  | nil => exact inOrder_tail h
  | cons x m ih =>
    obtain ⟨h1, h2⟩ := (inOrder_cons x (m ++ c :: s)).1 h
    cases m with
    | nil =>
      refine (inOrder_cons x s).2 ⟨fun y hy => ?_, inOrder_tail h2⟩
      have h3 := ((inOrder_cons c s).1 h2).1 y hy
      have h4 := hc x rfl
      omega
    | cons z m =>
      refine (inOrder_cons x (z :: m ++ s)).2 ⟨fun y hy => h1 y hy, ih h2 (fun b hb => hc b (by simpa [List.getLast?_cons_cons] using hb))⟩
theorem cpush_row (t : CSt) (c : Int) : crow (cpush t c) = crow t ++ [c] := by
  unfold cpush
  split
  · simp [crow]
  · simp [crow]
theorem cpush_inv {t : CSt} {c : Int} {s : List Int} (h : CInv t (c :: s)) : CInv (cpush t c) s := by
  unfold cpush
  split
  · exact ⟨fun y hy => (by cases hy), inOrder_tail (inOrder_right h.ord)⟩
  · rename_i q
    refine ⟨fun y hy => ?_, by simpa using h.ord⟩
    rcases List.mem_append.1 hy with hy | hy
    · exact h.nz y hy
    · rw [List.mem_singleton.1 hy]; exact q
theorem cstep_eqv (k : Bool) {t : CSt} {c : Int} {s : List Int} (h : CInv t (c :: s)) : CInv (cstep t c) s ∧ Eqv (decAll k (crow (cstep t c) ++ s)) (decAll k (crow t ++ c :: s)) := by
  have push : CInv (cpush t c) s ∧ Eqv (decAll k (crow (cpush t c) ++ s)) (decAll k (crow t ++ c :: s)) := ⟨cpush_inv h, Eqv.of_eq (by rw [cpush_row]; simp)⟩
  obtain ⟨p, o, m⟩ := t
  unfold cstep
  cases o with
  | none => exact push
  | some a =>
    simp only
    by_cases hb : blocked m (cls c) = true
    · rw [if_pos hb]; exact push
    rw [if_neg hb]
    cases h2 : two a c with
    | none => exact push
    | some n =>
      simp only
      have hlast : ∀ b, m.getLast? = some b → cls b ≠ 0 ∧ cls b < cls c := fun b hb' => by
        unfold blocked at hb
        rw [hb'] at hb
        simp at hb
        omega
      have hm : inOrder m = true := inOrder_left h.ord
      refine ⟨⟨h.nz, inOrder_skip h.ord (fun b hb' => by have := hlast b hb'; omega)⟩, ?_⟩
      have e1 : crow (p, some n, m) ++ s = p ++ (n :: (m ++ s)) := by simp [crow]
      have e2 : crow (p, some a, m) ++ c :: s = p ++ (a :: (m ++ c :: s)) := by simp [crow]
      rw [e1, e2]
      have e3 : decAll k (p ++ (n :: (m ++ s))) = decAll k (p ++ (a :: c :: (m ++ s))) := by
        rw [decAll_append, decAll_append, decAll_cons, decAll_cons, decAll_cons, two_dec k h2, List.append_assoc]
      rw [e3]
      refine Eqv.dec k (Eqv.append (Eqv.refl p) (Eqv.cons a ?_))
      cases hl : m.getLast? with
      | none =>
        rw [List.getLast?_eq_none_iff] at hl
        rw [hl]
        exact Eqv.refl _
      | some b =>
        obtain ⟨g1, g2⟩ := hlast b hl
        have := cls_nonneg b
        refine Eqv.move s (by omega) (fun y hy => ⟨h.nz y hy, ?_⟩)
        have := order_last hm h.nz hl y hy
        omega
theorem compose_fold (k : Bool) (s : List Int) : ∀ t : CSt, CInv t s → Eqv (decAll k (crow (s.foldl cstep t))) (decAll k (crow t ++ s)) := by
  induction s with
  | nil => intro t _; exact Eqv.of_eq (by simp)
  | cons c s ih =>
    intro t h
    obtain ⟨h1, h2⟩ := cstep_eqv k h
    exact (ih _ h1).trans h2
/-- Composing numbers in order leaves what they come apart to. -/
theorem compose_eqv (k : Bool) {s : List Int} (h : inOrder s = true) : Eqv (decAll k (compose s)) (decAll k s) := compose_fold k s ([], none, []) ⟨fun y hy => (by cases hy), h⟩
theorem cpush_len (t : CSt) (c : Int) : (crow (cpush t c)).length = (crow t).length + 1 := by rw [cpush_row]; simp
theorem cstep_len (t : CSt) (c : Int) : (crow (cstep t c)).length ≤ (crow t).length + 1 := by
  have := cpush_len t c
  obtain ⟨p, o, m⟩ := t
  unfold cstep
  cases o with
  | none => simp only; omega
  | some a =>
    simp only
    split
    · omega
    · split
      · simp [crow]
      · omega
theorem compose_fold_len (s : List Int) : ∀ t : CSt, (crow (s.foldl cstep t)).length ≤ (crow t).length + s.length := by
  induction s with
  | nil => intro t; simp
  | cons c s ih =>
    intro t
    have h1 := ih (cstep t c)
    have h2 := cstep_len t c
    simp only [List.foldl_cons, List.length_cons]
    omega
theorem compose_len (s : List Int) : (compose s).length ≤ s.length := by
  have := compose_fold_len s ([], none, [])
  have e : (crow ([], none, [])).length = 0 := rfl
  rw [e, Nat.zero_add] at this
  exact this
theorem cstep_mem {t : CSt} {c y : Int} (h : y ∈ crow (cstep t c)) : y ∈ crow t ∨ y = c ∨ ∃ a b, two a b = some y := by
  have push : y ∈ crow (cpush t c) → y ∈ crow t ∨ y = c ∨ ∃ a b, two a b = some y := fun h => by
    rw [cpush_row] at h
    rcases List.mem_append.1 h with h | h
    · exact .inl h
    · exact .inr (.inl (List.mem_singleton.1 h))
  obtain ⟨p, o, m⟩ := t
  unfold cstep at h
  cases o with
  | none => exact push h
  | some a =>
    simp only at h
    split at h
    · exact push h
    · split at h
      · rename_i n e
        simp only [crow, List.mem_append, Option.toList, List.mem_singleton] at h ⊢
        rcases h with h | h | h
        · exact .inl (.inl h)
        · exact .inr (.inr ⟨a, c, h ▸ e⟩)
        · exact .inl (.inr (.inr h))
      · exact push h
theorem compose_fold_mem (s : List Int) {y : Int} : ∀ t : CSt, y ∈ crow (s.foldl cstep t) → y ∈ crow t ∨ y ∈ s ∨ ∃ a b, two a b = some y := by
  induction s with
  | nil => intro t h; exact .inl h
  | cons c s ih =>
    intro t h
    rcases ih _ h with h | h | h
    · rcases cstep_mem h with h | h | h
      · exact .inl h
      · exact .inr (.inl (h ▸ List.mem_cons_self))
      · exact .inr (.inr h)
    · exact .inr (.inl (List.mem_cons_of_mem _ h))
    · exact .inr (.inr h)
theorem compose_mem {s : List Int} {y : Int} (h : y ∈ compose s) : y ∈ s ∨ ∃ a b, two a b = some y := by
  rcases compose_fold_mem s _ h with h | h
  · simp [crow] at h
  · exact h

/-! ### the forms -/
def apart (k : Bool) (s : List Int) : List Int := put (decAll k s)
def form (k : Bool) (s : List Int) : List Int := compose (apart k s)
theorem apart_order (k : Bool) (s : List Int) : inOrder (apart k s) = true := put_order _
theorem apart_done (k : Bool) (s : List Int) : ∀ y ∈ apart k s, next k y = [] := fun y hy => decAll_done k y (put_mem.1 hy)
theorem decAll_apart (k : Bool) (s : List Int) : decAll k (apart k s) = apart k s := decAll_stop k (apart_done k s)
theorem apart_apart (k : Bool) (s : List Int) : apart k (apart k s) = apart k s := by
  show put (decAll k (apart k s)) = _
  rw [decAll_apart]
  exact put_id (apart_order k s)
theorem apart_compose (k : Bool) {t : List Int} (h : inOrder t = true) : apart k (compose t) = apart k t := put_congr (compose_eqv k h)
theorem apart_put (k : Bool) (t : List Int) : apart k (put t) = apart k t := put_congr (Eqv.dec k (put_eqv t))
theorem apart_form (k : Bool) (s : List Int) : apart k (form k s) = apart k s := (apart_compose k (apart_order k s)).trans (apart_apart k s)
theorem form_form (k : Bool) (s : List Int) : form k (form k s) = form k s := by unfold form; rw [show apart k (compose (apart k s)) = apart k s from apart_form k s]
theorem form_apart (k : Bool) (s : List Int) : form k (apart k s) = form k s := by unfold form; rw [apart_apart]
theorem apart_chain (s : List Int) : apart true (apart false s) = apart true s := by
  show apart true (put (decAll false s)) = _
  rw [apart_put]
  show put (decAll true (decAll false s)) = _
  rw [decAll_both]
  rfl
theorem form_chain_apart (s : List Int) : form true (apart false s) = form true s := by unfold form; rw [apart_chain]
theorem form_chain (s : List Int) : form true (form false s) = form true s := by
  unfold form
  rw [apart_compose true (apart_order false s), apart_chain]
theorem form_canonical (s : List Int) : form false (form true s) = form true s := by
  unfold form
  rw [apart_compose false (apart_order true s)]
  have e : apart false (apart true s) = apart true s := by
    show put (decAll false (apart true s)) = _
    rw [decAll_stop false (fun y hy => next_less (apart_done true s y hy))]
    exact put_id (apart_order true s)
  rw [e]
theorem form_congr (k : Bool) {s t : List Int} (h : Eqv s t) : form k s = form k t := by
  unfold form apart
  rw [put_congr (Eqv.dec k h)]

end Go.Proofs.Ytjolmhokeceljaa.Sob

namespace Go.Proofs.Ytjolmhokeceljaa.Sob

/-! ### what is quick is its own form -/
/-- Nothing is done with it. -/
structure Calm (k : Bool) (c : Int) : Prop where
  nx : next k c = []
  cl : cls c = 0
  tw : ∀ a, two a c = none
theorem order_zero {s : List Int} (h : ∀ c ∈ s, cls c = 0) : inOrder s = true := by
  induction s with
  | nil => rfl
  | cons x s ih =>
    refine (inOrder_cons x s).2 ⟨fun b hb => .inl (h b ?_), ih (fun c hc => h c (List.mem_cons_of_mem _ hc))⟩
    cases s with
    | nil => cases hb
    | cons y s => simp at hb; subst hb; simp
theorem compose_calm (s : List Int) (h : ∀ c ∈ s, cls c = 0 ∧ ∀ a, two a c = none) : ∀ t : CSt, crow (s.foldl cstep t) = crow t ++ s := by
  induction s with
  | nil => intro t; simp
  | cons c s ih =>
    intro t
    obtain ⟨_, h2⟩ := h c List.mem_cons_self
    have e : crow (cstep t c) = crow t ++ [c] := by
      obtain ⟨p, o, m⟩ := t
      unfold cstep
      cases o with
      | none => exact cpush_row _ c
      | some a =>
        simp only
        split
        · exact cpush_row _ c
        · rw [h2 a]
          exact cpush_row _ c
    rw [List.foldl_cons, ih (fun d hd => h d (List.mem_cons_of_mem _ hd)), e]
    simp
theorem form_calm {k : Bool} {s : List Int} (h : ∀ c ∈ s, Calm k c) : form k s = s := by
  unfold form apart
  rw [decAll_stop k (fun y hy => (h y hy).nx), put_id (order_zero fun c hc => (h c hc).cl)]
  have := compose_calm s (fun c hc => ⟨(h c hc).cl, (h c hc).tw⟩) ([], none, [])
  simpa [compose, crow] using this

theorem pairOf_none (a b : Int) (L : List (Int × Int × Int)) (h : ∀ e ∈ L, ¬ (e.2.1 = a ∧ e.2.2 = b)) : pairOf a b L = none := by
  cases e : pairOf a b L with
  | none => rfl
  | some c => exact absurd ⟨rfl, rfl⟩ (h _ (pairOf_mem a b L e))
end Go.Proofs.Ytjolmhokeceljaa.Sob
