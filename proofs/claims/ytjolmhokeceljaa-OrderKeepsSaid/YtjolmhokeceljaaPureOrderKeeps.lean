/-
  The pure statement of OrderKeeps is proved: for all lists of at most 200 numbers Put leaves each number of class 0 at its place and, in each run between them, the numbers of each class in their order.
-/
import Derived.Test.YtjolmhokeceljaaLo2
import Derived.Test.YtjolmhokeceljaaSob
namespace Go.Proofs.Ytjolmhokeceljaa.Pure
open Go.RowKit Go.Proofs.Ytjolmhokeceljaa.Own Go.Proofs.Ytjolmhokeceljaa.Lo Go.Proofs.YtjolmhokeceljaaW.PrintWords Go.Proofs.YtjolmhokeceljaaW.PrintLast

theorem keeps_wakes : sobriquetlaw09_wakes.f = some true := by kernel_rfl
theorem keeps_put (l : List Int) (h : l.length ≤ 1000000) : order_Put.f l = some (Sob.put l) := if_pos h
theorem of_loop (a : Int) (xs : List Int) (hx : xs.length ≤ 1000000) (d : Nat) : ∀ (k i : Nat) (acc : List Int), i + d = xs.length → d < k → acc.length ≤ i → sobriquetlaw09_of.l0 k xs a acc (i : Int) = some (acc ++ (xs.drop i).filter (fun x => decide (Sob.cls x = a))) := by
  induction d with
  | zero =>
    intro k i acc hi hk _
    obtain ⟨k, rfl⟩ : ∃ m, k = m + 1 := ⟨k - 1, by omega⟩
    simp only [sobriquetlaw09_of.l0]
    rw [if_neg (by omega), List.drop_of_length_le (by omega)]
    simp
  | succ d ih =>
    intro k i acc hi hk ha
    obtain ⟨k, rfl⟩ : ∃ m, k = m + 1 := ⟨k - 1, by omega⟩
    have hlt : i < xs.length := by omega
    simp only [sobriquetlaw09_of.l0]
    rw [if_pos (by omega), if_pos (by omega), rd_nat xs i hlt, List.drop_eq_getElem_cons hlt, List.filter_cons]
    unfold ucd_Class.f
    rw [Option.bind_some, wrap_in _ (by omega) (by omega), show ((i : Int) + 1) = ((i + 1 : Nat) : Int) by omega]
    by_cases e : Sob.cls xs[i] = a
    · rw [if_pos e, if_pos (by omega), if_pos (decide_eq_true e), ih k (i + 1) _ (by omega) (by omega) (by rw [List.length_append, List.length_singleton]; omega)]
      simp
    · rw [if_neg e, if_neg (by simpa using e), ih k (i + 1) _ (by omega) (by omega) (by omega)]
theorem of_eq (a : Int) (xs : List Int) (k : Nat) (hx : xs.length ≤ 1000000) (hk : xs.length < k) : sobriquetlaw09_of.f k xs a = some (xs.filter (fun x => decide (Sob.cls x = a))) := by
  have := of_loop a xs hx xs.length k 0 [] (by omega) hk (by simp)
  simpa [sobriquetlaw09_of.f] using this

/-- The inner loop: each class of the run. -/
theorem run_loop (s x D D' R T X : List Int) (hs : s = D ++ (R ++ T)) (hx : x = D' ++ (Sob.srt R ++ X)) (hD : D'.length = D.length) (hl : s.length ≤ 200) (hlx : x.length = s.length) (d : Nat) :
    ∀ (k j : Nat), D.length ≤ j → j + d = D.length + R.length → 300 ≤ k →
      sobriquetlaw09_OrderKeeps.l1 (k + d + 1) s x (D.length : Int) ((D.length + R.length : Nat) : Int) (j : Int) = sobriquetlaw09_OrderKeeps.l0 k s x (wrap64 (((D.length + R.length : Nat) : Int) + 1)) (wrap64 (((D.length + R.length : Nat) : Int) + 1)) := by
  have hsl : D.length + R.length ≤ s.length := by rw [hs]; simp only [List.length_append]; omega
  have es : ((s.take (D.length + R.length)).drop D.length) = R := by
    rw [hs, ← List.append_assoc, List.take_left' (by simp), List.drop_left' rfl]
  have ex : ((x.take (D.length + R.length)).drop D.length) = Sob.srt R := by
    rw [hx, ← List.append_assoc, List.take_left' (by simp [Sob.srt_len, hD]), List.drop_left' hD]
  induction d with
  | zero =>
    intro k j _ hj _
    simp only [sobriquetlaw09_OrderKeeps.l1]
    rw [if_neg (by omega)]
  | succ d ih =>
    intro k j hj0 hj hk
    have hjs : j < s.length := by omega
    show sobriquetlaw09_OrderKeeps.l1 ((k + (d + 1)) + 1) s x (D.length : Int) ((D.length + R.length : Nat) : Int) (j : Int) = _
    rw [sobriquetlaw09_OrderKeeps.l1]
    rw [if_pos (by omega), if_pos (by omega), if_pos (by omega)]
    unfold ucd_Class.f
    have z : sobriquetkeep_Ints.f (R.filter (fun x => decide (Sob.cls x = Sob.cls (rd s j)))) ((Sob.srt R).filter (fun x => decide (Sob.cls x = Sob.cls (rd s j)))) = some true := by
      unfold sobriquetkeep_Ints.f
      rw [Sob.srt_sim R, decide_eq_true rfl]
    rw [Option.bind_some, if_pos (by omega), if_pos (by omega), if_pos (by omega), Int.toNat_natCast, Int.toNat_natCast, es, of_eq _ R _ (by omega) (by omega), Option.bind_some, if_pos (by omega), ex, of_eq _ (Sob.srt R) _ (by rw [Sob.srt_len]; omega) (by rw [Sob.srt_len]; omega), Option.bind_some, z, Option.bind_some, if_pos rfl,
      wrap_in _ (by omega) (by omega), show ((j : Int) + 1) = ((j + 1 : Nat) : Int) by omega]
    exact ih k (j + 1) (by omega) (by omega) hk

/-- The outer loop: the runs. -/
theorem keeps_loop (s x : List Int) (hl : s.length ≤ 200) (hlx : x.length = s.length) (n : Nat) :
    ∀ (D D' R T : List Int) (k : Nat), s = D ++ (R ++ T) → x = D' ++ Sob.put (R ++ T) → D'.length = D.length → (∀ y ∈ R, Sob.cls y ≠ 0) → T.length + 1 = n → 300 + 6 * n + 2 * R.length ≤ k →
      sobriquetlaw09_OrderKeeps.l0 k s x (D.length : Int) ((D.length + R.length : Nat) : Int) = some true := by
  induction n with
  | zero => intro D D' R T k _ _ _ _ h; omega
  | succ n ih =>
    intro D D' R T k hs hx hD hR hn hk
    have hsl : D.length + R.length + T.length = s.length := by rw [hs]; simp only [List.length_append]; omega
    obtain ⟨k, rfl⟩ : ∃ m, k = m + 1 := ⟨k - 1, by omega⟩
    rw [sobriquetlaw09_OrderKeeps.l0, if_pos (by omega)]
    -- a run has ended
    have fin : ∀ (T' : List Int), T' = T.drop 1 → (Sob.Zh T) → ∀ k, 300 + 6 * n + 2 * R.length + 4 ≤ k → sobriquetlaw09_OrderKeeps.j2 k s x (D.length : Int) ((D.length + R.length : Nat) : Int) false = some true := by
      intro T' hT' hz k hk
      rw [Sob.put_run hR hz] at hx
      obtain ⟨k, rfl⟩ : ∃ m, k = m + R.length + 1 + 1 := ⟨k - R.length - 2, by omega⟩
      rw [sobriquetlaw09_OrderKeeps.j2, if_neg (by simp), run_loop s x D D' R T (Sob.put T) hs hx hD hl hlx R.length k D.length (Nat.le_refl _) rfl (by omega), wrap_in _ (by omega) (by omega), show (((D.length + R.length : Nat) : Int) + 1) = ((D.length + R.length + 1 : Nat) : Int) by omega]
      cases T with
      | nil =>
        obtain ⟨k, rfl⟩ : ∃ m, k = m + 1 := ⟨k - 1, by omega⟩
        simp only [List.length_nil] at hsl
        rw [sobriquetlaw09_OrderKeeps.l0, if_neg (by omega), keeps_wakes]
        rfl
      | cons c T =>
        have hc := hz c rfl
        rw [Sob.put_zero hc] at hx
        have := ih (D ++ (R ++ [c])) (D' ++ (Sob.srt R ++ [c])) [] T k (by rw [hs]; simp) (by rw [hx]; simp) (by simp [Sob.srt_len, hD]) (fun y hy => by cases hy) (by simp only [List.length_cons] at hn; omega) (by simp only [List.length_nil]; omega)
        have e : (D ++ (R ++ [c])).length = D.length + R.length + 1 := by simp only [List.length_append, List.length_singleton]; omega
        rw [e] at this
        exact this
    cases T with
    | nil =>
      simp only [List.length_nil] at hsl
      rw [if_neg (by omega)]
      obtain ⟨k, rfl⟩ : ∃ m, k = m + 1 := ⟨k - 1, by omega⟩
      rw [sobriquetlaw09_OrderKeeps.j1, if_neg (by simp), if_neg (by omega)]
      exact fin [] rfl (fun b hb => by cases hb) k (by omega)
    | cons c T =>
      simp only [List.length_cons] at hsl hn
      have hlt : D.length + R.length < s.length := by omega
      have es : rd s ((D.length + R.length : Nat) : Int) = c := by
        rw [rd_nat _ _ hlt]
        have e2 : s = (D ++ R) ++ c :: T := by rw [hs]; simp
        simp only [e2]
        rw [List.getElem_append_right (by simp)]
        simp
      rw [if_pos (by omega), if_pos (by omega), es]
      unfold ucd_Class.f
      rw [Option.bind_some]
      obtain ⟨k, rfl⟩ : ∃ m, k = m + 1 := ⟨k - 1, by omega⟩
      by_cases hc : Sob.cls c = 0
      · have hz : Sob.Zh (c :: T) := fun b hb => by simp at hb; rw [← hb]; exact hc
        have ex : rd x ((D.length + R.length : Nat) : Int) = c := by
          rw [rd_nat _ _ (by omega)]
          rw [Sob.put_run hR hz, Sob.put_zero hc] at hx
          have e2 : x = (D' ++ Sob.srt R) ++ c :: Sob.put T := by rw [hx]; simp
          simp only [e2]
          rw [List.getElem_append_right (by simp [Sob.srt_len, hD])]
          simp [Sob.srt_len, hD]
        rw [hc, show ((0 : Int) != 0) = false from rfl, sobriquetlaw09_OrderKeeps.j1, if_neg (by simp), if_pos (by omega), if_pos (by omega), if_pos (by omega), es, ex, show (c != c) = false by simp]
        exact fin T rfl hz k (by omega)
      · rw [show (Sob.cls c != 0) = true by simpa using hc, sobriquetlaw09_OrderKeeps.j1, if_pos rfl, wrap_in _ (by omega) (by omega)]
        have := ih D D' (R ++ [c]) T k (by rw [hs]; simp) (by rw [hx]; simp) hD (fun y hy => by
          rcases List.mem_append.1 hy with hy | hy
          · exact hR y hy
          · rw [List.mem_singleton.1 hy]; exact hc) (by omega) (by rw [List.length_append, List.length_singleton]; omega)
        rw [List.length_append, List.length_singleton] at this
        exact this

theorem OrderKeeps : sobriquetlaw09_OrderKeeps.Pure := by
  intro s _ _ _
  refine ⟨5000, ?_⟩
  unfold sobriquetlaw09_OrderKeeps.f
  by_cases h0 : (s.length : Int) > 200
  · rw [if_pos h0]
  rw [if_neg h0, keeps_put s (by omega), Option.bind_some, if_pos (by rw [Sob.put_len])]
  exact keeps_loop s (Sob.put s) (by omega) (Sob.put_len s) (s.length + 1) [] [] [] s 5000 rfl rfl rfl (fun y hy => by cases hy) rfl (by simp only [List.length_nil]; omega)

end Go.Proofs.Ytjolmhokeceljaa.Pure
