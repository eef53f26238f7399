/-
  The contracts of 'slices.Grow' of nil and of 'slices.Concat' of rows of ints: new memory with all rows, one behind the other.
-/
import Derived.Test.YtjolmhokeceljaaCls
namespace Go.Proofs.Ytjolmhokeceljaa.Own
open Go.RowKit Go.Proofs.YtjolmhokeceljaaW.PrintWords Go.Proofs.YtjolmhokeceljaaW.PrintLast
set_option linter.unusedVariables false

set_option maxRecDepth 100000 in
set_option maxHeartbeats 4000000 in
theorem grow_nil (n : Nat) (w : World) (hn : n ≤ 1000000) :
    Calls Try.prog 126 #[.slice none 0 0, .int .i64 n] w fun e w' => ∃ v, e = .returned v ∧ RI w' w.heap.size v [] ∧ Below w.heap.size w w' := by
  go_enter Try.func126, Try.ntmps126
  rcases Nat.eq_zero_or_pos n with rfl | h0
  · go_wp2
    go_ret
    exact ⟨_, rfl, Kd.R_nil _ _ _ _ _, Below.refl _ _⟩
  · have h1 : (0 : Int) < (n : Int) := by omega
    go_wp2_with (at_builtin; refine Kd.R_append_zeros (Kd.int .i64) (w0 := w) w.heap.size rfl (.tmp 20) (.tmp 21) 22 3 3 (.int .i64 0) 8 rfl Try.underlying22 Try.underlying3 infoInt rfl ?a1 ?a2 (.slice none 0 0) [] 0 (n : Int) (fun _ => True) rfl rfl ?aZ (fun _ _ => trivial) (Kd.R_nil _ _ _ _ _) ?a3 (Below.refl _ _) (Nat.le_refl _) ?aL ?_; (case a1 => decide); (case a2 => decide); (case aZ => rfl); (case a3 => omega); (case aL => simp; omega); intro v1 w1 hr hb _ _; obtain ⟨A1, c1, rfl⟩ := Kd.R_slice hr; replace hr := Aside0.mk hr; replace hb := Aside0.mk hb; simp only [List.nil_append, List.length_replicate, Int.toNat_natCast])
    go_ret
    have h2 := Kd.R_take (m := 0) hr.out (Nat.zero_le _)
    exact ⟨_, rfl, by simpa using h2, hb.out⟩

/-- Rows that lie one behind the other in a block. -/
def RowsAt (w : World) (g o : Nat) (rows : List (List Int)) : Prop :=
  ∀ j, j < rows.length → ∃ A c, w.cell? ⟨g, o + j, none⟩ = some (.slice A (rows.getD j []).length c) ∧ CI w A (rows.getD j []).length (rows.getD j [])
theorem RowsAt.below {w w1 : World} {g o : Nat} {rows : List (List Int)} (h : RowsAt w g o rows) (hb : Below w.heap.size w w1) : RowsAt w1 g o rows := fun j hj => by
  obtain ⟨A, c, h1, h2⟩ := h j hj
  exact ⟨A, c, (hb.cell (World.block_lt_of_cell? w _ h1)).trans h1, Kd.C_below h2 hb⟩
theorem flat_take {rows : List (List Int)} {k : Nat} (h : k < rows.length) : (rows.take (k + 1)).flatten = (rows.take k).flatten ++ rows.getD k [] := by
  rw [List.take_succ_eq_append_getElem h, List.flatten_append]
  simp [List.getD_eq_getElem?_getD, h]
theorem flat_len {rows : List (List Int)} (k : Nat) : (rows.take k).flatten.length ≤ rows.flatten.length := by
  have := congrArg (fun l => (List.flatten l).length) (List.take_append_drop k rows)
  simp only [List.flatten_append, List.length_append] at this
  omega

set_option maxRecDepth 100000 in
set_option maxHeartbeats 4000000 in
theorem concat_any (rows : List (List Int)) (A : Option Addr) (c : Nat) (w : World) (hA : rows = [] ∨ ∃ g o, A = some ⟨g, o, none⟩ ∧ RowsAt w g o rows) (hl : rows.length ≤ 1000000) (hlen : rows.flatten.length ≤ 1000000) :
    Calls Try.prog 106 #[.slice A rows.length c] w fun e w' => ∃ v, e = .returned v ∧ RI w' w.heap.size v rows.flatten ∧ Below w.heap.size w w' := by
  have HA := Aside0.mk hA
  clear hA
  obtain ⟨n, hn⟩ : ∃ n, n = rows.length := ⟨_, rfl⟩
  rw [← hn]
  have HN := Aside0.mk hn
  rw [← hn] at hl
  clear hn
  go_enter Try.func106, Try.ntmps106
  go_wp2
  go_loopw [3, 11] (fun v3 v11 wr => ∃ k : Nat, k ≤ n ∧ v11 = .int .i64 k ∧ v3 = .int .i64 ((rows.take k).flatten.length : Nat) ∧ Aside0 (Below w.heap.size w wr)) (fun _ v _ => n - (intOf v).toNat)
  case atStart => exact ⟨0, Nat.zero_le _, rfl, rfl, ⟨Below.refl _ _⟩⟩
  case round =>
    obtain ⟨k, hk, rfl, rfl, HB⟩ := hrel
    by_cases hlt : k < n
    · obtain ⟨g, o, rfl, hR⟩ : ∃ g o, A = some ⟨g, o, none⟩ ∧ RowsAt w g o rows := by
        rcases HA.out with h | h
        · have := HN.out; rw [h] at this; simp at this; omega
        · exact h
      obtain ⟨A1, c1, hc, _⟩ := (hR.below HB.out) k (by have := HN.out; omega)
      have hf := flat_take (rows := rows) (k := k) (by have := HN.out; omega)
      have hfl := flat_len (rows := rows) (k + 1)
      obtain ⟨a, ha⟩ : ∃ a, a = (rows.take k).flatten.length := ⟨_, rfl⟩
      obtain ⟨b, hb⟩ : ∃ b, b = (rows.getD k []).length := ⟨_, rfl⟩
      have hs : (rows.take (k + 1)).flatten.length = a + b := by rw [hf, List.length_append, ← ha, ← hb]
      rw [← ha]
      rw [← hb] at hc
      have hab : a + b ≤ 1000000 := by omega
      have hpos : ¬ ((a : Int) + b < 0) := by omega
      have HS := Aside0.mk hs
      clear hf hfl ha hb hs hR
      go_wp2
      go_roundw
      case rel => exact ⟨k + 1, by omega, by go_num, by rw [HS.out]; go_num, HB⟩
      case measure => simp [intOf]; omega
    · obtain rfl : k = n := by omega
      have hfull : (rows.take k).flatten = rows.flatten := by rw [List.take_of_length_le (by have := HN.out; omega)]
      rw [hfull]
      obtain ⟨m, hm⟩ : ∃ m, m = rows.flatten.length := ⟨_, rfl⟩
      rw [← hm] at hlen ⊢
      have HM := Aside0.mk hm
      clear hfull hm
      go_wp2_with (go_at_call 126; refine (grow_nil m _ hlen).mono ?_; rintro e w1 ⟨v1, rfl, hr1, hb1⟩; replace hr1 := Aside0.mk hr1; replace hb1 := Aside0.mk hb1)
      have hB1 := Aside0.mk (below_then HB.out HB.out.size hb1.out)
      have hR1 := Aside0.mk (Kd.R_lower hr1.out HB.out.size)
      clear hr1 hb1
      go_loopw [6, 27] (fun v6 v27 wr => ∃ i : Nat, i ≤ k ∧ v27 = .int .i64 i ∧ Aside0 (RI wr w.heap.size v6 (rows.take i).flatten) ∧ Aside0 (Below w.heap.size w wr)) (fun _ v _ => k - (intOf v).toNat)
      case atStart => exact ⟨0, Nat.zero_le _, rfl, hR1, hB1⟩
      case round =>
        obtain ⟨i, hi, rfl, HR, HQ⟩ := hrel
        by_cases hlt2 : i < k
        · obtain ⟨g, o, rfl, hR⟩ : ∃ g o, A = some ⟨g, o, none⟩ ∧ RowsAt w g o rows := by
            rcases HA.out with h | h
            · have := HN.out; rw [h] at this; simp at this; omega
            · exact h
          obtain ⟨A1, c1, hc, hci⟩ := (hR.below HQ.out) i (by have := HN.out; omega)
          have hf := flat_take (rows := rows) (k := i) (by have := HN.out; omega)
          have hfl := flat_len (rows := rows) (i + 1)
          have hll : (rows.take i).flatten.length + (rows.getD i []).length ≤ 17592186044416 := by
            rw [← List.length_append, ← hf]; have := HM.out; omega
          have HF := Aside0.mk hf
          have HCI := Aside0.mk hci
          have HLL := Aside0.mk hll
          obtain ⟨row, hrow⟩ : ∃ row, row = rows.getD i [] := ⟨_, rfl⟩
          rw [← hrow] at hc HF HCI HLL
          clear hf hfl hll hci hR hrow
          go_wp2_with (at_builtin; refine appRow (w0 := w) w.heap.size rfl (.tmp 31) (.tmp 32) rfl Try.underlying22 infoInt _ (rows.take i).flatten row A1 row.length c1 rfl rfl HR.out HCI.out HQ.out ?a1 ?a2 ?_; (case a1 => exact HQ.out.size); (case a2 => exact HLL.out); intro v1 w1 h1 h2 _ _; replace h1 := Aside0.mk h1; replace h2 := Aside0.mk h2)
          go_roundw
          case rel => exact ⟨i + 1, by omega, by go_num, ⟨by rw [HF.out]; exact h1.out⟩, h2⟩
          case measure => simp [intOf]; omega
        · obtain rfl : i = k := by omega
          have hfull : (rows.take i).flatten = rows.flatten := by rw [List.take_of_length_le (by have := HN.out; omega)]
          have hR := HR.out
          rw [hfull] at hR
          have HR2 := Aside0.mk hR
          clear hR HR hfull
          go_wp2
          go_ret
          exact ⟨_, rfl, HR2.out, HQ.out⟩

end Go.Proofs.Ytjolmhokeceljaa.Own
