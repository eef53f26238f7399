/-
  The contract of the iterator of package fold: it goes through the foldings of all numbers, for every loop body that keeps what lay before and what is the iterator's own.
-/
import Derived.Test.YtjolmhokeceljaaIter
import Derived.Test.YtjolmhokeceljaaUfold
namespace Go.Proofs.Ytjolmhokeceljaa.Own
open Go.RowKit Go.Shelf Go.Proofs.YtjolmhokeceljaaW.PrintWords
attribute [local go_sem] Oper.semAt_some

theorem fold1_len (c : Int) : (Sob.fold1 c).length ≤ 8 := by
  unfold Sob.fold1
  have := fold_len c
  split
  · simp
  · exact this
theorem foldAll_len (s : List Int) : (Sob.foldAll s).length ≤ 8 * s.length := by
  induction s with
  | nil => simp [Sob.foldAll]
  | cons c s ih =>
    have := fold1_len c
    simp only [Sob.foldAll, List.flatMap_cons, List.length_append, List.length_cons] at ih ⊢
    omega
theorem foldAll_snoc (s : List Int) (c : Int) : Sob.foldAll (s ++ [c]) = Sob.foldAll s ++ Sob.fold1 c := by simp [Sob.foldAll]
theorem take_next (xs : List Int) (k : Nat) (h : k < xs.length) : xs.take (k + 1) = xs.take k ++ [xs[k]] := by
  rw [List.take_succ_eq_append_getElem h]

set_option maxRecDepth 100000 in
set_option maxHeartbeats 4000000 in
theorem folded1_in (n : Nat) (hn : 1 ≤ n) (l Bs Bo : Nat) (w0 : World) (A : Option Addr) (c : Nat) (xs : List Int) (hC : CI w0 A xs.length xs) (hlen : xs.length ≤ 1000000) (J Jx : List Int → World → Prop) (W : World) (hJ : AbidesFrom W.heap.size J) (hW : Below w0.heap.size w0 W) (hok : okO Bo W)
    (hY : ∀ pre x W1, J pre W1 → pre.length < 8 * xs.length → YieldAt Fence.wide (n - 1) Try.prog l #[.int .i64 x] W1 fun e W' =>
      (e = .returned (.bool true) ∧ J (pre ++ [x]) W' ∧ (Below w0.heap.size W1 W' ∧ KpO Bo W1 W')) ∨ (e = .returned (.bool false) ∧ Jx (pre ++ [x]) W'))
    (hBs : W.cell? ⟨Bs, 0, none⟩ = some (.slice A xs.length c)) (h0 : J [] W) :
    CallsIn Fence.wide n Try.prog 107 #[.func (.yield l) #[] #[], .pointer (some ⟨Bs, 0, none⟩)] W fun e W' => (∃ v, e = .returned v) ∧
      ((∃ ys, ys = Sob.foldAll xs ∧ J ys W') ∨ (∃ pre : List Int, True ∧ Jx pre W')) := by
  have HC := Aside0.mk hC
  clear hC
  refine callsIn_of_wp Try.func107 rfl trivial ?_ rfl
  simp only [Try.ntmps107, List.size_toArray, List.length_cons, List.length_nil, Nat.reduceAdd, Nat.reduceSub, Array.replicate_succ, Array.replicate_zero, List.push_toArray, List.append_toArray, List.nil_append, List.cons_append]
  gi_wp2
  gi_loopw [10] (fun i wr => ∃ k : Nat, k ≤ xs.length ∧ i = .int .i64 k ∧ J (Sob.foldAll (xs.take k)) wr ∧ Below w0.heap.size w0 wr ∧ okO Bo wr ∧ W.heap.size ≤ wr.heap.size)
    (fun i _ => xs.length - (intOf i).toNat)
  case atStart => exact ⟨0, Nat.zero_le _, rfl, h0, hW, hok, Nat.le_refl _⟩
  case round =>
    obtain ⟨k, hk, rfl, hJs, hnx, hokr, hszr⟩ := hrel
    by_cases hlt : k < xs.length
    · obtain ⟨ad, rfl, hcx⟩ := Kd.at_int HC.out (k : Int) (by omega) (by omega)
      replace hcx := (hnx.cell (World.block_lt_of_cell? w0 _ hcx)).trans hcx
      rw [Int.toNat_natCast] at hcx
      obtain ⟨x, hx⟩ : ∃ x, x = rd xs (k : Int) := ⟨_, rfl⟩
      rw [← hx] at hcx
      have hxk : xs[k] = x := by rw [hx]; simp [rd, List.getD_eq_getElem?_getD, hlt]
      have HX := Aside0.mk hxk
      clear hx hxk
      have hs0 := hnx.size
      have HJ := Aside0.mk hJs
      have HN := Aside0.mk hnx
      have HK := Aside0.mk hokr
      clear hJs hnx hokr
      obtain ⟨wo, rfl⟩ : ∃ wo : World, wo = wr := ⟨_, rfl⟩
      by_cases hnil : Sob.fold x = []
      · have HE := Aside0.mk hnil
        clear hnil
        gi_wp2_with (refine ⟨trivial, ?_⟩; gi_at_call 31; refine (callsIn_wide.2 (ucd_Fold.calls x (Sob.fold x) _ rfl)).mono ?_; rintro e w1 ⟨v1, rfl, hr1, hb1⟩; rw [HE.out] at hr1; obtain ⟨A1, c1, rfl⟩ := Kd.R_slice hr1; clear hr1; replace hb1 := Aside0.mk hb1; simp only [List.length_nil])
        obtain ⟨ys, hys⟩ : ∃ ys, ys = [x] := ⟨_, rfl⟩
        have HY : Aside0 (ys = Sob.fold1 x) := ⟨by rw [hys]; unfold Sob.fold1; rw [HE.out]⟩
        have HR1 : Aside0 (RI (w1.alloc (.cells #[.int .i64 x] 3)) wo.heap.size (.slice (some ⟨w1.heap.size, 0, none⟩) 1 1) ys) := ⟨by rw [hys]; exact RI.lit w1 wo.heap.size [x] hb1.out.size (by simp)⟩
        have HB1 : Aside0 (Below wo.heap.size wo (w1.alloc (.cells #[.int .i64 x] 3))) := ⟨hb1.out.alloc hb1.out.size _⟩
        have hysl : ys.length = 1 := by rw [hys]; rfl
        have hy1 : ys.length ≤ 1 := Nat.le_of_eq hysl
        have hy2 : 1 ≤ ys.length := Nat.le_of_eq hysl.symm
        clear hys hysl hb1
        have hlen2 := fold1_len x
        have HP : Aside0 (Sob.foldAll (xs.take (k + 1)) = Sob.foldAll (xs.take k) ++ ys) := ⟨by rw [take_next xs k hlt, foldAll_snoc, HX.out]; rw [← HY.out]⟩
        have hpl : (Sob.foldAll (xs.take k)).length ≤ 8 * k := by have := foldAll_len (xs.take k); rw [List.length_take] at this; omega
        rw [← HY.out] at hlen2
        clear HE HX hW hok hBs h0
        gi_loopw [23] (fun j wr => ∃ m : Nat, m ≤ ys.length ∧ j = .int .i64 m ∧ J (Sob.foldAll (xs.take k) ++ ys.take m) wr ∧ Below w0.heap.size w0 wr ∧ okO Bo wr ∧ RI wr wo.heap.size (.slice (some ⟨w1.heap.size, 0, none⟩) 1 1) ys ∧ Safe Bo wr (.slice (some ⟨w1.heap.size, 0, none⟩) 1 1) ∧ W.heap.size ≤ wr.heap.size)
          (fun j _ => ys.length - (intOf j).toNat)
        case atStart => exact ⟨0, Nat.zero_le _, rfl, by rw [List.take_zero, List.append_nil]; exact hJ _ _ _ none HJ.out (grown_of_below HB1.out none) (fun r e => by cases e), below_then HN.out hs0 HB1.out, HK.out.below HB1.out, HR1.out, RI.safe HK.out HB1.out HR1.out, Nat.le_trans hszr HB1.out.size⟩
        case round =>
          obtain ⟨m, hm, rfl, hJi, hni, hki, hri, hsi, hszi⟩ := hrel
          have HNI := Aside0.mk hni
          have HKI := Aside0.mk hki
          have HRI := Aside0.mk hri
          have HSI := Aside0.mk hsi
          have HJI := Aside0.mk hJi
          clear hni hki hri hsi hJi HB1 HR1
          by_cases hltm : m < ys.length
          · have hci := (Kd.R_reads' HRI.out).2.2
            obtain ⟨ad2, e2, hc2⟩ := Kd.at_int hci (m : Int) (by omega) (by omega)
            cases e2
            clear hci
            rw [Int.toNat_natCast] at hc2
            try rw [add_plain] at hc2
            obtain ⟨y, hy0⟩ : ∃ y, y = rd ys (m : Int) := ⟨_, rfl⟩
            rw [← hy0] at hc2
            have HY2 : Aside0 (ys.take (m + 1) = ys.take m ++ [y]) := ⟨by rw [take_next ys m hltm, hy0]; simp [rd, List.getD_eq_getElem?_getD, hltm]⟩
            clear hy0
            obtain ⟨fn, tmps, assign, body, hy, hR2⟩ := hY _ y wr HJI.out (by rw [List.length_append, List.length_take]; omega)
            gi_wp2
            refine hR2.mono ?_
            rintro e W3 (⟨rfl, hJ3, hk3, hk4⟩ | ⟨rfl, hJx3⟩)
            · have HJ3 := Aside0.mk hJ3
              have H3 := Aside0.mk hk3
              have H4 := Aside0.mk hk4
              clear hJ3 hk3 hk4
              gi_wp2
              go_roundw
              case rel => exact ⟨m + 1, by omega, by simp, by rw [HY2.out, ← List.append_assoc]; exact HJ3.out, HNI.out.trans H3.out, H4.out.ok HKI.out, (RI.keeps H4.out HSI.out HRI.out).1, (RI.keeps H4.out HSI.out HRI.out).2, Nat.le_trans hszi H4.out.1⟩
              case measure => simp [intOf]; omega
            · have HJx3 := Aside0.mk hJx3
              clear hJx3
              gi_wp2
              refine bodyPost_ret (results_none rfl _ _ _) rfl ?_
              exact ⟨⟨_, rfl⟩, .inr ⟨_, trivial, HJx3.out⟩⟩
          · have hmm : ys.take m = ys := List.take_of_length_le (by omega)
            have HJ4 : Aside0 (J (Sob.foldAll (xs.take (k + 1))) wr) := ⟨by rw [HP.out]; have := HJI.out; rwa [hmm] at this⟩
            clear hmm
            gi_wp2
            go_roundw
            case rel => exact ⟨k + 1, by omega, by simp, HJ4.out, HNI.out, HKI.out, hszi⟩
            case measure => simp [intOf]; omega
      · have HE := Aside0.mk hnil
        have hnl : ((Sob.fold x).length : Int) ≠ 0 := fun e => hnil (List.eq_nil_of_length_eq_zero (by omega))
        have hnb : (((Sob.fold x).length : Int) == 0) = false := beq_eq_false_iff_ne.2 hnl
        clear hnil hnl
        obtain ⟨ys, hys⟩ : ∃ ys, ys = Sob.fold x := ⟨_, rfl⟩
        rw [← hys] at hnb
        have HY : Aside0 (ys = Sob.fold1 x) := ⟨by rw [hys]; unfold Sob.fold1; split
                                                   · rename_i h; exact absurd h HE.out
                                                   · rfl⟩
        have HQ := Aside0.mk hys
        clear hys
        gi_wp2_with (refine ⟨trivial, ?_⟩; gi_at_call 31; refine (callsIn_wide.2 (ucd_Fold.calls x ys _ (by rw [HQ.out]; rfl))).mono ?_; rintro e w1 ⟨v1, rfl, hr1, hb1⟩; obtain ⟨A1, c1, rfl⟩ := Kd.R_slice hr1; have HR1 := Aside0.mk hr1; clear hr1; have HB1 := Aside0.mk hb1; clear hb1)
        have hlen2 := fold1_len x
        have HP : Aside0 (Sob.foldAll (xs.take (k + 1)) = Sob.foldAll (xs.take k) ++ ys) := ⟨by rw [take_next xs k hlt, foldAll_snoc, HX.out]; rw [← HY.out]⟩
        have hpl : (Sob.foldAll (xs.take k)).length ≤ 8 * k := by have := foldAll_len (xs.take k); rw [List.length_take] at this; omega
        rw [← HY.out] at hlen2
        clear HE HX hW hok hBs h0
        gi_loopw [23] (fun j wr => ∃ m : Nat, m ≤ ys.length ∧ j = .int .i64 m ∧ J (Sob.foldAll (xs.take k) ++ ys.take m) wr ∧ Below w0.heap.size w0 wr ∧ okO Bo wr ∧ RI wr wo.heap.size (.slice A1 ys.length c1) ys ∧ Safe Bo wr (.slice A1 ys.length c1) ∧ W.heap.size ≤ wr.heap.size)
          (fun j _ => ys.length - (intOf j).toNat)
        case atStart => exact ⟨0, Nat.zero_le _, rfl, by rw [List.take_zero, List.append_nil]; exact hJ _ _ _ none HJ.out (grown_of_below HB1.out none) (fun r e => by cases e), below_then HN.out hs0 HB1.out, HK.out.below HB1.out, HR1.out, RI.safe HK.out HB1.out HR1.out, Nat.le_trans hszr HB1.out.size⟩
        case round =>
          obtain ⟨m, hm, rfl, hJi, hni, hki, hri, hsi, hszi⟩ := hrel
          have HNI := Aside0.mk hni
          have HKI := Aside0.mk hki
          have HRI := Aside0.mk hri
          have HSI := Aside0.mk hsi
          have HJI := Aside0.mk hJi
          clear hni hki hri hsi hJi HB1 HR1
          by_cases hltm : m < ys.length
          · have hci := (Kd.R_reads' HRI.out).2.2
            obtain ⟨ad2, e2, hc2⟩ := Kd.at_int hci (m : Int) (by omega) (by omega)
            cases e2
            clear hci
            rw [Int.toNat_natCast] at hc2
            try rw [add_plain] at hc2
            obtain ⟨y, hy0⟩ : ∃ y, y = rd ys (m : Int) := ⟨_, rfl⟩
            rw [← hy0] at hc2
            have HY2 : Aside0 (ys.take (m + 1) = ys.take m ++ [y]) := ⟨by rw [take_next ys m hltm, hy0]; simp [rd, List.getD_eq_getElem?_getD, hltm]⟩
            clear hy0
            obtain ⟨fn, tmps, assign, body, hy, hR2⟩ := hY _ y wr HJI.out (by rw [List.length_append, List.length_take]; omega)
            gi_wp2
            refine hR2.mono ?_
            rintro e W3 (⟨rfl, hJ3, hk3, hk4⟩ | ⟨rfl, hJx3⟩)
            · have HJ3 := Aside0.mk hJ3
              have H3 := Aside0.mk hk3
              have H4 := Aside0.mk hk4
              clear hJ3 hk3 hk4
              gi_wp2
              go_roundw
              case rel => exact ⟨m + 1, by omega, by simp, by rw [HY2.out, ← List.append_assoc]; exact HJ3.out, HNI.out.trans H3.out, H4.out.ok HKI.out, (RI.keeps H4.out HSI.out HRI.out).1, (RI.keeps H4.out HSI.out HRI.out).2, Nat.le_trans hszi H4.out.1⟩
              case measure => simp [intOf]; omega
            · have HJx3 := Aside0.mk hJx3
              clear hJx3
              gi_wp2
              refine bodyPost_ret (results_none rfl _ _ _) rfl ?_
              exact ⟨⟨_, rfl⟩, .inr ⟨_, trivial, HJx3.out⟩⟩
          · have hmm : ys.take m = ys := List.take_of_length_le (by omega)
            have HJ4 : Aside0 (J (Sob.foldAll (xs.take (k + 1))) wr) := ⟨by rw [HP.out]; have := HJI.out; rwa [hmm] at this⟩
            clear hmm
            gi_wp2
            go_roundw
            case rel => exact ⟨k + 1, by omega, by simp, HJ4.out, HNI.out, HKI.out, hszi⟩
            case measure => simp [intOf]; omega
    · obtain rfl : k = xs.length := by omega
      gi_wp2
      go_end0
      exact ⟨⟨_, rfl⟩, .inl ⟨_, by rw [List.take_length], hJs⟩⟩

end Go.Proofs.Ytjolmhokeceljaa.Own
