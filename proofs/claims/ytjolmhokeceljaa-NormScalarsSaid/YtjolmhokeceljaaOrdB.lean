/-
  The contract of 'slices.symMergeCmpFunc' of ints by their classes where the second of the two parts is one number.
  The contract of 'slices.symMergeCmpFunc' of ints by their classes: what is left to do when the blocks to exchange are found.
  The contract of 'slices.symMergeCmpFunc' of ints by their classes: two neighbouring sorted parts of a row are merged in place, stably.
-/
import Derived.Test.YtjolmhokeceljaaOrdA
namespace Go.Proofs.Ytjolmhokeceljaa.Own
open Go.RowKit Go.Proofs.YtjolmhokeceljaaW.PrintWords Go.Proofs.YtjolmhokeceljaaW.PrintLast

set_option maxRecDepth 100000 in
set_option maxHeartbeats 8000000 in
theorem sym_right {w0 w : World} {g cap : Nat} (p u : List Int) (y : Int) (q : List Int) (o n c a m b : Nat) (ha : p.length = o + a) (hm : m = a + u.length) (hb : b = m + 1) (hn : b ≤ n) (hbig : n ≤ 100000000) (hu2 : 2 ≤ u.length) (hu : Sob.Ord u)
    (h : Row w0 w g cap (p ++ (u ++ ([y] ++ q)))) :
    Calls Try.prog 128 #[.slice (some ⟨g, o, none⟩) n c, .int .i64 a, .int .i64 m, .int .i64 b, .func (.func 88) #[] #[]] w fun e w' => e = .returned (.tuple #[]) ∧ Row w0 w' g cap (p ++ (Sob.srt (u ++ [y]) ++ q)) := by
  have hH := Aside0.mk h
  clear h
  obtain ⟨d, hd⟩ : ∃ d, d = u.length := ⟨_, rfl⟩
  have hd2 : 2 ≤ d := by omega
  have w1 : IntKind.i64.wrap ((m : Int) - a) = (d : Int) := wrap_nat _ _ (by omega) (by omega)
  have w2 : IntKind.i64.wrap ((b : Int) - m) = 1 := by rw [i64_w, hb]; unfold wrap64; omega
  have w3 : ((d : Int) == 1) = false := by simp; omega
  have HA := Aside0.mk ha
  have HB := Aside0.mk hb
  have HM := Aside0.mk hm
  have hbn : b ≤ n := hn
  have hmn : m < n := by omega
  clear ha hb hn hm hu2
  replace hd := Aside0.mk hd
  go_enter Try.func128, Try.ntmps128
  go_wp2
  clear w1 w2 w3
  go_loopw [14, 15] (fun vi vj wr => ∃ (i j : Nat), vi = .int .i64 i ∧ vj = .int .i64 j ∧ a ≤ i ∧ i ≤ j ∧ j ≤ m ∧ Aside0 ((∀ x ∈ u.take (i - a), Sob.cls x ≤ Sob.cls y) ∧ ∀ x ∈ u.drop (j - a), Sob.cls y < Sob.cls x) ∧ Aside0 (Row w0 wr g cap (p ++ (u ++ ([y] ++ q)))))
    (fun vi vj _ => (intOf vj).toNat - (intOf vi).toNat)
  case atStart => exact ⟨a, m, rfl, rfl, Nat.le_refl _, by have := HM.out; omega, Nat.le_refl _, ⟨⟨fun y hy => by simp at hy, fun y hy => by rw [List.drop_of_length_le (by have := HM.out; omega)] at hy; cases hy⟩⟩, hH⟩
  case round =>
    obtain ⟨i, j, rfl, rfl, hmi, hij, hjb, HS, HW⟩ := hrel
    by_cases hlt : i < j
    · obtain ⟨k, hk⟩ : ∃ k : Nat, k = (i + j) / 2 := ⟨_, rfl⟩
      have ek : ((i : Int) + j) / 2 = (k : Int) := by omega
      have hki : i ≤ k := by omega
      have hkj : k < j := by omega
      have hal := HA.out
      have hml := HM.out
      obtain ⟨X, hX⟩ : ∃ X, X = u.getD (k - a) 0 := ⟨_, rfl⟩
      have hku : k - a < u.length := by omega
      obtain ⟨cB, fB⟩ := HW.out.mid_ hku (i := o + k) (by omega)
      rw [← hX] at cB
      have hW2 : Row w0 wr g cap ((p ++ u) ++ y :: q) := by simpa using HW.out
      obtain ⟨cA, fA⟩ := hW2.at_ (i := o + m) (by rw [List.length_append]; omega)
      have hkn : k < n := by omega
      have HK := Aside0.mk (And.intro hk hX)
      clear hk hX hal hml hW2 hku
      go_wp2
      refine wp_region_still_tail 9 (by kernel_rfl) (by kernel_rfl) ?_
      simp only [List.take_succ_cons, List.take_zero, List.drop_succ_cons, List.drop_zero]
      repeat still_step
      refine wpStill_nil ?_
      change wpList _ _ _ _ _ wr.drew
      have HW3 := Aside0.mk HW.out.drew
      clear cA cB fA fB HW
      generalize wr.drew = w2 at HW3 ⊢
      go_wp2_with (go_at_call 88; refine (cmp_any _ _ _).mono ?_; rintro e w3 ⟨rfl, hb3⟩; replace HW3 := Aside0.mk (HW3.out.below hb3); clear hb3)
      · have hge : ¬ cmp3 (Sob.cls y) (Sob.cls X) < 0 := by
          have hq : (!decide (cmp3 (Sob.cls y) (Sob.cls X) < 0)) = true := by assumption
          simpa using hq
        have hxy : Sob.cls X ≤ Sob.cls y := by rw [cmp3_lt] at hge; omega
        go_roundw
        case rel =>
          refine ⟨k + 1, j, by go_num, rfl, by omega, by omega, hjb, ⟨⟨fun x hx => ?_, HS.out.2⟩⟩, HW3⟩
          obtain ⟨t, ht1, ht2, rfl⟩ := Sob.mem_take_get hx
          have := Sob.ord_get hu (i := t) (j := k - a) (by omega) (by have := HM.out; omega)
          rw [← HK.out.2] at this
          omega
        case measure => simp [intOf]; omega
      · have hlt2 : cmp3 (Sob.cls y) (Sob.cls X) < 0 := by
          have hq : (!decide (cmp3 (Sob.cls y) (Sob.cls X) < 0)) = false := by assumption
          simpa using hq
        have hyx : Sob.cls y < Sob.cls X := by rwa [cmp3_lt] at hlt2
        go_roundw
        case rel =>
          refine ⟨i, k, rfl, rfl, hmi, by omega, by omega, ⟨⟨HS.out.1, fun x hx => ?_⟩⟩, HW3⟩
          obtain ⟨t, ht1, ht2, rfl⟩ := Sob.mem_drop_get hx
          have := Sob.ord_get hu (i := k - a) (j := t) ht1 ht2
          rw [← HK.out.2] at this
          omega
        case measure => simp [intOf]; omega
    · obtain rfl : i = j := by omega
      have hml := HM.out
      obtain ⟨u1, hu1⟩ : ∃ u1, u1 = u.take (i - a) := ⟨_, rfl⟩
      obtain ⟨u2, hu2⟩ : ∃ u2, u2 = u.drop (i - a) := ⟨_, rfl⟩
      have huu : u = u1 ++ u2 := by rw [hu1, hu2, List.take_append_drop]
      have hl1 : u1.length = i - a := by rw [hu1, List.length_take]; omega
      have hl2 : u2.length = m - i := by rw [hu2, List.length_drop]; omega
      have hs1 := HS.out.1
      have hs2 := HS.out.2
      rw [← hu1] at hs1
      rw [← hu2] at hs2
      have HF := Aside0.mk (Sob.merge_right hs1 hs2 (huu ▸ hu))
      have hr := HW.out
      rw [huu] at hr
      have HR := Aside0.mk hr
      have HV := Aside0.mk huu
      have HL := Aside0.mk (And.intro hl1 hl2)
      clear hs1 hs2 hr huu hl1 hl2 HW HS hml hu1 hu2
      go_wp2
      go_loopw [17] (fun vk wr2 => ∃ k : Nat, vk = .int .i64 k ∧ i ≤ k ∧ k ≤ m ∧ Aside0 (Row w0 wr2 g cap (p ++ (u1 ++ (u2.take (k - i) ++ y :: (u2.drop (k - i) ++ q))))))
        (fun vk _ => (intOf vk).toNat)
      case atStart =>
        refine ⟨m, rfl, hjb, Nat.le_refl _, ⟨?_⟩⟩
        have := HR.out
        have h2 := HL.out.2
        rw [List.take_of_length_le (by omega), List.drop_of_length_le (by omega)]
        simpa using this
      case round =>
        obtain ⟨k, rfl, hak, hki, HW⟩ := hrel
        by_cases hlt : i < k
        · have hl1 := HL.out.1
          have hl2 := HL.out.2
          have hal := HA.out
          obtain ⟨t, ht⟩ : ∃ t, k - i = t + 1 := ⟨k - i - 1, by omega⟩
          have htl : t < u2.length := by omega
          obtain ⟨Z, hZ⟩ : ∃ Z, Z = u2[t] := ⟨_, rfl⟩
          have ed : u2.drop t = Z :: u2.drop (t + 1) := by rw [List.drop_eq_getElem_cons htl, hZ]
          have et : u2.take (t + 1) = u2.take t ++ [Z] := by rw [List.take_succ_eq_append_getElem htl, hZ]
          have el : (u2.take t).length = t := by rw [List.length_take]; omega
          have hW2 : Row w0 wr g cap ((p ++ (u1 ++ u2.take t)) ++ Z :: ([] ++ y :: (u2.drop (t + 1) ++ q))) := by
            have := HW.out
            rw [ht, et] at this
            simpa using this
          have la : (p ++ (u1 ++ u2.take t)).length = o + (k - 1) := by rw [List.length_append, List.length_append, el]; omega
          have lb : (p ++ (u1 ++ u2.take t)).length + 1 + ([] : List Int).length = o + k := by rw [la, List.length_nil]; omega
          obtain ⟨cA, fA⟩ := hW2.at_ la
          obtain ⟨cB, fB⟩ := hW2.at2_ lb
          obtain ⟨cC, fC⟩ := (hW2.set2 lb Z).at_ la
          have hkn : k < n := by omega
          have hkn1 : k - 1 < n := by omega
          have w4 : IntKind.i64.wrap ((k : Int) - 1) = ((k - 1 : Nat) : Int) := wrap_nat _ _ (by omega) (by omega)
          have HW2 := Aside0.mk hW2
          have LA := Aside0.mk la
          have LB := Aside0.mk lb
          have HT := Aside0.mk (And.intro ht ed)
          clear hW2 la lb ht et el ed hZ HW hl1 hl2 hal htl
          go_wp2
          go_region
          all_goals go_wp2
          go_roundw
          case rel =>
            refine ⟨k - 1, by go_num, by omega, by omega, ⟨?_⟩⟩
            have := ((HW2.out.set2 LB.out Z).set1 LA.out y).drew
            have h1 := HT.out.1
            have h2 := HT.out.2
            rw [show k - 1 - i = t by omega, h2]
            simpa using this
          case measure => simp [intOf]; omega
        · have hk2 : k = i := by omega
          have e := HW.out
          rw [show k - i = 0 by omega, List.take_zero, List.drop_zero, List.nil_append] at e
          have e2 : p ++ (u1 ++ y :: (u2 ++ q)) = p ++ ((u1 ++ y :: u2) ++ q) := by simp
          rw [e2, HF.out, ← HV.out] at e
          have HE := Aside0.mk e
          clear e e2 HW
          go_wp2
          refine bodyPost_ret (results_none rfl _ _ _) rfl ?_
          exact ⟨rfl, HE.out⟩

end Go.Proofs.Ytjolmhokeceljaa.Own

namespace Go.Proofs.Ytjolmhokeceljaa.Own
open Go.RowKit Go.Proofs.YtjolmhokeceljaaW.PrintWords Go.Proofs.YtjolmhokeceljaaW.PrintLast
set_option linter.unusedVariables false

/-- The contract for parts of at most N numbers. -/
def SymOK (N : Nat) : Prop := ∀ {w0 w : World} {g cap : Nat} (p u v q : List Int) (o n c a m b : Nat), b - a ≤ N → p.length = o + a → m = a + u.length → b = m + v.length → b ≤ n → n ≤ 100000000 → u ≠ [] → v ≠ [] → Sob.Ord u → Sob.Ord v →
    Row w0 w g cap (p ++ (u ++ (v ++ q))) →
    Calls Try.prog 128 #[.slice (some ⟨g, o, none⟩) n c, .int .i64 a, .int .i64 m, .int .i64 b, .func (.func 88) #[] #[]] w fun e w' => e = .returned (.tuple #[]) ∧ Row w0 w' g cap (p ++ (Sob.srt (u ++ v) ++ q))
set_option maxHeartbeats 8000000 in
/-- What is left to do when the search has ended at i: three calls, each of them only where both of its parts hold something. -/
theorem sym_tail {N : Nat} (ih : SymOK N) {w0 wr : World} {g cap : Nat} (p u v q : List Int) (o n c a m b mid S lo hi i e : Nat) (x1 : p.length = o + a) (x5 : S = mid + m) (x8 : b - a ≤ N + 1) (hbn : b ≤ n) (hbig : n ≤ 100000000) (ham : a < m) (hmb : m < b) (hu : Sob.Ord u) (hv : Sob.Ord v)
    (HC : Sob.SymAt u v a m b mid lo hi) (hli : lo ≤ i) (hjh : i ≤ hi) (he : e = S - i)
    (H1 : ∀ c, lo ≤ c → c < i → Sob.cls ((u ++ v).getD (c - a) 0) ≤ Sob.cls ((u ++ v).getD (mid + m - 1 - c - a) 0)) (H2 : ∀ c, i ≤ c → c < hi → Sob.cls ((u ++ v).getD (mid + m - 1 - c - a) 0) < Sob.cls ((u ++ v).getD (c - a) 0))
    (HW : Row w0 wr g cap (p ++ (u ++ (v ++ q)))) :
    ∃ L0 L1 L2 : List Int, Row w0 wr g cap L0 ∧
      (i < m ∧ m < e → ∀ W, Row w0 W g cap L0 → Calls Try.prog 132 #[.slice (some ⟨g, o, none⟩) n c, .int .i64 i, .int .i64 m, .int .i64 e, .func (.func 88) #[] #[]] W fun r w' => r = .returned (.tuple #[]) ∧ Row w0 w' g cap L1) ∧
      (a < i ∧ i < mid → ∀ W, Row w0 W g cap L1 → Calls Try.prog 128 #[.slice (some ⟨g, o, none⟩) n c, .int .i64 a, .int .i64 i, .int .i64 mid, .func (.func 88) #[] #[]] W fun r w' => r = .returned (.tuple #[]) ∧ Row w0 w' g cap L2) ∧
      (mid < e ∧ e < b → ∀ W, Row w0 W g cap L2 → Calls Try.prog 128 #[.slice (some ⟨g, o, none⟩) n c, .int .i64 mid, .int .i64 e, .int .i64 b, .func (.func 88) #[] #[]] W fun r w' => r = .returned (.tuple #[]) ∧ Row w0 w' g cap (p ++ (Sob.srt (u ++ v) ++ q))) ∧
      (¬ (i < m ∧ m < e) → L0 = L1) ∧ (¬ (a < i ∧ i < mid) → L1 = L2) ∧ (¬ (mid < e ∧ e < b) → L2 = p ++ (Sob.srt (u ++ v) ++ q)) := by
  obtain ⟨g1, g2⟩ := HC.found hu hv ham hmb hli hjh H1 H2
  obtain ⟨c1, c2, c3, c4⟩ := HC
  obtain ⟨u1, hu1⟩ : ∃ z, z = u.take (i - a) := ⟨_, rfl⟩
  obtain ⟨u2, hu2⟩ : ∃ z, z = u.drop (i - a) := ⟨_, rfl⟩
  obtain ⟨v1, hv1⟩ : ∃ z, z = v.take (mid - i) := ⟨_, rfl⟩
  obtain ⟨v2, hv2⟩ : ∃ z, z = v.drop (mid - i) := ⟨_, rfl⟩
  have huu : u = u1 ++ u2 := by rw [hu1, hu2, List.take_append_drop]
  have hvv : v = v1 ++ v2 := by rw [hv1, hv2, List.take_append_drop]
  have lu1 : u1.length = i - a := by rw [hu1, List.length_take]; omega
  have lu2 : u2.length = m - i := by rw [hu2, List.length_drop]; omega
  have lv1 : v1.length = mid - i := by rw [hv1, List.length_take]; omega
  have lv2 : v2.length = b - e := by rw [hv2, List.length_drop]; omega
  rw [← hu1, ← hv2] at g1
  rw [← hv1, ← hu2] at g2
  have hui : Sob.Ord (u1 ++ u2) := huu ▸ hu
  have hvi : Sob.Ord (v1 ++ v2) := hvv ▸ hv
  have HF := Sob.merge_parts hui hvi g1 g2
  obtain ⟨ou1, ou2, _⟩ := Sob.ord_append.1 hui
  obtain ⟨ov1, ov2, _⟩ := Sob.ord_append.1 hvi
  have hai : a ≤ i := by omega
  have him : i ≤ m := by omega
  have hime : i ≤ mid := by omega
  have hme : mid ≤ e := by omega
  have hmle : m ≤ e := by omega
  have heb : e ≤ b := by omega
  have hlen : (u1 ++ v1).length = mid - a := by rw [List.length_append, lu1, lv1]; omega
  -- the three calls
  have ROT : i < m ∧ m < e → ∀ W, Row w0 W g cap (p ++ (u1 ++ (u2 ++ (v1 ++ (v2 ++ q))))) → Calls Try.prog 132 #[.slice (some ⟨g, o, none⟩) n c, .int .i64 i, .int .i64 m, .int .i64 e, .func (.func 88) #[] #[]] W fun r w' => r = .returned (.tuple #[]) ∧ Row w0 w' g cap (p ++ (u1 ++ (v1 ++ (u2 ++ (v2 ++ q))))) := fun hc W hW => by
    have := rotate (p ++ u1) u2 v1 (v2 ++ q) o n c i m e (.func (.func 88) #[] #[]) (by rw [List.length_append]; omega) (by omega) (by omega) (by omega) (by intro z; rw [z] at lu2; simp at lu2; omega) (by intro z; rw [z] at lv1; simp at lv1; omega) hbig (w0 := w0) (w := W) (g := g) (cap := cap) (by simpa using hW)
    refine this.mono fun r w' hr => ⟨hr.1, by simpa using hr.2⟩
  have LEFT : a < i ∧ i < mid → ∀ W, Row w0 W g cap (p ++ (u1 ++ (v1 ++ (u2 ++ (v2 ++ q))))) → Calls Try.prog 128 #[.slice (some ⟨g, o, none⟩) n c, .int .i64 a, .int .i64 i, .int .i64 mid, .func (.func 88) #[] #[]] W fun r w' => r = .returned (.tuple #[]) ∧ Row w0 w' g cap (p ++ (Sob.srt (u1 ++ v1) ++ (u2 ++ (v2 ++ q)))) := fun hc W hW =>
    ih p u1 v1 (u2 ++ (v2 ++ q)) o n c a i mid (by omega) x1 (by omega) (by omega) (by omega) hbig (by intro z; rw [z] at lu1; simp at lu1; omega) (by intro z; rw [z] at lv1; simp at lv1; omega) ou1 ov1 hW
  have RIGHT : mid < e ∧ e < b → ∀ W, Row w0 W g cap (p ++ (Sob.srt (u1 ++ v1) ++ (u2 ++ (v2 ++ q)))) → Calls Try.prog 128 #[.slice (some ⟨g, o, none⟩) n c, .int .i64 mid, .int .i64 e, .int .i64 b, .func (.func 88) #[] #[]] W fun r w' => r = .returned (.tuple #[]) ∧ Row w0 w' g cap (p ++ (Sob.srt (u1 ++ v1) ++ (Sob.srt (u2 ++ v2) ++ q))) := fun hc W hW => by
    have := ih (p ++ Sob.srt (u1 ++ v1)) u2 v2 q o n c mid e b (by omega) (by rw [List.length_append, Sob.srt_len, hlen]; omega) (by omega) (by omega) (by omega) hbig (by intro z; rw [z] at lu2; simp at lu2; omega) (by intro z; rw [z] at lv2; simp at lv2; omega) ou2 ov2 (w0 := w0) (w := W) (g := g) (cap := cap) (by simpa using hW)
    refine this.mono fun r w' hr => ⟨hr.1, by simpa using hr.2⟩
  have e01 : ¬ (i < m ∧ m < e) → u1 ++ (u2 ++ (v1 ++ (v2 ++ q))) = u1 ++ (v1 ++ (u2 ++ (v2 ++ q))) := fun hc => by
    by_cases z : i < m
    · have : v1 = [] := List.eq_nil_of_length_eq_zero (by omega)
      rw [this]; simp
    · have : u2 = [] := List.eq_nil_of_length_eq_zero (by omega)
      rw [this]; simp
  have e12 : ¬ (a < i ∧ i < mid) → u1 ++ (v1 ++ (u2 ++ (v2 ++ q))) = Sob.srt (u1 ++ v1) ++ (u2 ++ (v2 ++ q)) := fun hc => by
    have : Sob.srt (u1 ++ v1) = u1 ++ v1 := Sob.srt_id (by
      by_cases z : a < i
      · have : v1 = [] := List.eq_nil_of_length_eq_zero (by omega)
        rw [this]; simpa using ou1
      · have : u1 = [] := List.eq_nil_of_length_eq_zero (by omega)
        rw [this]; simpa using ov1)
    rw [this]; simp
  have e23 : ¬ (mid < e ∧ e < b) → u2 ++ (v2 ++ q) = Sob.srt (u2 ++ v2) ++ q := fun hc => by
    have : Sob.srt (u2 ++ v2) = u2 ++ v2 := Sob.srt_id (by
      by_cases z : mid < e
      · have : v2 = [] := List.eq_nil_of_length_eq_zero (by omega)
        rw [this]; simpa using ou2
      · have : u2 = [] := List.eq_nil_of_length_eq_zero (by omega)
        rw [this]; simpa using ov2)
    rw [this]; simp
  have fin : ∀ W, Row w0 W g cap (p ++ (Sob.srt (u1 ++ v1) ++ (Sob.srt (u2 ++ v2) ++ q))) → Row w0 W g cap (p ++ (Sob.srt (u ++ v) ++ q)) := fun W hW => by
    rw [huu, hvv, ← HF]
    simpa using hW
  have hr := HW
  rw [huu, hvv] at hr
  have hr2 : Row w0 wr g cap (p ++ (u1 ++ (u2 ++ (v1 ++ (v2 ++ q))))) := by simpa using hr
  refine ⟨_, _, _, hr2, ROT, LEFT, fun hc W hW => (RIGHT hc W hW).mono fun r w' hq => ⟨hq.1, fin _ hq.2⟩, fun hc => by rw [e01 hc], fun hc => by rw [e12 hc], fun hc => ?_⟩
  rw [e23 hc, huu, hvv, ← HF]
  simp

end Go.Proofs.Ytjolmhokeceljaa.Own

namespace Go.Proofs.Ytjolmhokeceljaa.Own
open Go.RowKit Go.Proofs.YtjolmhokeceljaaW.PrintWords Go.Proofs.YtjolmhokeceljaaW.PrintLast
set_option linter.unusedVariables false

set_option maxRecDepth 100000 in
set_option maxHeartbeats 16000000 in
theorem sym_merge : ∀ N, SymOK N := by
  intro N
  induction N with
  | zero =>
    intro w0 w g cap p u v q o n c a m b hN ha hm hb hn hbig hu0 hv0 hu hv h
    have := List.length_pos_iff.2 hu0
    omega
  | succ N ih =>
    intro w0 w g cap p u v q o n c a m b hN ha hm hb hn hbig hu0 hv0 hu hv h
    have lu := List.length_pos_iff.2 hu0
    have lv := List.length_pos_iff.2 hv0
    by_cases hu1 : u.length = 1
    · obtain ⟨x, rfl⟩ := List.length_eq_one_iff.1 hu1
      have e : m = a + 1 := hm
      subst e
      exact sym_left p x v q o n c a b ha hb hn hbig hv h
    by_cases hv1 : v.length = 1
    · obtain ⟨y, rfl⟩ := List.length_eq_one_iff.1 hv1
      exact sym_right p u y q o n c a m b ha hm hb hn hbig (by omega) hu h
    have hH := Aside0.mk h
    clear h
    obtain ⟨mid, hmid⟩ : ∃ mid, mid = (a + b) / 2 := ⟨_, rfl⟩
    obtain ⟨S, hS⟩ : ∃ S, S = mid + m := ⟨_, rfl⟩
    obtain ⟨d1, hd1⟩ : ∃ d, d = u.length := ⟨_, rfl⟩
    obtain ⟨d2, hd2⟩ : ∃ d, d = v.length := ⟨_, rfl⟩
    have w1 : IntKind.i64.wrap ((m : Int) - a) = (d1 : Int) := wrap_nat _ _ (by omega) (by omega)
    have w2 : IntKind.i64.wrap ((b : Int) - m) = (d2 : Int) := wrap_nat _ _ (by omega) (by omega)
    have w3 : ((d1 : Int) == 1) = false := by simp; omega
    have w4 : ((d2 : Int) == 1) = false := by simp; omega
    have w5 : ((a : Int) + b) / 2 = (mid : Int) := by omega
    have w6 : (mid : Int) + m = (S : Int) := by omega
    have w7 : IntKind.i64.wrap ((S : Int) - 1) = ((S - 1 : Nat) : Int) := wrap_nat _ _ (by omega) (by omega)
    have HX := Aside0.mk (show p.length = o + a ∧ m = a + u.length ∧ b = m + v.length ∧ mid = (a + b) / 2 ∧ S = mid + m ∧ 2 ≤ u.length ∧ 2 ≤ v.length ∧ b - a ≤ N + 1 from ⟨ha, hm, hb, hmid, hS, by omega, by omega, hN⟩)
    have hbn : b ≤ n := hn
    have ham : a < m := by omega
    have hmb : m < b := by omega
    have hmidb : mid ≤ b := by omega
    replace ih := Aside0.mk @ih
    clear ha hm hb hn hmid hS hd1 hd2 lu lv hu1 hv1 hN hu0 hv0
    go_enter Try.func128, Try.ntmps128
    go_upto_if 140 with (fail)
    go_cut [20, 21] (fun v20 v21 wc => ∃ lo hi : Nat, v20 = .int .i64 lo ∧ v21 = .int .i64 hi ∧ Aside0 (Sob.SymAt u v a m b mid lo hi) ∧ Aside0 (Row w0 wc g cap (p ++ (u ++ (v ++ q)))))
    case first => as_aux_lemma =>
      by_cases hmm : mid < m
      · have w8 : IntKind.i64.wrap ((S : Int) - b) = ((S - b : Nat) : Int) := by
          obtain ⟨h1, h2, h3, h4, h5, h6, h7, h8⟩ := HX.out
          exact wrap_nat _ _ (by omega) (by omega)
        go_wp2
        go_meet
        case rel =>
          obtain ⟨h1, h2, h3, h4, h5, h6, h7, h8⟩ := HX.out
          exact ⟨S - b, mid, rfl, rfl, ⟨⟨h2, h3, h4, .inl ⟨hmm, by omega, rfl⟩⟩⟩, hH⟩
      · go_wp2
        go_meet
        case rel =>
          obtain ⟨h1, h2, h3, h4, h5, h6, h7, h8⟩ := HX.out
          exact ⟨a, m, rfl, rfl, ⟨⟨h2, h3, h4, .inr ⟨by omega, rfl, rfl⟩⟩⟩, hH⟩
    case rest =>
      obtain ⟨lo, hi, rfl, rfl, HC, HR⟩ := hcut
      clear w1 w2 w3 w4 w5 w6 hH
      have hlohi : lo ≤ hi := by
        obtain ⟨h1, h2, h3, h4⟩ := HC.out
        omega
      have hhib : hi ≤ b := by
        obtain ⟨h1, h2, h3, h4⟩ := HC.out
        omega
      go_wp2
      go_loopw [20, 21] (fun vi vj wr => ∃ (i j : Nat), vi = .int .i64 i ∧ vj = .int .i64 j ∧ lo ≤ i ∧ i ≤ j ∧ j ≤ hi ∧
        Aside0 (∀ c, lo ≤ c → c < i → Sob.cls ((u ++ v).getD (c - a) 0) ≤ Sob.cls ((u ++ v).getD (mid + m - 1 - c - a) 0)) ∧
        Aside0 (∀ c, j ≤ c → c < hi → Sob.cls ((u ++ v).getD (mid + m - 1 - c - a) 0) < Sob.cls ((u ++ v).getD (c - a) 0)) ∧ Aside0 (Row w0 wr g cap (p ++ (u ++ (v ++ q)))))
        (fun vi vj _ => (intOf vj).toNat - (intOf vi).toNat)
      case atStart => exact ⟨lo, hi, rfl, rfl, Nat.le_refl _, hlohi, Nat.le_refl _, ⟨fun c h1 h2 => by omega⟩, ⟨fun c h1 h2 => by omega⟩, HR⟩
      case round =>
        obtain ⟨i, j, rfl, rfl, hli, hij, hjh, H1, H2, HW⟩ := hrel
        by_cases hlt : i < j
        · as_aux_lemma =>
          obtain ⟨k, hk⟩ : ∃ k : Nat, k = (i + j) / 2 := ⟨_, rfl⟩
          have ek : ((i : Int) + j) / 2 = (k : Int) := by omega
          have hki : i ≤ k := by omega
          have hkj : k < j := by omega
          obtain ⟨l1, l2, l3⟩ := HC.out.left (c := k) (by omega) (by omega) ham hmb
          obtain ⟨r1, r2, r3⟩ := HC.out.right (c := k) (by omega) (by omega) ham hmb
          obtain ⟨x1, x2, x3, x4, x5, x6, x7, x8⟩ := HX.out
          obtain ⟨t, ht⟩ : ∃ t, t = S - 1 - k := ⟨_, rfl⟩
          have wt : IntKind.i64.wrap (((S - 1 : Nat) : Int) - k) = (t : Int) := wrap_nat _ _ (by omega) (by omega)
          obtain ⟨X, hX⟩ : ∃ X, X = (u ++ v).getD (k - a) 0 := ⟨_, rfl⟩
          obtain ⟨Y, hY⟩ : ∃ Y, Y = (u ++ v).getD (mid + m - 1 - k - a) 0 := ⟨_, rfl⟩
          obtain ⟨cA, fA⟩ := HW.out.mid_ l2 (i := o + k) (by omega)
          have hW2 : Row w0 wr g cap ((p ++ u) ++ (v ++ q)) := by simpa using HW.out
          obtain ⟨cB, fB⟩ := hW2.mid_ r2 (i := o + t) (by rw [List.length_append]; omega)
          rw [← l3, ← hX] at cA
          rw [← r3, ← hY] at cB
          have hkn : k < n := by omega
          have htn : t < n := by omega
          have HK := Aside0.mk (And.intro hX hY)
          clear hk hX hY hW2 l1 l2 l3 r1 r2 r3 x1 x2 x3 x4 x5 x6 x7 x8 ht
          go_wp2
          refine wp_region_still_tail 11 (by kernel_rfl) (by kernel_rfl) ?_
          simp only [List.take_succ_cons, List.take_zero, List.drop_succ_cons, List.drop_zero]
          repeat still_step
          refine wpStill_nil ?_
          change wpList _ _ _ _ _ wr.drew
          have HW3 := Aside0.mk HW.out.drew
          clear cA cB fA fB HW
          generalize wr.drew = w2 at HW3 ⊢
          go_wp2_with (go_at_call 88; refine (cmp_any _ _ _).mono ?_; rintro e w3 ⟨rfl, hb3⟩; replace HW3 := Aside0.mk (HW3.out.below hb3); clear hb3)
          · have hge : ¬ cmp3 (Sob.cls Y) (Sob.cls X) < 0 := by
              have hq : (!decide (cmp3 (Sob.cls Y) (Sob.cls X) < 0)) = true := by assumption
              simpa using hq
            have hxy : Sob.cls X ≤ Sob.cls Y := by rw [cmp3_lt] at hge; omega
            go_roundw
            case rel =>
              refine ⟨k + 1, j, by go_num, rfl, by omega, by omega, hjh, ⟨fun d h1 h2 => ?_⟩, H2, HW3⟩
              rw [HK.out.1, HK.out.2] at hxy
              exact HC.out.low hu hv ham hmb (by omega) (by omega) hxy h1 (by omega)
            case measure => simp [intOf]; omega
          · have hlt2 : cmp3 (Sob.cls Y) (Sob.cls X) < 0 := by
              have hq : (!decide (cmp3 (Sob.cls Y) (Sob.cls X) < 0)) = false := by assumption
              simpa using hq
            have hyx : Sob.cls Y < Sob.cls X := by rwa [cmp3_lt] at hlt2
            go_roundw
            case rel =>
              refine ⟨i, k, rfl, rfl, hli, by omega, by omega, H1, ⟨fun d h1 h2 => ?_⟩, HW3⟩
              rw [HK.out.1, HK.out.2] at hyx
              exact HC.out.high hu hv ham hmb (by omega) (by omega) hyx h1 h2
            case measure => simp [intOf]; omega
        · obtain rfl : i = j := by omega
          obtain ⟨x1, x2, x3, x4, x5, x6, x7, x8⟩ := HX.out
          obtain ⟨c1, c2, c3, c4⟩ := HC.out
          obtain ⟨e, he⟩ : ∃ e, e = S - i := ⟨_, rfl⟩
          have we : IntKind.i64.wrap ((S : Int) - i) = (e : Int) := wrap_nat _ _ (by omega) (by omega)
          have hen : e ≤ n := by omega
          obtain ⟨L0, L1, L2, hr, ROT, LEFT, RIGHT, e01, e12, e23⟩ := sym_tail ih.out p u v q o n c a m b mid S lo hi i e x1 x5 x8 hbn hbig ham hmb hu hv HC.out hli hjh he H1.out H2.out HW.out
          obtain ⟨F, hF⟩ : ∃ F, F = p ++ (Sob.srt (u ++ v) ++ q) := ⟨_, rfl⟩
          rw [← hF] at RIGHT e23
          have HR := Aside0.mk hr
          have HF := Aside0.mk hF
          replace ROT := Aside0.mk ROT
          replace LEFT := Aside0.mk LEFT
          replace RIGHT := Aside0.mk RIGHT
          replace e01 := Aside0.mk e01
          replace e12 := Aside0.mk e12
          replace e23 := Aside0.mk e23
          clear hr hF HW H1 H2 HC x1 x2 x3 x4 x5 x6 x7 x8 c1 c2 c3 c4 he hli hjh hlohi hhib ih hu hv
          go_upto_region 39 with (fail)
          go_cut [185] (fun v185 wc => v185 = .bool (decide (i < m ∧ m < e)) ∧ Aside0 (Row w0 wc g cap L0))
          case first => as_aux_lemma =>
            by_cases q1 : i < m
            · by_cases q2 : m < e
              · go_wp2
                go_meet
                case rel => exact ⟨by simp [q1, q2], HR⟩
              · go_wp2
                go_meet
                case rel => exact ⟨by simp [q2], HR⟩
            · go_wp2
              go_meet
              case rel => exact ⟨by simp [q1], HR⟩
          case rest =>
          clear HR
          obtain ⟨rfl, HR⟩ := hcut
          go_upto_if 185 with (fail)
          go_cut [24] (fun v24 wc => v24 = .int .i64 e ∧ Aside0 (Row w0 wc g cap L1))
          case first => as_aux_lemma =>
            by_cases c1 : i < m ∧ m < e
            · have hd : decide (i < m ∧ m < e) = true := decide_eq_true c1
              go_wp2_with (go_at_call 132; refine (ROT.out c1 _ HR.out).mono ?_; rintro r w5 ⟨rfl, h5⟩; replace HR := Aside0.mk h5; clear h5)
              go_meet
              case rel => exact ⟨rfl, HR⟩
            · have hd : decide (i < m ∧ m < e) = false := decide_eq_false c1
              go_wp2
              go_meet
              case rel => exact ⟨rfl, by rw [← e01.out c1]; exact HR⟩
          case rest =>
          clear HR
          obtain ⟨rfl, HR⟩ := hcut
          go_upto_region 41 with (fail)
          go_cut [199] (fun v199 wc => v199 = .bool (decide (a < i ∧ i < mid)) ∧ Aside0 (Row w0 wc g cap L1))
          case first => as_aux_lemma =>
            by_cases q1 : a < i
            · by_cases q2 : i < mid
              · go_wp2
                go_meet
                case rel => exact ⟨by simp [q1, q2], HR⟩
              · go_wp2
                go_meet
                case rel => exact ⟨by simp [q2], HR⟩
            · go_wp2
              go_meet
              case rel => exact ⟨by simp [q1], HR⟩
          case rest =>
          clear HR
          obtain ⟨rfl, HR⟩ := hcut
          go_upto_if 199 with (fail)
          go_cut [24] (fun v24 wc => v24 = .int .i64 e ∧ Aside0 (Row w0 wc g cap L2))
          case first => as_aux_lemma =>
            by_cases c1 : a < i ∧ i < mid
            · have hd : decide (a < i ∧ i < mid) = true := decide_eq_true c1
              go_wp2_with (go_at_call 128; refine (LEFT.out c1 _ HR.out).mono ?_; rintro r w5 ⟨rfl, h5⟩; replace HR := Aside0.mk h5; clear h5)
              go_meet
              case rel => exact ⟨rfl, HR⟩
            · have hd : decide (a < i ∧ i < mid) = false := decide_eq_false c1
              go_wp2
              go_meet
              case rel => exact ⟨rfl, by rw [← e12.out c1]; exact HR⟩
          case rest =>
          clear HR
          obtain ⟨rfl, HR⟩ := hcut
          go_upto_region 43 with (fail)
          go_cut [213] (fun v213 wc => v213 = .bool (decide (mid < e ∧ e < b)) ∧ Aside0 (Row w0 wc g cap L2))
          case first => as_aux_lemma =>
            by_cases q1 : mid < e
            · by_cases q2 : e < b
              · go_wp2
                go_meet
                case rel => exact ⟨by simp [q1, q2], HR⟩
              · go_wp2
                go_meet
                case rel => exact ⟨by simp [q2], HR⟩
            · go_wp2
              go_meet
              case rel => exact ⟨by simp [q1], HR⟩
          case rest =>
          clear HR
          obtain ⟨rfl, HR⟩ := hcut
          by_cases c1 : mid < e ∧ e < b
          · have hd : decide (mid < e ∧ e < b) = true := decide_eq_true c1
            go_wp2_with (go_at_call 128; refine (RIGHT.out c1 _ HR.out).mono ?_; rintro r w5 ⟨rfl, h5⟩; replace HR := Aside0.mk h5; clear h5)
            go_end0
            exact ⟨rfl, by rw [← HF.out]; exact HR.out⟩
          · have hd : decide (mid < e ∧ e < b) = false := decide_eq_false c1
            have HF2 := Aside0.mk (e23.out c1)
            go_wp2
            go_end0
            exact ⟨rfl, by rw [← HF.out, ← HF2.out]; exact HR.out⟩

end Go.Proofs.Ytjolmhokeceljaa.Own
