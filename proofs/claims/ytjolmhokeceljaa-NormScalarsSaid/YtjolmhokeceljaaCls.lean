/-
  The contracts of 'ucd.mapped', of 'ucd.found' over maps with it, and of 'slices.Clone' of ints.
  The contract of 'slices.Clone' of ints: new memory with the same numbers (nil for nil), for at most 1000000 numbers.
  The contracts of 'sobriquetkeep.Ints' (are two lists of ints the same) and 'sobriquetkeep.TwinInts' (a copy), by pure words.
  The contracts of the functions of ucd that look a number up in ranges, of 'ucd.Pair', of 'hangul.Split' and 'hangul.Join' and of 'order.Is', by the words of the pure model.
-/
import Derived.Test.YtjolmhokeceljaaRunes
import Derived.Test.YtjolmhokeceljaaBaA
import Derived.Test.YtjolmhokeceljaaSob
namespace Go.Proofs.Ytjolmhokeceljaa.Own
open Go.RowKit Go.Proofs.YtjolmhokeceljaaW.PrintWords Go.Proofs.Ytjolmhokeceljaa.Ba

/-- What the first map from a number maps it to. -/
def lookS : List S60 → Int → List Int
  | [], _ => []
  | x :: r, c => if x.f0 = c then x.f1 else lookS r c
theorem lookS_drop (L : List S60) (k : Nat) (h : k < L.length) (c : Int) : lookS (L.drop k) c = if (rd_T60 L k).f0 = c then (rd_T60 L k).f1 else lookS (L.drop (k + 1)) c := by
  rw [List.drop_eq_getElem_cons h]
  simp [lookS, rd_T60, List.getD_eq_getElem?_getD, List.getElem?_eq_getElem h]

set_option maxRecDepth 100000 in
theorem mapped_any (x : Int) (A : Option Addr) (n c : Nat) (w : World) :
    Calls Try.prog 74 #[.agg #[.int .i64 x, .slice A n c]] w fun e w' => e = .returned (.tuple #[.int .i64 x, .slice A n c]) ∧ Below w.heap.size w w' := by
  have hu := Try.underlying60
  go_enter Try.func74, Try.ntmps74
  go_wp2
  go_quiet (fail)
  go_wp2
  go_ret2
  exact ⟨rfl, below_drewN ((Below.refl _ _).alloc (Nat.le_refl _) _) _⟩

set_option maxRecDepth 100000 in
set_option maxHeartbeats 2000000 in
theorem found_maps (L : List S60) (A : Option Addr) (c : Nat) (key : Int) (w : World) (hC : Kd.C k60 w A L.length L) :
    Calls Try.prog 72 #[.slice A L.length c, .func (.func 74) #[] #[], .int .i64 key] w fun e w' => ∃ A' n c', e = .returned (.slice A' n c') ∧ (Kd.int .i64).C w' A' n (lookS L key) ∧ n ≤ c' ∧ Below w.heap.size w w' := by
  have hm := Kd.C_max hC
  have HC := Aside0.mk hC
  clear hC
  have hu := Try.underlying60
  go_enter Try.func72, Try.ntmps72
  go_wp2
  go_loopw [14] (fun i wr => ∃ k : Nat, k ≤ L.length ∧ i = .int .i64 k ∧ Hid (lookS (L.drop k) key = lookS L key) ∧ Below w.heap.size w wr) (fun i _ => L.length - (intOf i).toNat)
  case atStart => exact ⟨0, Nat.zero_le _, rfl, (show _ = _ by rw [List.drop_zero]), Below.refl _ _⟩
  case round =>
    obtain ⟨k, hk, rfl, HS, hb⟩ := hrel
    by_cases hlt : k < L.length
    · obtain ⟨ad, A1, c1, rfl, hc0, hc1, hl1, hi1⟩ := at_T60 HC.out (k : Int) (by omega) (by omega)
      have hc0' := (hb.cell (World.block_lt_of_cell? w _ hc0)).trans hc0
      have hc1' := (hb.cell (World.block_lt_of_cell? w _ hc1)).trans hc1
      have hs := hb.size
      rw [Int.toNat_natCast] at hc0' hc1'
      clear hc0 hc1
      have HL := Aside0.mk hl1
      have HI := Aside0.mk hi1
      have HE := Aside0.mk (lookS_drop L k hlt key)
      clear hl1 hi1
      go_wp2_with (first | (go_at_call 74; refine (mapped_any _ _ _ _ _).mono ?_; rintro e w' ⟨rfl, hb1⟩))
      all_goals have hbw : Below w.heap.size w w' := (hb.alloc hs _).trans (hb1.mono (by simp; omega))
      · have hkey : (rd_T60 L k).f0 = key := beq_iff_eq.1 ‹_›
        have e := HS.out
        have e2 := HE.out
        rw [if_pos hkey] at e2
        rw [e2] at e
        go_ret
        exact ⟨A1, _, c1, rfl, by rw [← e]; exact Kd.C_below HI.out hbw, HL.out, hbw⟩
      · have hkey : ¬ (rd_T60 L k).f0 = key := beq_eq_false_iff_ne.1 ‹_›
        have e := HS.out
        have e2 := HE.out
        rw [if_neg hkey] at e2
        rw [e2] at e
        go_roundw
        case rel => exact ⟨k + 1, by omega, by go_num, (show _ = _ from e), hbw⟩
        case measure => simp [intOf]; omega
    · have e := HS.out
      rw [List.drop_of_length_le (by omega)] at e
      have hk2 : k = L.length := by omega
      clear HS
      subst hk2
      have He := Aside0.mk e
      clear e
      go_wp2
      go_ret
      exact ⟨none, 0, 0, rfl, by rw [← He.out]; exact Kd.C_nil _ _, Nat.le_refl _, hb⟩

end Go.Proofs.Ytjolmhokeceljaa.Own

namespace Go.Proofs.Ytjolmhokeceljaa.Own
open Go.RowKit Go.Proofs.YtjolmhokeceljaaW.PrintWords Go.Proofs.Ytjolmhokeceljaa.Ba

set_option maxRecDepth 100000 in
set_option maxHeartbeats 2000000 in
theorem clone_any (xs : List Int) (A : Option Addr) (c : Nat) (w : World) (hC : (Kd.int .i64).C w A xs.length xs) (hlen : xs.length ≤ 1000000) :
    Calls Try.prog 71 #[.slice A xs.length c] w fun e w' => ∃ v0_ : Value, e = .returned v0_ ∧ Kd.R (Kd.int .i64) 3 w' w.heap.size (fun _ => True) v0_ xs ∧ Below w.heap.size w w' := by
  have HC := Aside0.mk hC
  clear hC
  rcases A with _ | ad
  · have h0 : xs.length = 0 := by
      rcases Nat.eq_zero_or_pos xs.length with h | h
      · exact h
      · obtain ⟨ad, e, _⟩ := HC.out.2.2 h
        cases e
    obtain rfl : xs = [] := List.eq_nil_of_length_eq_zero h0
    have hnil := fun W : World => Lib.run_eql_slice_nil (P := Try.prog) W 22 3 none 0 c 0 0 Try.underlying22
    clear hlen HC h0
    go_enter Try.func71, Try.ntmps71
    go_wp2
    go_ret
    exact ⟨_, rfl, Kd.R_nil _ _ _ _ _, Below.refl _ _⟩
  · have hnil := fun W : World => Lib.run_eql_slice_nil (P := Try.prog) W 22 3 (some ad) xs.length c 0 0 Try.underlying22
    go_enter Try.func71, Try.ntmps71
    have HL : RI (w.alloc (.cells #[] 3)) w.heap.size (.slice (some ⟨w.heap.size, 0, none⟩) 0 0) [] := RI.lit w w.heap.size [] (Nat.le_refl _) (by simp)
    have HB := Aside0.mk ((Below.refl w.heap.size w).alloc (Nat.le_refl _) (.cells #[] 3))
    have HLs := Aside0.mk HL
    have HC2 := Aside0.mk (Kd.C_alloc HC.out (.cells #[] 3))
    clear HL HC
    go_wp2_with (at_builtin; refine appRow (w0 := w) w.heap.size rfl _ _ rfl Try.underlying22 infoInt (.slice (some ⟨w.heap.size, 0, none⟩) 0 0) [] xs (some ad) xs.length c rfl rfl HLs.out HC2.out HB.out (by simp) (by simp; omega) ?_; intro v1 w1 h1 h2 _ _; replace h1 := Aside0.mk h1; replace h2 := Aside0.mk h2)
    go_ret
    exact ⟨v1, rfl, h1.out, h2.out⟩

end Go.Proofs.Ytjolmhokeceljaa.Own

namespace Go.Proofs.Ytjolmhokeceljaa.Own
open Go.RowKit Go.Proofs.YtjolmhokeceljaaW.PrintWords

theorem wrap_in (i : Int) (h0 : -9223372036854775808 ≤ i) (h1 : i ≤ 9223372036854775807) : wrap64 i = i := by unfold wrap64; omega
theorem rd_nat (xs : List Int) (k : Nat) (h : k < xs.length) : rd xs (k : Int) = xs[k] := by simp [rd, List.getD_eq_getElem?_getD, h]

theorem ints_loop (xs ys : List Int) (hl : xs.length = ys.length) (hm : xs.length ≤ 9223372036854775807) (d : Nat) : ∀ i : Nat, i + d = xs.length → Ba.sobriquetkeep_Ints.l0 (d + 1) xs ys i = some (decide (xs.drop i = ys.drop i)) := by
  induction d with
  | zero =>
    intro i hi
    have h : ¬ (i : Int) < (xs.length : Int) := by omega
    simp only [Ba.sobriquetkeep_Ints.l0, if_neg h]
    rw [List.drop_of_length_le (by omega), List.drop_of_length_le (by omega)]
    rfl
  | succ d ih =>
    intro i hi
    have h : (i : Int) < (xs.length : Int) := by omega
    have hx : i < xs.length := by omega
    have hy : i < ys.length := by omega
    unfold Ba.sobriquetkeep_Ints.l0
    rw [if_pos h, if_pos (by omega), if_pos (by omega), rd_nat xs i hx, rd_nat ys i hy]
    rw [List.drop_eq_getElem_cons hx, List.drop_eq_getElem_cons hy]
    by_cases e : xs[i] = ys[i]
    · rw [if_pos e, wrap_in _ (by omega) (by omega)]
      have := ih (i + 1) (by omega)
      rw [show ((i : Int) + 1) = ((i + 1 : Nat) : Int) from by omega, this]
      simp only [List.cons.injEq, e, true_and]
    · rw [if_neg e]
      simp only [List.cons.injEq, e, false_and, decide_false]

def sobriquetkeep_Ints.f (l0 l1 : List Int) : Option Bool := some (decide (l0 = l1))
theorem ints_eq (xs ys : List Int) (hm : xs.length ≤ 9223372036854775807) : Ba.sobriquetkeep_Ints.f (xs.length + 1) xs ys = some (decide (xs = ys)) := by
  unfold Ba.sobriquetkeep_Ints.f
  by_cases hl : (xs.length : Int) = (ys.length : Int)
  · rw [if_pos hl]
    have := ints_loop xs ys (by omega) hm xs.length 0 (by omega)
    simpa using this
  · rw [if_neg hl]
    have : xs ≠ ys := fun e => hl (by rw [e])
    simp [this]
theorem sobriquetkeep_Ints.calls (A0 : Option Addr) (c0 : Nat) (l0 : List Int) (A1 : Option Addr) (c1 : Nat) (l1 : List Int) (r : Bool) (w : World) (hr0 : Kd.C (Kd.int .i64) w A0 l0.length l0) (hc0 : l0.length ≤ c0) (hr1 : Kd.C (Kd.int .i64) w A1 l1.length l1) (hc1 : l1.length ≤ c1) (h : sobriquetkeep_Ints.f l0 l1 = some r) :
    Calls Try.prog 27 #[.slice A0 l0.length c0, .slice A1 l1.length c1] w fun e w' => e = .returned (.bool r) ∧ Drawn0 w w' :=
  Ba.sobriquetkeep_Ints.calls (l0.length + 1) A0 c0 l0 A1 c1 l1 r w hr0 hc0 hr1 hc1 ((ints_eq l0 l1 (Kd.C_max hr0)).trans h)

def sobriquetkeep_TwinInts.f (l0 : List Int) : Option (List Int) := if l0.length ≤ 100000000 then some l0 else none
theorem sobriquetkeep_TwinInts.calls (A0 : Option Addr) (c0 : Nat) (l0 : List Int) (r : List Int) (w : World) (hr0 : Kd.C (Kd.int .i64) w A0 l0.length l0) (hc0 : l0.length ≤ c0) (h : sobriquetkeep_TwinInts.f l0 = some r) :
    Calls Try.prog 28 #[.slice A0 l0.length c0] w fun e w' => ∃ v0_ : Value, e = .returned (v0_) ∧ Kd.R (Kd.int .i64) 3 w' w.heap.size (fun _ => True) v0_ r ∧ Below w.heap.size w w' := by
  unfold sobriquetkeep_TwinInts.f at h
  split at h
  · refine Ba.sobriquetkeep_TwinInts.calls A0 c0 l0 r w hr0 hc0 ?_
    unfold Ba.sobriquetkeep_TwinInts.f
    rw [if_pos (by simp; omega), List.nil_append]
    exact h
  · cases h

end Go.Proofs.Ytjolmhokeceljaa.Own

namespace Go.Proofs.Ytjolmhokeceljaa.Own
open Go.RowKit Go.Proofs.YtjolmhokeceljaaW.PrintWords Go.Proofs.Ytjolmhokeceljaa.Ba

/-! ### ranges -/
def triR (x : S49) : Int × Int × Int := (x.f0, x.f1, x.f2)
def rngS (x : Int × Int × Int) : S49 := ⟨x.1, x.2.1, x.2.2⟩
theorem map_triR (L : List (Int × Int × Int)) : (L.map rngS).map triR = L := by
  rw [List.map_map, show (triR ∘ rngS) = id from rfl, List.map_id]
theorem rd_rng (L : List S49) (i : Nat) (h : i < L.length) : rd_T49 L (i : Int) = L[i] := by
  simp [rd_T49, List.getD_eq_getElem?_getD, h]

theorem flat_loop (L : List S49) (c : Int) (hm : L.length ≤ 1000000) : ∀ (k i : Nat), i ≤ L.length → L.length + 1 ≤ i + k → ranges_Flat.l0 k c L (L.length : Int) (i : Int) = some (Sob.lookR ((L.drop i).map triR) c) := by
  intro k
  induction k with
  | zero => intro i h1 h2; omega
  | succ k ih =>
    intro i h1 h2
    unfold ranges_Flat.l0
    by_cases h : i < L.length
    · rw [if_pos (by omega), if_pos (by omega), if_pos (by omega), rd_rng L i h, List.drop_eq_getElem_cons h, List.map_cons]
      have e := ih (i + 1) (by omega) (by omega)
      rw [wrap_in _ (by omega) (by omega), show ((i : Int) + 1) = ((i + 1 : Nat) : Int) from by omega, e]
      have e2 : Sob.lookR (triR L[i] :: List.map triR (L.drop (i + 1))) c = if L[i].f0 ≤ c ∧ c ≤ L[i].f1 then L[i].f2 else Sob.lookR (List.map triR (L.drop (i + 1))) c := rfl
      rw [e2]
      by_cases a : L[i].f0 ≤ c
      · rw [if_pos a]
        by_cases b : c ≤ L[i].f1
        · rw [if_pos b, if_pos ⟨a, b⟩]
        · rw [if_neg b, if_neg (fun q => b q.2)]
      · rw [if_neg a, if_neg (fun q => a q.1)]
    · rw [if_neg (by omega), List.drop_of_length_le (by omega)]
      rfl
theorem flat_eq (L : List S49) (c : Int) (k : Nat) (hm : L.length ≤ 1000000) (hk : L.length + 1 ≤ k) : ranges_Flat.f k L c = some (Sob.lookR (L.map triR) c) := by
  have := flat_loop L c hm k 0 (by omega) (by omega)
  rw [List.drop_zero] at this
  exact this
theorem scalar_eq (c : Int) : ucd_Scalar.f c = some (Sob.scalar c) := by
  unfold ucd_Scalar.f Sob.scalar
  by_cases h1 : c ≥ 0
  · rw [if_pos h1]
    by_cases h2 : c ≤ 1114111
    · rw [if_pos h2]
      by_cases h3 : c < 55296
      · rw [if_pos h3]; exact congrArg some (decide_eq_true (by omega)).symm
      · rw [if_neg h3]; exact congrArg some (decide_eq_decide.2 (by omega))
    · rw [if_neg h2]; exact congrArg some (decide_eq_false (by omega)).symm
  · rw [if_neg h1]; exact congrArg some (decide_eq_false (by omega)).symm

def clsS : List S49 := Sob.classT.map rngS
theorem clsS_eq : api_Classes.f = some clsS := by kernel_rfl
theorem clsS_len : clsS.length = 26 := by decide +kernel
theorem cls_flat (k : Nat) (hk : 27 ≤ k) (c : Int) : ranges_Flat.f k clsS c = some (Sob.lookR Sob.classT c) := by
  rw [flat_eq clsS c k (by rw [clsS_len]; omega) (by rw [clsS_len]; omega)]
  unfold clsS
  rw [map_triR]
theorem cls_eq (k : Nat) (hk : 27 ≤ k) (c : Int) : Ba.ucd_Class.f k c = some (Sob.cls c) := by
  unfold Ba.ucd_Class.f Sob.cls
  rw [scalar_eq, Option.bind_some]
  by_cases h : Sob.scalar c = true
  · rw [if_pos h, if_pos h, clsS_eq, Option.bind_some, cls_flat k hk]
    rfl
  · rw [if_neg h, if_neg h]
def ucd_Class.f (a0 : Int) : Option (Int) := some (Sob.cls a0)
theorem ucd_Class.calls (a0 : Int) (r : Int) (w : World) (h : ucd_Class.f a0 = some r) :
    Calls Try.prog 37 #[.int .i64 a0] w fun e w' => e = .returned (.int .i64 r) ∧ Below w.heap.size w w' :=
  Ba.ucd_Class.calls 27 a0 r w ((cls_eq 27 (by omega) a0).trans h)

/-! ### hangul -/
theorem hin_eq (n a m : Int) (h0 : 0 ≤ a) (h1 : a ≤ 1000000) (h2 : 0 ≤ m) (h3 : m ≤ 1000000) : hangul_in.f n a m = some (decide (a ≤ n ∧ n < a + m)) := by
  unfold hangul_in.f
  rw [wrap_in _ (by omega) (by omega)]
  by_cases h : n ≥ a
  · rw [if_pos h]
    have : a ≤ n := h
    simp [this]
  · rw [if_neg h]
    have : ¬ a ≤ n := h
    simp [this]
theorem split_eq (c : Int) : Ba.hangul_Split.f c = some (Sob.split c) := by
  unfold Ba.hangul_Split.f Sob.split
  rw [hin_eq c _ _ (by omega) (by omega) (by omega) (by omega), Option.bind_some]
  by_cases h : 44032 ≤ c ∧ c < 44032 + 11172
  · rw [if_pos (decide_eq_true h), if_pos (by omega), Option.bind_some, wrap_in (c - 44032) (by omega) (by omega)]
    have t1 : Int.tdiv (c - 44032) 28 = (c - 44032) / 28 := Int.tdiv_eq_ediv_of_nonneg (by omega)
    have t2 : Int.tmod (c - 44032) 28 = (c - 44032) % 28 := Int.tmod_eq_emod_of_nonneg (by omega)
    have t3 : Int.tdiv ((c - 44032) / 28) 21 = (c - 44032) / 588 := by rw [Int.tdiv_eq_ediv_of_nonneg (by omega)]; omega
    have t4 : Int.tmod ((c - 44032) / 28) 21 = (c - 44032) / 28 % 21 := Int.tmod_eq_emod_of_nonneg (by omega)
    rw [t1, wrap_in ((c - 44032) / 28) (by omega) (by omega), t2, t3, t4, wrap_in ((c - 44032) / 588) (by omega) (by omega), wrap_in (4352 + _) (by omega) (by omega), wrap_in (4449 + _) (by omega) (by omega)]
    by_cases q : (c - 44032) % 28 > 0
    · rw [if_pos q, if_pos (by simp), if_pos q, wrap_in _ (by omega) (by omega)]
    · rw [if_neg q, if_neg q]
      simp
  · rw [if_neg (by simpa using h), if_neg (by omega)]
def hangul_Split.f (a0 : Int) : Option (List Int) := some (Sob.split a0)
theorem hangul_Split.calls (a0 : Int) (r : List Int) (w : World) (h : hangul_Split.f a0 = some r) :
    Calls Try.prog 56 #[.int .i64 a0] w fun e w' => ∃ v0_ : Value, e = .returned (v0_) ∧ Kd.R (Kd.int .i64) 3 w' w.heap.size (fun _ => True) v0_ r ∧ Below w.heap.size w w' :=
  Ba.hangul_Split.calls a0 r w ((split_eq a0).trans h)

def duo : Option Int → Int × Bool
  | some c => (c, true)
  | none => (0, false)
theorem join_eq (a b : Int) : Ba.hangul_Join.f 1 a b = some (duo (Sob.join a b)) := by
  have last (h : ¬ ((4352 ≤ a ∧ a < 4371) ∧ (4449 ≤ b ∧ b < 4470))) : Ba.hangul_Join.j0 1 a b false = some (duo (Sob.join a b)) := by
    simp only [Ba.hangul_Join.j0, Bool.false_eq_true, if_false]
    unfold Sob.join
    rw [if_neg h, hin_eq a _ _ (by omega) (by omega) (by omega) (by omega), Option.bind_some]
    by_cases h1 : 44032 ≤ a ∧ a < 44032 + 11172
    · rw [if_pos (decide_eq_true h1), wrap_in (a - 44032) (by omega) (by omega), Int.tmod_eq_emod_of_nonneg (by omega)]
      by_cases h2 : (a - 44032) % 28 = 0
      · rw [if_pos h2, hin_eq b _ _ (by omega) (by omega) (by omega) (by omega), Option.bind_some]
        by_cases h3 : 4520 ≤ b ∧ b < 4520 + 27
        · rw [if_pos (decide_eq_true h3), if_pos (by omega), wrap_in (a + b) (by omega) (by omega), wrap_in _ (by omega) (by omega)]
          rfl
        · rw [if_neg (by simpa using h3), if_neg (by omega)]
          rfl
      · rw [if_neg h2, if_neg (by omega)]
        rfl
    · rw [if_neg (by simpa using h1), if_neg (by omega)]
      rfl
  unfold Ba.hangul_Join.f
  rw [hin_eq a _ _ (by omega) (by omega) (by omega) (by omega), Option.bind_some]
  by_cases h1 : 4352 ≤ a ∧ a < 4352 + 19
  · rw [if_pos (decide_eq_true h1), hin_eq b _ _ (by omega) (by omega) (by omega) (by omega), Option.bind_some]
    by_cases h2 : 4449 ≤ b ∧ b < 4449 + 21
    · rw [decide_eq_true h2]
      simp only [Ba.hangul_Join.j0, if_true]
      rw [wrap_in (a - 4352) (by omega) (by omega), wrap_in ((a - 4352) * 21) (by omega) (by omega), wrap_in (_ + b) (by omega) (by omega), wrap_in (_ - 4449) (by omega) (by omega), wrap_in (_ * 28) (by omega) (by omega), wrap_in _ (by omega) (by omega)]
      unfold Sob.join
      rw [if_pos (by omega)]
      rfl
    · rw [decide_eq_false h2]
      exact last (by omega)
  · rw [if_neg (by simpa using h1)]
    exact last (by omega)
def hangul_Join.f (a0 a1 : Int) : Option (Int × Bool) := some (duo (Sob.join a0 a1))
theorem hangul_Join.calls (a0 : Int) (a1 : Int) (r1 : Int) (r2 : Bool) (w : World) (h : hangul_Join.f a0 a1 = some (r1, r2)) :
    Calls Try.prog 34 #[.int .i64 a0, .int .i64 a1] w fun e w' => e = .returned (.tuple #[.int .i64 r1, .bool r2]) ∧ Drawn0 w w' :=
  Ba.hangul_Join.calls 1 a0 a1 r1 r2 w ((join_eq a0 a1).trans h)

end Go.Proofs.Ytjolmhokeceljaa.Own
