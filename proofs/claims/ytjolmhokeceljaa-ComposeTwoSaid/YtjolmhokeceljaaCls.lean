/-
  The contracts of the functions of ucd that look a number up in ranges, of 'ucd.Pair', of 'hangul.Split' and 'hangul.Join' and of 'order.Is', by the words of the pure model.
-/
import Derived.Test.YtjolmhokeceljaaKeep
import Derived.Test.YtjolmhokeceljaaSob
import Derived.Test.YtjolmhokeceljaaBa6
import Derived.Test.YtjolmhokeceljaaBa8
import Derived.Test.YtjolmhokeceljaaBa10
import Derived.Test.YtjolmhokeceljaaBa11
namespace Go.Proofs.Ytjolmhokeceljaa.Own
open Go.RowKit Go.Proofs.YtjolmhokeceljaaW.PrintWords Go.Proofs.Ytjolmhokeceljaa.Ba

/-! ### ranges -/
def triR (x : S49) : Int × Int × Int := (x.f0, x.f1, x.f2)
def rngS (x : Int × Int × Int) : S49 := ⟨x.1, x.2.1, x.2.2⟩
theorem map_triR (L : List (Int × Int × Int)) : (L.map rngS).map triR = L := by
  rw [List.map_map, show (triR ∘ rngS) = id from rfl, List.map_id]
theorem rd_rng (L : List S49) (i : Nat) (h : i < L.length) : rd_T49 L (i : Int) = L[i] := by
  simp [rd_T49, List.getD_eq_getElem?_getD, h]

theorem flat_loop (L : List S49) (c : Int) (hm : L.length ≤ 1000000) : ∀ (k i : Nat), i ≤ L.length → L.length + 1 ≤ i + k → ranges_Flat.l0 k c L (L.length : Int) (i : Int) = some (Sob.lookR ((L.drop i).map triR) c) := by
  intro k
  induction k with
  | zero => intro i h1 h2; omega
  | succ k ih =>
    intro i h1 h2
    unfold ranges_Flat.l0
    by_cases h : i < L.length
    · rw [if_pos (by omega), if_pos (by omega), if_pos (by omega), rd_rng L i h, List.drop_eq_getElem_cons h, List.map_cons]
      have e := ih (i + 1) (by omega) (by omega)
      rw [wrap_in _ (by omega) (by omega), show ((i : Int) + 1) = ((i + 1 : Nat) : Int) from by omega, e]
      have e2 : Sob.lookR (triR L[i] :: List.map triR (L.drop (i + 1))) c = if L[i].f0 ≤ c ∧ c ≤ L[i].f1 then L[i].f2 else Sob.lookR (List.map triR (L.drop (i + 1))) c := rfl
      rw [e2]
      by_cases a : L[i].f0 ≤ c
      · rw [if_pos a]
        by_cases b : c ≤ L[i].f1
        · rw [if_pos b, if_pos ⟨a, b⟩]
        · rw [if_neg b, if_neg (fun q => b q.2)]
      · rw [if_neg a, if_neg (fun q => a q.1)]
    · rw [if_neg (by omega), List.drop_of_length_le (by omega)]
      rfl
theorem flat_eq (L : List S49) (c : Int) (k : Nat) (hm : L.length ≤ 1000000) (hk : L.length + 1 ≤ k) : ranges_Flat.f k L c = some (Sob.lookR (L.map triR) c) := by
  have := flat_loop L c hm k 0 (by omega) (by omega)
  rw [List.drop_zero] at this
  exact this
theorem scalar_eq (c : Int) : ucd_Scalar.f c = some (Sob.scalar c) := by
  unfold ucd_Scalar.f Sob.scalar
  by_cases h1 : c ≥ 0
  · rw [if_pos h1]
    by_cases h2 : c ≤ 1114111
    · rw [if_pos h2]
      by_cases h3 : c < 55296
      · rw [if_pos h3]; exact congrArg some (decide_eq_true (by omega)).symm
      · rw [if_neg h3]; exact congrArg some (decide_eq_decide.2 (by omega))
    · rw [if_neg h2]; exact congrArg some (decide_eq_false (by omega)).symm
  · rw [if_neg h1]; exact congrArg some (decide_eq_false (by omega)).symm

def clsS : List S49 := Sob.classT.map rngS
theorem clsS_eq : api_Classes.f = some clsS := by kernel_rfl
theorem clsS_len : clsS.length = 26 := by decide +kernel
theorem cls_flat (k : Nat) (hk : 27 ≤ k) (c : Int) : ranges_Flat.f k clsS c = some (Sob.lookR Sob.classT c) := by
  rw [flat_eq clsS c k (by rw [clsS_len]; omega) (by rw [clsS_len]; omega)]
  unfold clsS
  rw [map_triR]
theorem cls_eq (k : Nat) (hk : 27 ≤ k) (c : Int) : Ba.ucd_Class.f k c = some (Sob.cls c) := by
  unfold Ba.ucd_Class.f Sob.cls
  rw [scalar_eq, Option.bind_some]
  by_cases h : Sob.scalar c = true
  · rw [if_pos h, if_pos h, clsS_eq, Option.bind_some, cls_flat k hk]
    rfl
  · rw [if_neg h, if_neg h]
def ucd_Class.f (a0 : Int) : Option (Int) := some (Sob.cls a0)
theorem ucd_Class.calls (a0 : Int) (r : Int) (w : World) (h : ucd_Class.f a0 = some r) :
    Calls Try.prog 37 #[.int .i64 a0] w fun e w' => e = .returned (.int .i64 r) ∧ Below w.heap.size w w' :=
  Ba.ucd_Class.calls 27 a0 r w ((cls_eq 27 (by omega) a0).trans h)

def nothS : List S49 := Sob.nothingT.map rngS
theorem nothS_eq : api_Nothing.f = some nothS := by kernel_rfl
theorem nothS_len : nothS.length ≤ 100 := by decide +kernel
theorem nothing_eq (c : Int) : Ba.ucd_Nothing.f 101 c = some (Sob.nothing c) := by
  unfold Ba.ucd_Nothing.f Sob.nothing
  rw [scalar_eq, Option.bind_some]
  by_cases h : Sob.scalar c = true
  · rw [if_pos h, h, nothS_eq, Option.bind_some, flat_eq nothS c 101 (by have := nothS_len; omega) (by have := nothS_len; omega)]
    unfold nothS
    rw [map_triR]
    simp
  · rw [if_neg h]; simp [h]
def ucd_Nothing.f (a0 : Int) : Option (Bool) := some (Sob.nothing a0)
theorem ucd_Nothing.calls (a0 : Int) (r : Bool) (w : World) (h : ucd_Nothing.f a0 = some r) :
    Calls Try.prog 100 #[.int .i64 a0] w fun e w' => e = .returned (.bool r) ∧ Below w.heap.size w w' :=
  Ba.ucd_Nothing.calls 101 a0 r w ((nothing_eq a0).trans h)

def spacS : List S49 := Sob.spacesT.map rngS
theorem spacS_eq : api_Spaces.f = some spacS := by kernel_rfl
theorem spacS_len : spacS.length ≤ 100 := by decide +kernel
theorem space_eq (c : Int) : Ba.ucd_Space.f 101 c = some (Sob.space c) := by
  unfold Ba.ucd_Space.f Sob.space
  rw [scalar_eq, Option.bind_some]
  by_cases h : Sob.scalar c = true
  · rw [if_pos h, h, spacS_eq, Option.bind_some, flat_eq spacS c 101 (by have := spacS_len; omega) (by have := spacS_len; omega)]
    unfold spacS
    rw [map_triR]
    simp
  · rw [if_neg h]; simp [h]
def ucd_Space.f (a0 : Int) : Option (Bool) := some (Sob.space a0)
theorem ucd_Space.calls (a0 : Int) (r : Bool) (w : World) (h : ucd_Space.f a0 = some r) :
    Calls Try.prog 101 #[.int .i64 a0] w fun e w' => e = .returned (.bool r) ∧ Below w.heap.size w w' :=
  Ba.ucd_Space.calls 101 a0 r w ((space_eq a0).trans h)

def prohS : List S49 := Sob.prohibT.map rngS
theorem prohS_eq : api_Prohibited.f = some prohS := by kernel_rfl
theorem prohS_len : prohS.length ≤ 100 := by decide +kernel
theorem prohibited_eq (c : Int) : Ba.ucd_Prohibited.f 101 c = some (Sob.prohibited c) := by
  unfold Ba.ucd_Prohibited.f Sob.prohibited
  rw [scalar_eq, Option.bind_some]
  by_cases h : Sob.scalar c = true
  · rw [if_pos h, h, prohS_eq, Option.bind_some, flat_eq prohS c 101 (by have := prohS_len; omega) (by have := prohS_len; omega)]
    unfold prohS
    rw [map_triR]
    simp
  · rw [if_neg h]; simp [h]
def ucd_Prohibited.f (a0 : Int) : Option (Bool) := some (Sob.prohibited a0)
theorem ucd_Prohibited.calls (a0 : Int) (r : Bool) (w : World) (h : ucd_Prohibited.f a0 = some r) :
    Calls Try.prog 104 #[.int .i64 a0] w fun e w' => e = .returned (.bool r) ∧ Below w.heap.size w w' :=
  Ba.ucd_Prohibited.calls 101 a0 r w ((prohibited_eq a0).trans h)

/-! ### hangul -/
theorem hin_eq (n a m : Int) (h0 : 0 ≤ a) (h1 : a ≤ 1000000) (h2 : 0 ≤ m) (h3 : m ≤ 1000000) : hangul_in.f n a m = some (decide (a ≤ n ∧ n < a + m)) := by
  unfold hangul_in.f
  rw [wrap_in _ (by omega) (by omega)]
  by_cases h : n ≥ a
  · rw [if_pos h]
    have : a ≤ n := h
    simp [this]
  · rw [if_neg h]
    have : ¬ a ≤ n := h
    simp [this]
theorem split_eq (c : Int) : Ba.hangul_Split.f c = some (Sob.split c) := by
  unfold Ba.hangul_Split.f Sob.split
  rw [hin_eq c _ _ (by omega) (by omega) (by omega) (by omega), Option.bind_some]
  by_cases h : 44032 ≤ c ∧ c < 44032 + 11172
  · rw [if_pos (decide_eq_true h), if_pos (by omega), Option.bind_some, wrap_in (c - 44032) (by omega) (by omega)]
    have t1 : Int.tdiv (c - 44032) 28 = (c - 44032) / 28 := Int.tdiv_eq_ediv_of_nonneg (by omega)
    have t2 : Int.tmod (c - 44032) 28 = (c - 44032) % 28 := Int.tmod_eq_emod_of_nonneg (by omega)
    have t3 : Int.tdiv ((c - 44032) / 28) 21 = (c - 44032) / 588 := by rw [Int.tdiv_eq_ediv_of_nonneg (by omega)]; omega
    have t4 : Int.tmod ((c - 44032) / 28) 21 = (c - 44032) / 28 % 21 := Int.tmod_eq_emod_of_nonneg (by omega)
    rw [t1, wrap_in ((c - 44032) / 28) (by omega) (by omega), t2, t3, t4, wrap_in ((c - 44032) / 588) (by omega) (by omega), wrap_in (4352 + _) (by omega) (by omega), wrap_in (4449 + _) (by omega) (by omega)]
    by_cases q : (c - 44032) % 28 > 0
    · rw [if_pos q, if_pos (by simp), if_pos q, wrap_in _ (by omega) (by omega)]
    · rw [if_neg q, if_neg q]
      simp
  · rw [if_neg (by simpa using h), if_neg (by omega)]
def hangul_Split.f (a0 : Int) : Option (List Int) := some (Sob.split a0)
theorem hangul_Split.calls (a0 : Int) (r : List Int) (w : World) (h : hangul_Split.f a0 = some r) :
    Calls Try.prog 56 #[.int .i64 a0] w fun e w' => ∃ v0_ : Value, e = .returned (v0_) ∧ Kd.R (Kd.int .i64) 3 w' w.heap.size (fun _ => True) v0_ r ∧ Below w.heap.size w w' :=
  Ba.hangul_Split.calls a0 r w ((split_eq a0).trans h)

def duo : Option Int → Int × Bool
  | some c => (c, true)
  | none => (0, false)
theorem join_eq (a b : Int) : Ba.hangul_Join.f 1 a b = some (duo (Sob.join a b)) := by
  have last (h : ¬ ((4352 ≤ a ∧ a < 4371) ∧ (4449 ≤ b ∧ b < 4470))) : Ba.hangul_Join.j0 1 a b false = some (duo (Sob.join a b)) := by
    simp only [Ba.hangul_Join.j0, Bool.false_eq_true, if_false]
    unfold Sob.join
    rw [if_neg h, hin_eq a _ _ (by omega) (by omega) (by omega) (by omega), Option.bind_some]
    by_cases h1 : 44032 ≤ a ∧ a < 44032 + 11172
    · rw [if_pos (decide_eq_true h1), wrap_in (a - 44032) (by omega) (by omega), Int.tmod_eq_emod_of_nonneg (by omega)]
      by_cases h2 : (a - 44032) % 28 = 0
      · rw [if_pos h2, hin_eq b _ _ (by omega) (by omega) (by omega) (by omega), Option.bind_some]
        by_cases h3 : 4520 ≤ b ∧ b < 4520 + 27
        · rw [if_pos (decide_eq_true h3), if_pos (by omega), wrap_in (a + b) (by omega) (by omega), wrap_in _ (by omega) (by omega)]
          rfl
        · rw [if_neg (by simpa using h3), if_neg (by omega)]
          rfl
      · rw [if_neg h2, if_neg (by omega)]
        rfl
    · rw [if_neg (by simpa using h1), if_neg (by omega)]
      rfl
  unfold Ba.hangul_Join.f
  rw [hin_eq a _ _ (by omega) (by omega) (by omega) (by omega), Option.bind_some]
  by_cases h1 : 4352 ≤ a ∧ a < 4352 + 19
  · rw [if_pos (decide_eq_true h1), hin_eq b _ _ (by omega) (by omega) (by omega) (by omega), Option.bind_some]
    by_cases h2 : 4449 ≤ b ∧ b < 4449 + 21
    · rw [decide_eq_true h2]
      simp only [Ba.hangul_Join.j0, if_true]
      rw [wrap_in (a - 4352) (by omega) (by omega), wrap_in ((a - 4352) * 21) (by omega) (by omega), wrap_in (_ + b) (by omega) (by omega), wrap_in (_ - 4449) (by omega) (by omega), wrap_in (_ * 28) (by omega) (by omega), wrap_in _ (by omega) (by omega)]
      unfold Sob.join
      rw [if_pos (by omega)]
      rfl
    · rw [decide_eq_false h2]
      exact last (by omega)
  · rw [if_neg (by simpa using h1)]
    exact last (by omega)
def hangul_Join.f (a0 a1 : Int) : Option (Int × Bool) := some (duo (Sob.join a0 a1))
theorem hangul_Join.calls (a0 : Int) (a1 : Int) (r1 : Int) (r2 : Bool) (w : World) (h : hangul_Join.f a0 a1 = some (r1, r2)) :
    Calls Try.prog 34 #[.int .i64 a0, .int .i64 a1] w fun e w' => e = .returned (.tuple #[.int .i64 r1, .bool r2]) ∧ Drawn0 w w' :=
  Ba.hangul_Join.calls 1 a0 a1 r1 r2 w ((join_eq a0 a1).trans h)

/-! ### order.Is -/
theorem is_loop (s : List Int) (hm : s.length ≤ 1000000) : ∀ (k i : Nat), 1 ≤ i → i ≤ s.length + 1 → s.length + 28 ≤ i + k → order_Is.l0 k s (i : Int) = some (Sob.inOrder (s.drop (i - 1))) := by
  intro k
  induction k with
  | zero => intro i h1 h2 h3; omega
  | succ k ih =>
    intro i h1 h2 h3
    unfold order_Is.l0
    by_cases h : i < s.length
    · rw [if_pos (by omega), if_pos (by omega), rd_nat s i h, cls_eq k (by omega), Option.bind_some]
      have e := ih (i + 1) (by omega) (by omega) (by omega)
      rw [wrap_in ((i : Int) + 1) (by omega) (by omega), show ((i : Int) + 1) = ((i + 1 : Nat) : Int) from by omega, e]
      have hi : i - 1 < s.length := by omega
      have e2 : Sob.inOrder (s.drop (i - 1)) = ((decide (Sob.cls s[i] = 0) || decide (Sob.cls s[i - 1] ≤ Sob.cls s[i])) && Sob.inOrder (s.drop i)) := by
        rw [List.drop_eq_getElem_cons hi]
        have : s.drop (i - 1 + 1) = s[i] :: s.drop (i + 1) := by rw [show i - 1 + 1 = i from by omega, List.drop_eq_getElem_cons h]
        rw [this, List.drop_eq_getElem_cons h]
        rfl
      rw [e2, show i + 1 - 1 = i from by omega]
      by_cases z : Sob.cls s[i] = 0
      · rw [if_pos z]; simp [z]
      · rw [if_neg z, wrap_in ((i : Int) - 1) (by omega) (by omega), if_pos (by omega), if_pos (by omega), show ((i : Int) - 1) = ((i - 1 : Nat) : Int) from by omega, rd_nat s (i - 1) hi, cls_eq k (by omega), Option.bind_some]
        by_cases g : Sob.cls s[i - 1] > Sob.cls s[i]
        · rw [if_pos g]
          have : ¬ Sob.cls s[i - 1] ≤ Sob.cls s[i] := by omega
          simp [z, this]
        · rw [if_neg g]
          have : Sob.cls s[i - 1] ≤ Sob.cls s[i] := by omega
          simp [this]
    · rw [if_neg (by omega)]
      have : (s.drop (i - 1)).length ≤ 1 := by rw [List.length_drop]; omega
      match q : s.drop (i - 1) with
      | [] => rfl
      | [x] => rfl
      | x :: y :: r => rw [q] at this; simp at this
def order_Is.f (l0 : List Int) : Option (Bool) := if l0.length ≤ 1000000 then some (Sob.inOrder l0) else none
theorem order_Is.calls (A0 : Option Addr) (c0 : Nat) (l0 : List Int) (r : Bool) (w : World) (hr0 : Kd.C (Kd.int .i64) w A0 l0.length l0) (hc0 : l0.length ≤ c0) (h : order_Is.f l0 = some r) :
    Calls Try.prog 44 #[.slice A0 l0.length c0] w fun e w' => e = .returned (.bool r) ∧ Below w.heap.size w w' := by
  unfold order_Is.f at h
  split at h
  · rename_i hm
    refine Ba.order_Is.calls (l0.length + 28) A0 c0 l0 r w hr0 hc0 ?_
    unfold Ba.order_Is.f
    have := is_loop l0 hm (l0.length + 28) 1 (by omega) (by omega) (by omega)
    simpa using this.trans h
  · cases h

/-! ### ucd.Pair -/
theorem index_loop (s : List Int) (c : Int) (hm : s.length ≤ 1000000) : ∀ (k i : Nat), i ≤ s.length → s.length + 1 ≤ i + k → ∃ r, slices_Index_int_int.l0 k s c (s.length : Int) (i : Int) = some r ∧ (r ≥ 0 ↔ c ∈ s.drop i) := by
  intro k
  induction k with
  | zero => intro i h1 h2; omega
  | succ k ih =>
    intro i h1 h2
    unfold slices_Index_int_int.l0
    by_cases h : i < s.length
    · rw [if_pos (by omega), if_pos (by omega), if_pos (by omega), rd_nat s i h, List.drop_eq_getElem_cons h]
      by_cases e : c = s[i]
      · rw [if_pos e]
        exact ⟨_, rfl, fun _ => by rw [e]; exact List.mem_cons_self, fun _ => Int.natCast_nonneg i⟩
      · rw [if_neg e, wrap_in _ (by omega) (by omega), show ((i : Int) + 1) = ((i + 1 : Nat) : Int) from by omega]
        obtain ⟨r, hr, hi⟩ := ih (i + 1) (by omega) (by omega)
        exact ⟨r, hr, by rw [hi, List.mem_cons]; simp [e]⟩
    · rw [if_neg (by omega), List.drop_of_length_le (by omega)]
      exact ⟨_, rfl, by simp⟩
theorem contains_eq (s : List Int) (c : Int) (k : Nat) (hm : s.length ≤ 1000000) (hk : s.length + 1 ≤ k) : slices_Contains_int_int.f k s c = some (decide (c ∈ s)) := by
  obtain ⟨r, h, hi⟩ := index_loop s c hm k 0 (by omega) (by omega)
  unfold slices_Contains_int_int.f slices_Index_int_int.f
  rw [show (0 : Int) = ((0 : Nat) : Int) from rfl, h, Option.bind_some]
  simp only [List.drop_zero] at hi
  exact congrArg some (decide_eq_decide.2 hi)

def ent (x : Int × Int × Int) : S67 := ⟨x.1, x.2.1, x.2.2⟩
def canS : List S67 := Sob.canonT.map ent
theorem canS_eq : api_Canon.f 600 = some canS := by kernel_rfl
theorem canS_len : canS.length = 254 := by decide +kernel
theorem rd_ent (L : List S67) (i : Nat) (h : i < L.length) : rd_T67 L (i : Int) = L[i] := by
  simp [rd_T67, List.getD_eq_getElem?_getD, h]
theorem excl_eq : api_Excluded.f = some Sob.exclT := by kernel_rfl
/-- Which entries compose. -/
def cmpS (x : S67) : Bool := decide (x.f2 ≠ 0) && !decide (x.f0 ∈ Sob.exclT) && decide (Sob.lookR Sob.classT x.f0 = 0) && decide (Sob.lookR Sob.classT x.f1 = 0)
def lastS (a b : Int) : Option Int → List S67 → Option Int
  | o, [] => o
  | o, x :: r => lastS a b (if x.f1 = a ∧ x.f2 = b ∧ cmpS x = true then some x.f0 else o) r
theorem pair_loop (L : List S67) (a b : Int) (hm : L.length ≤ 1000000) : ∀ (k i : Nat) (o : Option Int), i ≤ L.length → L.length + 100 ≤ i + k → Ba.ucd_Pair.l0 k a b (duo o).1 (duo o).2 L (L.length : Int) (i : Int) = some (duo (lastS a b o (L.drop i))) := by
  intro k
  induction k with
  | zero => intro i o h1 h2; omega
  | succ k ih =>
    intro i o h1 h2
    unfold Ba.ucd_Pair.l0
    by_cases h : i < L.length
    · rw [if_pos (by omega), if_pos (by omega), if_pos (by omega), rd_ent L i h, List.drop_eq_getElem_cons h]
      have e1 : lastS a b o (L[i] :: L.drop (i + 1)) = lastS a b (if L[i].f1 = a ∧ L[i].f2 = b ∧ cmpS L[i] = true then some L[i].f0 else o) (L.drop (i + 1)) := rfl
      rw [e1, wrap_in _ (by omega) (by omega), show ((i : Int) + 1) = ((i + 1 : Nat) : Int) from by omega]
      have same (q : ¬ (L[i].f1 = a ∧ L[i].f2 = b ∧ cmpS L[i] = true)) : Ba.ucd_Pair.l0 k a b (duo o).1 (duo o).2 L (L.length : Int) ((i + 1 : Nat) : Int) = some (duo (lastS a b (if L[i].f1 = a ∧ L[i].f2 = b ∧ cmpS L[i] = true then some L[i].f0 else o) (L.drop (i + 1)))) := by
        rw [if_neg q]
        exact ih (i + 1) o (by omega) (by omega)
      by_cases p1 : L[i].f1 = a
      · rw [if_pos p1]
        by_cases p2 : L[i].f2 = b
        · rw [if_pos p2]
          by_cases p3 : b = 0
          · rw [if_pos p3]
            exact same (fun q => by simp [cmpS, p2, p3] at q)
          · rw [if_neg p3, excl_eq, Option.bind_some, contains_eq _ _ k (by decide) (by have : Sob.exclT.length = 6 := rfl; omega), Option.bind_some]
            by_cases p4 : L[i].f0 ∈ Sob.exclT
            · rw [if_pos (decide_eq_true p4)]
              exact same (fun q => by simp [cmpS, p4] at q)
            · rw [if_neg (by simpa using p4), clsS_eq, Option.bind_some, cls_flat k (by omega), Option.bind_some]
              by_cases p5 : Sob.lookR Sob.classT L[i].f0 = 0
              · rw [if_pos p5, Option.bind_some, cls_flat k (by omega), Option.bind_some]
                by_cases p6 : Sob.lookR Sob.classT L[i].f1 = 0
                · rw [if_pos p6, if_pos ⟨p1, p2, by simp [cmpS, p2, p3, p4, p5, p6]⟩]
                  exact ih (i + 1) (some L[i].f0) (by omega) (by omega)
                · rw [if_neg p6]
                  exact same (fun q => by simp [cmpS, p6] at q)
              · rw [if_neg p5]
                exact same (fun q => by simp [cmpS, p5] at q)
        · rw [if_neg p2]
          exact same (fun q => p2 q.2.1)
      · rw [if_neg p1]
        exact same (fun q => p1 q.1)
    · rw [if_neg (by omega), List.drop_of_length_le (by omega)]
      rfl
theorem canon_mono (n : Nat) : ∀ m r, api_Canon.f n = some r → api_Canon.f (n + m) = some r := by
  intro m
  induction m with
  | zero => intro r h; exact h
  | succ m ih => intro r h; exact api_Canon.mono _ _ (ih r h)

/-- Out of entries with distinct pairs the last one that composes is the first one. -/
theorem last_none (a b : Int) (L : List S67) (o : Option Int) (h : ∀ x ∈ L, ¬ (x.f1 = a ∧ x.f2 = b ∧ cmpS x = true)) : lastS a b o L = o := by
  induction L generalizing o with
  | nil => rfl
  | cons x r ih =>
    unfold lastS
    rw [if_neg (h x List.mem_cons_self)]
    exact ih o (fun y hy => h y (List.mem_cons_of_mem _ hy))
theorem last_pair (a b : Int) (L : List (Int × Int × Int)) (hd : (L.map (fun x => x.2)).Nodup) (o : Option Int) : lastS a b o (L.map ent) = (Sob.pairOf a b (L.filter (fun x => cmpS (ent x)))).or o := by
  induction L generalizing o with
  | nil => rfl
  | cons x r ih =>
    rw [List.map_cons, List.nodup_cons] at hd
    rw [List.map_cons]
    unfold lastS
    by_cases q : (ent x).f1 = a ∧ (ent x).f2 = b ∧ cmpS (ent x) = true
    · rw [if_pos q, last_none]
      · rw [List.filter_cons_of_pos (by exact q.2.2)]
        obtain ⟨x0, x1, x2⟩ := x
        have e1 : x1 = a := q.1
        have e2 : x2 = b := q.2.1
        unfold Sob.pairOf
        rw [if_pos ⟨e1, e2⟩]
        rfl
      · intro y hy hq
        obtain ⟨z, hz, rfl⟩ := List.mem_map.1 hy
        refine hd.1 (List.mem_map.2 ⟨z, hz, ?_⟩)
        exact Prod.ext (hq.1.trans q.1.symm) (hq.2.1.trans q.2.1.symm)
    · rw [if_neg q, ih hd.2]
      by_cases c : cmpS (ent x) = true
      · rw [List.filter_cons_of_pos (by exact c)]
        obtain ⟨x0, x1, x2⟩ := x
        have : Sob.pairOf a b ((x0, x1, x2) :: r.filter (fun x => cmpS (ent x))) = Sob.pairOf a b (r.filter (fun x => cmpS (ent x))) := by
          show (if x1 = a ∧ x2 = b then _ else _) = _
          rw [if_neg (fun e => q ⟨e.1, e.2, c⟩)]
        rw [this]
      · rw [List.filter_cons_of_neg (by exact c)]
theorem comp_eq : Sob.compT = Sob.canonT.filter (fun x => cmpS (ent x)) := by decide +kernel
theorem canon_dist : (Sob.canonT.map (fun x => x.2)).Nodup := by decide +kernel
theorem pair_eq (a b : Int) : Ba.ucd_Pair.f 600 a b = some (duo (Sob.pair a b)) := by
  unfold Ba.ucd_Pair.f
  rw [canS_eq, Option.bind_some]
  have := pair_loop canS a b (by rw [canS_len]; omega) 600 0 none (by omega) (by rw [canS_len]; omega)
  have e : lastS a b none (canS.drop 0) = Sob.pair a b := by
    rw [List.drop_zero]
    unfold canS Sob.pair
    rw [last_pair a b _ canon_dist, comp_eq, Option.or_none]
  rw [e] at this
  exact this
def ucd_Pair.f (a0 a1 : Int) : Option (Int × Bool) := some (duo (Sob.pair a0 a1))
theorem ucd_Pair.calls (a0 : Int) (a1 : Int) (r1 : Int) (r2 : Bool) (w : World) (h : ucd_Pair.f a0 a1 = some (r1, r2)) :
    Calls Try.prog 35 #[.int .i64 a0, .int .i64 a1] w fun e w' => e = .returned (.tuple #[.int .i64 r1, .bool r2]) ∧ Below w.heap.size w w' :=
  Ba.ucd_Pair.calls 600 a0 a1 r1 r2 w ((pair_eq a0 a1).trans h)

end Go.Proofs.Ytjolmhokeceljaa.Own
