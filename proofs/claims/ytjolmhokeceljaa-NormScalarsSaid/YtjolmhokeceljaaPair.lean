/-
  The contract of 'ucd.Pair': what two numbers make, out of the table.
  The contract of 'ucd.Canon': the decomposition of the first entry of the table, or nothing.
-/
import Derived.Test.YtjolmhokeceljaaCls
import Derived.Test.YtjolmhokeceljaaBaC
import Derived.Test.YtjolmhokeceljaaBaP
import Derived.Test.YtjolmhokeceljaaBaA
namespace Go.Proofs.Ytjolmhokeceljaa.Own
open Go.RowKit Go.Proofs.YtjolmhokeceljaaW.PrintWords Go.Proofs.YtjolmhokeceljaaW.PrintLast Go.Proofs.Ytjolmhokeceljaa.Ba

/-! ### ucd.Pair -/
theorem index_loop (s : List Int) (c : Int) (hm : s.length ≤ 1000000) : ∀ (k i : Nat), i ≤ s.length → s.length + 1 ≤ i + k → ∃ r, slices_Index_int_int.l0 k s c (s.length : Int) (i : Int) = some r ∧ (r ≥ 0 ↔ c ∈ s.drop i) := by
  intro k
  induction k with
  | zero => intro i h1 h2; omega
  | succ k ih =>
    intro i h1 h2
    unfold slices_Index_int_int.l0
    by_cases h : i < s.length
    · rw [if_pos (by omega), if_pos (by omega), if_pos (by omega), rd_nat s i h, List.drop_eq_getElem_cons h]
      by_cases e : c = s[i]
      · rw [if_pos e]
        exact ⟨_, rfl, fun _ => by rw [e]; exact List.mem_cons_self, fun _ => Int.natCast_nonneg i⟩
      · rw [if_neg e, wrap_in _ (by omega) (by omega), show ((i : Int) + 1) = ((i + 1 : Nat) : Int) from by omega]
        obtain ⟨r, hr, hi⟩ := ih (i + 1) (by omega) (by omega)
        exact ⟨r, hr, by rw [hi, List.mem_cons]; simp [e]⟩
    · rw [if_neg (by omega), List.drop_of_length_le (by omega)]
      exact ⟨_, rfl, by simp⟩
theorem contains_eq (s : List Int) (c : Int) (k : Nat) (hm : s.length ≤ 1000000) (hk : s.length + 1 ≤ k) : slices_Contains_int_int.f k s c = some (decide (c ∈ s)) := by
  obtain ⟨r, h, hi⟩ := index_loop s c hm k 0 (by omega) (by omega)
  unfold slices_Contains_int_int.f slices_Index_int_int.f
  rw [show (0 : Int) = ((0 : Nat) : Int) from rfl, h, Option.bind_some]
  simp only [List.drop_zero] at hi
  exact congrArg some (decide_eq_decide.2 hi)

def ent (x : Int × Int × Int) : S67 := ⟨x.1, x.2.1, x.2.2⟩
def canS : List S67 := Sob.canonT.map ent
theorem canS_eq : api_Canon.f 600 = some canS := by kernel_rfl
theorem canS_len : canS.length = 254 := by decide +kernel
theorem rd_ent (L : List S67) (i : Nat) (h : i < L.length) : rd_T67 L (i : Int) = L[i] := by
  simp [rd_T67, List.getD_eq_getElem?_getD, h]
theorem excl_eq : api_Excluded.f = some Sob.exclT := by kernel_rfl
/-- Which entries compose. -/
def cmpS (x : S67) : Bool := decide (x.f2 ≠ 0) && !decide (x.f0 ∈ Sob.exclT) && decide (Sob.lookR Sob.classT x.f0 = 0) && decide (Sob.lookR Sob.classT x.f1 = 0)
def lastS (a b : Int) : Option Int → List S67 → Option Int
  | o, [] => o
  | o, x :: r => lastS a b (if x.f1 = a ∧ x.f2 = b ∧ cmpS x = true then some x.f0 else o) r
theorem pair_loop (L : List S67) (a b : Int) (hm : L.length ≤ 1000000) : ∀ (k i : Nat) (o : Option Int), i ≤ L.length → L.length + 100 ≤ i + k → Ba.ucd_Pair.l0 k a b (duo o).1 (duo o).2 L (L.length : Int) (i : Int) = some (duo (lastS a b o (L.drop i))) := by
  intro k
  induction k with
  | zero => intro i o h1 h2; omega
  | succ k ih =>
    intro i o h1 h2
    unfold Ba.ucd_Pair.l0
    by_cases h : i < L.length
    · rw [if_pos (by omega), if_pos (by omega), if_pos (by omega), rd_ent L i h, List.drop_eq_getElem_cons h]
      have e1 : lastS a b o (L[i] :: L.drop (i + 1)) = lastS a b (if L[i].f1 = a ∧ L[i].f2 = b ∧ cmpS L[i] = true then some L[i].f0 else o) (L.drop (i + 1)) := rfl
      rw [e1, wrap_in _ (by omega) (by omega), show ((i : Int) + 1) = ((i + 1 : Nat) : Int) from by omega]
      have same (q : ¬ (L[i].f1 = a ∧ L[i].f2 = b ∧ cmpS L[i] = true)) : Ba.ucd_Pair.l0 k a b (duo o).1 (duo o).2 L (L.length : Int) ((i + 1 : Nat) : Int) = some (duo (lastS a b (if L[i].f1 = a ∧ L[i].f2 = b ∧ cmpS L[i] = true then some L[i].f0 else o) (L.drop (i + 1)))) := by
        rw [if_neg q]
        exact ih (i + 1) o (by omega) (by omega)
      by_cases p1 : L[i].f1 = a
      · rw [if_pos p1]
        by_cases p2 : L[i].f2 = b
        · rw [if_pos p2]
          by_cases p3 : b = 0
          · rw [if_pos p3]
            exact same (fun q => by simp [cmpS, p2, p3] at q)
          · rw [if_neg p3, excl_eq, Option.bind_some, contains_eq _ _ k (by decide) (by have : Sob.exclT.length = 6 := rfl; omega), Option.bind_some]
            by_cases p4 : L[i].f0 ∈ Sob.exclT
            · rw [if_pos (decide_eq_true p4)]
              exact same (fun q => by simp [cmpS, p4] at q)
            · rw [if_neg (by simpa using p4), clsS_eq, Option.bind_some, cls_flat k (by omega), Option.bind_some]
              by_cases p5 : Sob.lookR Sob.classT L[i].f0 = 0
              · rw [if_pos p5, Option.bind_some, cls_flat k (by omega), Option.bind_some]
                by_cases p6 : Sob.lookR Sob.classT L[i].f1 = 0
                · rw [if_pos p6, if_pos ⟨p1, p2, by simp [cmpS, p2, p3, p4, p5, p6]⟩]
                  exact ih (i + 1) (some L[i].f0) (by omega) (by omega)
                · rw [if_neg p6]
                  exact same (fun q => by simp [cmpS, p6] at q)
              · rw [if_neg p5]
                exact same (fun q => by simp [cmpS, p5] at q)
        · rw [if_neg p2]
          exact same (fun q => p2 q.2.1)
      · rw [if_neg p1]
        exact same (fun q => p1 q.1)
    · rw [if_neg (by omega), List.drop_of_length_le (by omega)]
      rfl
theorem canon_mono (n : Nat) : ∀ m r, api_Canon.f n = some r → api_Canon.f (n + m) = some r := by
  intro m
  induction m with
  | zero => intro r h; exact h
  | succ m ih => intro r h; exact api_Canon.mono _ _ (ih r h)

/-- Out of entries with distinct pairs the last one that composes is the first one. -/
theorem last_none (a b : Int) (L : List S67) (o : Option Int) (h : ∀ x ∈ L, ¬ (x.f1 = a ∧ x.f2 = b ∧ cmpS x = true)) : lastS a b o L = o := by
  induction L generalizing o with
  | nil => rfl
  | cons x r ih =>
    unfold lastS
    rw [if_neg (h x List.mem_cons_self)]
    exact ih o (fun y hy => h y (List.mem_cons_of_mem _ hy))
theorem last_pair (a b : Int) (L : List (Int × Int × Int)) (hd : (L.map (fun x => x.2)).Nodup) (o : Option Int) : lastS a b o (L.map ent) = (Sob.pairOf a b (L.filter (fun x => cmpS (ent x)))).or o := by
  induction L generalizing o with
  | nil => rfl
  | cons x r ih =>
    rw [List.map_cons, List.nodup_cons] at hd
    rw [List.map_cons]
    unfold lastS
    by_cases q : (ent x).f1 = a ∧ (ent x).f2 = b ∧ cmpS (ent x) = true
    · rw [if_pos q, last_none]
      · rw [List.filter_cons_of_pos (by exact q.2.2)]
        obtain ⟨x0, x1, x2⟩ := x
        have e1 : x1 = a := q.1
        have e2 : x2 = b := q.2.1
        unfold Sob.pairOf
        rw [if_pos ⟨e1, e2⟩]
        rfl
      · intro y hy hq
        obtain ⟨z, hz, rfl⟩ := List.mem_map.1 hy
        refine hd.1 (List.mem_map.2 ⟨z, hz, ?_⟩)
        exact Prod.ext (hq.1.trans q.1.symm) (hq.2.1.trans q.2.1.symm)
    · rw [if_neg q, ih hd.2]
      by_cases c : cmpS (ent x) = true
      · rw [List.filter_cons_of_pos (by exact c)]
        obtain ⟨x0, x1, x2⟩ := x
        have : Sob.pairOf a b ((x0, x1, x2) :: r.filter (fun x => cmpS (ent x))) = Sob.pairOf a b (r.filter (fun x => cmpS (ent x))) := by
          show (if x1 = a ∧ x2 = b then _ else _) = _
          rw [if_neg (fun e => q ⟨e.1, e.2, c⟩)]
        rw [this]
      · rw [List.filter_cons_of_neg (by exact c)]
theorem comp_eq : Sob.compT = Sob.canonT.filter (fun x => cmpS (ent x)) := by decide +kernel
theorem canon_dist : (Sob.canonT.map (fun x => x.2)).Nodup := by decide +kernel
theorem pair_eq (a b : Int) : Ba.ucd_Pair.f 600 a b = some (duo (Sob.pair a b)) := by
  unfold Ba.ucd_Pair.f
  rw [canS_eq, Option.bind_some]
  have := pair_loop canS a b (by rw [canS_len]; omega) 600 0 none (by omega) (by rw [canS_len]; omega)
  have e : lastS a b none (canS.drop 0) = Sob.pair a b := by
    rw [List.drop_zero]
    unfold canS Sob.pair
    rw [last_pair a b _ canon_dist, comp_eq, Option.or_none]
  rw [e] at this
  exact this
def ucd_Pair.f (a0 a1 : Int) : Option (Int × Bool) := some (duo (Sob.pair a0 a1))
theorem ucd_Pair.calls (a0 : Int) (a1 : Int) (r1 : Int) (r2 : Bool) (w : World) (h : ucd_Pair.f a0 a1 = some (r1, r2)) :
    Calls Try.prog 35 #[.int .i64 a0, .int .i64 a1] w fun e w' => e = .returned (.tuple #[.int .i64 r1, .bool r2]) ∧ Below w.heap.size w w' :=
  Ba.ucd_Pair.calls 600 a0 a1 r1 r2 w ((pair_eq a0 a1).trans h)

end Go.Proofs.Ytjolmhokeceljaa.Own

namespace Go.Proofs.Ytjolmhokeceljaa.Own
open Go.RowKit Go.Proofs.YtjolmhokeceljaaW.PrintWords Go.Proofs.Ytjolmhokeceljaa.Ba

def lookE : List S67 → Int → List Int
  | [], _ => []
  | x :: r, c => if x.f0 = c then (if x.f2 = 0 then [x.f1] else [x.f1, x.f2]) else lookE r c
theorem lookE_drop (L : List S67) (k : Nat) (h : k < L.length) (c : Int) : lookE (L.drop k) c = if (rd_T67 L k).f0 = c then (if (rd_T67 L k).f2 = 0 then [(rd_T67 L k).f1] else [(rd_T67 L k).f1, (rd_T67 L k).f2]) else lookE (L.drop (k + 1)) c := by
  rw [List.drop_eq_getElem_cons h]
  simp [lookE, rd_T67, List.getD_eq_getElem?_getD, List.getElem?_eq_getElem h]
theorem lookE_map (L : List (Int × Int × Int)) (c : Int) : lookE (L.map ent) c = Sob.lookC L c := by
  induction L with
  | nil => rfl
  | cons x r ih =>
    obtain ⟨f, a, b⟩ := x
    simp only [List.map_cons, lookE, Sob.lookC, ih, ent]
def tk (y z : Int) : List Int := if z = 0 then [y] else [y, z]
theorem taken_eq (x y z : Int) : ucd_taken.f x y z = some (x, tk y z) := by
  unfold ucd_taken.f tk
  split <;> rfl

set_option maxRecDepth 100000 in
set_option maxHeartbeats 2000000 in
theorem found_arr (L : List S67) (A : Option Addr) (c : Nat) (key : Int) (w : World) (hC : Kd.C k67 w A L.length L) :
    Calls Try.prog 95 #[.slice A L.length c, .func (.func 96) #[] #[], .int .i64 key] w fun e w' => ∃ A' n c', e = .returned (.slice A' n c') ∧ (Kd.int .i64).C w' A' n (lookE L key) ∧ n ≤ c' ∧ Below w.heap.size w w' := by
  have hm := Kd.C_max hC
  have HC := Aside0.mk hC
  clear hC
  have hu := Try.underlying67
  go_enter Try.func95, Try.ntmps95
  go_wp2
  go_loopw [14] (fun i wr => ∃ k : Nat, k ≤ L.length ∧ i = .int .i64 k ∧ Hid (lookE (L.drop k) key = lookE L key) ∧ Below w.heap.size w wr) (fun i _ => L.length - (intOf i).toNat)
  case atStart => exact ⟨0, Nat.zero_le _, rfl, (show _ = _ by rw [List.drop_zero]), Below.refl _ _⟩
  case round =>
    obtain ⟨k, hk, rfl, HS, hb⟩ := hrel
    by_cases hlt : k < L.length
    · obtain ⟨ad, rfl, hc0, hc1, hc2⟩ := at_T67 HC.out (k : Int) (by omega) (by omega)
      have hc0' := (hb.cell (World.block_lt_of_cell? w _ hc0)).trans hc0
      have hc1' := (hb.cell (World.block_lt_of_cell? w _ hc1)).trans hc1
      have hc2' := (hb.cell (World.block_lt_of_cell? w _ hc2)).trans hc2
      have hs := hb.size
      rw [Int.toNat_natCast] at hc0' hc1' hc2'
      clear hc0 hc1 hc2
      have HE := Aside0.mk (lookE_drop L k hlt key)
      go_wp2_with (first | (go_at_call 96; refine (ucd_taken.calls _ _ _ _ _ _ (taken_eq _ _ _)).mono ?_; rintro e w' ⟨v1, rfl, HR, hb1⟩; obtain ⟨A1, c1, rfl, hl1, hi1⟩ := Kd.R_reads HR; replace hl1 := Aside0.mk hl1; replace hi1 := Aside0.mk hi1; clear HR))
      all_goals have hbw : Below w.heap.size w w' := (hb.alloc hs _).trans (hb1.mono (by simp; omega))
      · have hkey : (rd_T67 L k).f0 = key := beq_iff_eq.1 ‹_›
        have e := HS.out
        have e2 := HE.out
        rw [if_pos hkey] at e2
        rw [e2] at e
        go_ret
        exact ⟨A1, _, c1, rfl, by rw [← e]; exact hi1.out, hl1.out, hbw⟩
      · have hkey : ¬ (rd_T67 L k).f0 = key := beq_eq_false_iff_ne.1 ‹_›
        have e := HS.out
        have e2 := HE.out
        rw [if_neg hkey] at e2
        rw [e2] at e
        go_roundw
        case rel => exact ⟨k + 1, by omega, by go_num, (show _ = _ from e), hbw⟩
        case measure => simp [intOf]; omega
    · have e := HS.out
      rw [List.drop_of_length_le (by omega)] at e
      have hk2 : k = L.length := by omega
      clear HS
      subst hk2
      have He := Aside0.mk e
      clear e
      go_wp2
      go_ret
      exact ⟨none, 0, 0, rfl, by rw [← He.out]; exact Kd.C_nil _ _, Nat.le_refl _, hb⟩

theorem lookC_len (L : List (Int × Int × Int)) (c : Int) : (Sob.lookC L c).length ≤ 2 := by
  induction L with
  | nil => simp [Sob.lookC]
  | cons x r ih =>
    obtain ⟨f, a, b⟩ := x
    simp only [Sob.lookC]
    split
    · split <;> simp
    · exact ih
theorem canon_len (c : Int) : (Sob.canon c).length ≤ 2 := lookC_len _ c

def ucd_Canon.f (a0 : Int) : Option (List Int) := some (Sob.canon a0)
set_option maxRecDepth 100000 in
set_option maxHeartbeats 2000000 in
theorem ucd_Canon.calls (a0 : Int) (r : List Int) (w : World) (h : ucd_Canon.f a0 = some r) :
    Calls Try.prog 55 #[.int .i64 a0] w fun e w' => ∃ v0_ : Value, e = .returned (v0_) ∧ Kd.R (Kd.int .i64) 3 w' w.heap.size (fun _ => True) v0_ r ∧ Below w.heap.size w w' := by
  obtain rfl := Option.some.inj h
  clear h
  have hl := canon_len a0
  go_enter Try.func55, Try.ntmps55
  go_wp2_with (go_at_call 76; refine (api_Canon.calls 600 canS _ canS_eq).mono ?_; rintro e w1 ⟨v0, rfl, HR, hb1⟩; obtain ⟨A, c, rfl, hlc, HC⟩ := Kd.R_reads HR; clear HR; replace HC := Aside0.mk HC; replace hb1 := Aside0.mk hb1)
  go_wp2_with (go_at_call 95; refine (found_arr canS A c a0 w1 HC.out).mono ?_; rintro e w2 ⟨A2, n2, c2, rfl, HC2, hn2, hb2⟩; have hn := Kd.C_len HC2; subst hn; replace HC2 := Aside0.mk HC2; replace hb2 := Aside0.mk hb2)
  go_wp2_with (go_at_call 71; refine (clone_any (lookE canS a0) A2 c2 w2 HC2.out (by rw [show lookE canS a0 = Sob.canon a0 from lookE_map _ _]; omega)).mono ?_; rintro e w3 ⟨v3, rfl, HR3, hb3⟩; replace HR3 := Aside0.mk HR3; replace hb3 := Aside0.mk hb3)
  go_ret
  have hb : Below w.heap.size w w3 := below_then (below_then hb1.out hb1.out.size hb2.out) (Nat.le_trans hb1.out.size hb2.out.size) hb3.out
  exact ⟨v3, rfl, by rw [show Sob.canon a0 = lookE canS a0 from (lookE_map _ _).symm]; exact Kd.R_lower HR3.out (Nat.le_trans hb1.out.size hb2.out.size), hb⟩

end Go.Proofs.Ytjolmhokeceljaa.Own
