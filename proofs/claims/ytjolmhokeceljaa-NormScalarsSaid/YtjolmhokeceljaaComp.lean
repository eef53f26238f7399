/-
  The contracts of 'compose.Two' and 'compose.All', by the words of the pure model.
-/
import Derived.Test.YtjolmhokeceljaaCm
namespace Go.Proofs.Ytjolmhokeceljaa.Own
open Go.RowKit Go.Proofs.YtjolmhokeceljaaW.PrintWords

theorem two_eq (a b : Int) : Cm.compose_Two.f a b = some (duo (Sob.two a b)) := by
  unfold Cm.compose_Two.f hangul_Join.f ucd_Pair.f Sob.two
  rw [Option.bind_some]
  cases Sob.join a b with
  | some c => rfl
  | none => rfl
def compose_Two.f (a0 a1 : Int) : Option (Int × Bool) := some (duo (Sob.two a0 a1))
theorem compose_Two.calls (a0 : Int) (a1 : Int) (r1 : Int) (r2 : Bool) (w : World) (h : compose_Two.f a0 a1 = some (r1, r2)) :
    Calls Try.prog 32 #[.int .i64 a0, .int .i64 a1] w fun e w' => e = .returned (.tuple #[.int .i64 r1, .bool r2]) ∧ Below w.heap.size w w' :=
  Cm.compose_Two.calls a0 a1 r1 r2 w ((two_eq a0 a1).trans h)

def atOf (t : Sob.CSt) : Int := match t.2.1 with
  | none => -1
  | some _ => t.1.length
def stOk (t : Sob.CSt) : Prop := t.2.1 = none → t.1 = []
theorem push_row (t : Sob.CSt) (c : Int) : Sob.crow (Sob.cpush t c) = Sob.crow t ++ [c] := by
  obtain ⟨p, a, m⟩ := t
  unfold Sob.cpush
  split
  · simp [Sob.crow]
  · simp [Sob.crow]
theorem step_len (t : Sob.CSt) (c : Int) : (Sob.crow (Sob.cstep t c)).length ≤ (Sob.crow t).length + 1 := by
  have hp : (Sob.crow (Sob.cpush t c)).length ≤ (Sob.crow t).length + 1 := by rw [push_row]; simp
  unfold Sob.cstep
  split
  · exact hp
  · rename_i a e
    split
    · exact hp
    · split
      · obtain ⟨p, s, m⟩ := t
        subst e
        simp [Sob.crow]
      · exact hp
theorem step_ok (t : Sob.CSt) (c : Int) (h : stOk t) : stOk (Sob.cstep t c) := by
  have hp : stOk (Sob.cpush t c) := by
    unfold Sob.cpush
    split
    · exact fun e => by cases e
    · exact h
  unfold Sob.cstep
  split
  · exact hp
  · split
    · exact hp
    · split
      · exact fun e => by cases e
      · exact hp
theorem behind_eq (t : Sob.CSt) (h : stOk t) : ((Sob.crow t).length : Int) - 1 > atOf t ↔ t.2.2 ≠ [] := by
  obtain ⟨p, a, m⟩ := t
  have hm : m ≠ [] ↔ 0 < m.length := List.length_pos_iff.symm
  cases a with
  | none =>
    have : p = [] := h rfl
    subst this
    rw [show ((([] : List Int), (none : Option Int), m) : Sob.CSt).2.2 = m from rfl, hm, show Sob.crow (([] : List Int), (none : Option Int), m) = m from rfl, show atOf (([] : List Int), (none : Option Int), m) = -1 from rfl]
    omega
  | some a =>
    rw [show ((p, some a, m) : Sob.CSt).2.2 = m from rfl, hm, show Sob.crow (p, some a, m) = p ++ a :: m from rfl, show atOf (p, some a, m) = (p.length : Int) from rfl, List.length_append, List.length_cons]
    omega
theorem last_row (t : Sob.CSt) (h : t.2.2 ≠ []) : (Sob.crow t).getD ((Sob.crow t).length - 1) 0 = t.2.2.getLast h ∧ t.2.2.getLast? = some (t.2.2.getLast h) := by
  refine ⟨?_, List.getLast?_eq_some_getLast h⟩
  have hl : Sob.crow t = (t.1 ++ t.2.1.toList) ++ t.2.2 := by simp [Sob.crow]
  have e : (Sob.crow t).getLast? = some (t.2.2.getLast h) := by
    rw [hl, List.getLast?_append, List.getLast?_eq_some_getLast h]
    rfl
  rw [List.getLast?_eq_getElem?] at e
  rw [List.getD_eq_getElem?_getD, e]
  rfl

theorem compose_loop (s : List Int) (hm : s.length ≤ 1000000) : ∀ (d i k : Nat) (t : Sob.CSt), i + d = s.length → 3 * d + 1 ≤ k → stOk t → (Sob.crow t).length ≤ i →
    Cm.compose_All.l0 k (Sob.crow t) (atOf t) s (s.length : Int) (i : Int) = some (Sob.crow ((s.drop i).foldl Sob.cstep t)) := by
  intro d
  induction d with
  | zero =>
    intro i k t hi hk ho hl
    obtain ⟨k, rfl⟩ : ∃ k', k = k' + 1 := ⟨k - 1, by omega⟩
    unfold Cm.compose_All.l0
    rw [if_neg (by omega), List.drop_of_length_le (by omega)]
    rfl
  | succ d ih =>
    intro i k t hi hk ho hl
    obtain ⟨k, rfl⟩ : ∃ k', k = k' + 3 := ⟨k - 3, by omega⟩
    have h : i < s.length := by omega
    have step : Cm.compose_All.l0 k (Sob.crow (Sob.cstep t s[i])) (atOf (Sob.cstep t s[i])) s (s.length : Int) ((i : Int) + 1) = some (Sob.crow ((s.drop i).foldl Sob.cstep t)) := by
      rw [List.drop_eq_getElem_cons h, List.foldl_cons]
      have := ih (i + 1) k (Sob.cstep t s[i]) (by omega) (by omega) (step_ok t _ ho) (by have := step_len t s[i]; omega)
      exact this
    have wi : wrap64 ((i : Int) + 1) = (i : Int) + 1 := wrap_in _ (by omega) (by omega)
    -- putting c behind the row
    have push (hp : Sob.cstep t s[i] = Sob.cpush t s[i]) (at_ : Int) (hat : at_ = atOf t) : (if (Sob.crow t).length < 17592186044416 then ((some (Sob.crow t ++ [s[i]] : List Int)).bind fun y116 => (if Sob.cls s[i] = 0 then (Cm.compose_All.l0 k y116 (wrap64 ((y116.length : Int) - 1)) s (s.length : Int) (wrap64 ((i : Int) + 1))) else (Cm.compose_All.l0 k y116 at_ s (s.length : Int) (wrap64 ((i : Int) + 1))))) else (none)) = some (Sob.crow ((s.drop i).foldl Sob.cstep t)) := by
      rw [if_pos (by omega), Option.bind_some, wi]
      rw [hp, push_row] at step
      by_cases z : Sob.cls s[i] = 0
      · rw [if_pos z, wrap_in _ (by omega) (by rw [List.length_append, List.length_singleton]; omega)]
        rw [← step]
        congr 1
        unfold Sob.cpush
        rw [if_pos z]
        simp [atOf]
      · rw [if_neg z, ← step, hat]
        congr 1
        unfold Sob.cpush
        rw [if_neg z]
        rfl
    -- whether it is put to the letter
    have last (b : Bool) (hb : b = Sob.blocked t.2.2 (Sob.cls s[i])) : Cm.compose_All.j1 (k + 2) (Sob.crow t) (atOf t) s[i] (Sob.cls s[i]) b s (s.length : Int) (i : Int) = some (Sob.crow ((s.drop i).foldl Sob.cstep t)) := by
      unfold Cm.compose_All.j1
      obtain ⟨p, a, m⟩ := t
      cases a with
      | none =>
        rw [if_neg (show ¬ atOf (p, none, m) ≥ 0 by simp [atOf])]
        unfold Cm.compose_All.j2
        rw [if_neg (by simp)]
        exact push rfl _ rfl
      | some a =>
        have hat : atOf (p, some a, m) = (p.length : Int) := rfl
        rw [if_pos (show atOf (p, some a, m) ≥ 0 by rw [hat]; omega)]
        unfold Cm.compose_All.j2
        cases hbb : b with
        | true =>
          rw [hbb] at hb
          rw [if_neg (by simp)]
          refine push ?_ _ rfl
          unfold Sob.cstep
          simp only
          rw [← hb, if_pos rfl]
        | false =>
          rw [hbb] at hb
          rw [if_pos (by simp), hat, if_pos (by omega)]
          have hrow : Sob.crow (p, some a, m) = p ++ a :: m := rfl
          have hpl : p.length < (Sob.crow (p, some a, m)).length := by rw [hrow]; simp
          rw [if_pos (by omega), rd_nat _ p.length hpl]
          have e : (Sob.crow (p, some a, m))[p.length] = a := by simp [hrow]
          rw [e, two_eq, Option.bind_some]
          have hst : Sob.cstep (p, some a, m) s[i] = match Sob.two a s[i] with
              | some n => (p, some n, m)
              | none => Sob.cpush (p, some a, m) s[i] := by
            unfold Sob.cstep
            simp only
            rw [← hb, if_neg (by simp)]
            cases Sob.two a s[i] <;> rfl
          cases ht : Sob.two a s[i] with
          | some n =>
            rw [ht] at hst
            rw [if_pos (show (duo (some n)).2 = true from rfl), wi]
            rw [hst] at step
            rw [← step]
            congr 1
            simp [duo, Sob.crow]
          | none =>
            rw [ht] at hst
            rw [if_neg (by simp [duo])]
            exact push hst _ hat.symm
    unfold Cm.compose_All.l0
    rw [if_pos (by omega), if_pos (by omega), if_pos (by omega), rd_nat s i h, show ucd_Class.f s[i] = some (Sob.cls s[i]) from rfl, Option.bind_some, wrap_in ((Sob.crow t).length - 1 : Int) (by omega) (by omega)]
    by_cases g : ((Sob.crow t).length : Int) - 1 > atOf t
    · have hne := (behind_eq t ho).1 g
      obtain ⟨l1, l2⟩ := last_row t hne
      have hpos : 0 < (Sob.crow t).length := by
        have : (Sob.crow t).length = t.1.length + (t.2.1.toList.length + t.2.2.length) := by simp [Sob.crow]
        have := List.length_pos_iff.2 hne
        omega
      rw [if_pos g, if_pos (by omega), if_pos (by omega)]
      have hr : rd (Sob.crow t) (((Sob.crow t).length : Int) - 1) = t.2.2.getLast hne := by
        rw [← l1]
        unfold rd
        congr 1
        omega
      rw [hr, show ucd_Class.f (t.2.2.getLast hne) = some (Sob.cls (t.2.2.getLast hne)) from rfl, Option.bind_some]
      have hbl : Sob.blocked t.2.2 (Sob.cls s[i]) = (decide (Sob.cls (t.2.2.getLast hne) = 0) || decide (Sob.cls s[i] ≤ Sob.cls (t.2.2.getLast hne))) := by
        unfold Sob.blocked
        rw [l2]
      by_cases z : Sob.cls (t.2.2.getLast hne) = 0
      · rw [if_pos z]
        exact last true (by rw [hbl]; simp [z])
      · rw [if_neg z]
        exact last _ (by rw [hbl]; simp [z])
    · have hne : t.2.2 = [] := by
        by_cases q : t.2.2 = []
        · exact q
        · exact absurd ((behind_eq t ho).2 q) g
      rw [if_neg g]
      exact last false (by rw [hne]; rfl)

theorem compose_len (s : List Int) (t : Sob.CSt) : (Sob.crow (s.foldl Sob.cstep t)).length ≤ (Sob.crow t).length + s.length := by
  induction s generalizing t with
  | nil => simp
  | cons c s ih =>
    rw [List.foldl_cons, List.length_cons]
    have := ih (Sob.cstep t c)
    have := step_len t c
    omega
theorem compose_le (s : List Int) : (Sob.compose s).length ≤ s.length := by
  have := compose_len s ([], none, [])
  simpa [Sob.compose, Sob.crow] using this
def compose_All.f (l0 : List Int) : Option (List Int) := if l0.length ≤ 1000000 then some (Sob.compose l0) else none
theorem compose_All.calls (A0 : Option Addr) (c0 : Nat) (l0 : List Int) (r : List Int) (w : World) (hr0 : Kd.C (Kd.int .i64) w A0 l0.length l0) (hc0 : l0.length ≤ c0) (h : compose_All.f l0 = some r) :
    Calls Try.prog 33 #[.slice A0 l0.length c0] w fun e w' => ∃ v0_ : Value, e = .returned (v0_) ∧ Kd.R (Kd.int .i64) 3 w' w.heap.size (fun _ => True) v0_ r ∧ Below w.heap.size w w' := by
  unfold compose_All.f at h
  split at h
  · rename_i hm
    refine Cm.compose_All.calls (3 * l0.length + 1) A0 c0 l0 r w hr0 hc0 ?_
    unfold Cm.compose_All.f
    exact (compose_loop l0 hm l0.length 0 _ ([], none, []) (by omega) (by omega) (fun _ => rfl) (by simp [Sob.crow])).trans h
  · cases h

end Go.Proofs.Ytjolmhokeceljaa.Own
