/-
  The contracts of 'sobriquetkeep.Ints' (are two lists of ints the same) and 'sobriquetkeep.TwinInts' (a copy), by pure words.
-/
import Derived.Test.YtjolmhokeceljaaRun
import Derived.Test.YtjolmhokeceljaaBa12
namespace Go.Proofs.Ytjolmhokeceljaa.Own
open Go.RowKit Go.Proofs.YtjolmhokeceljaaW.PrintWords

theorem wrap_in (i : Int) (h0 : -9223372036854775808 ≤ i) (h1 : i ≤ 9223372036854775807) : wrap64 i = i := by unfold wrap64; omega
theorem rd_nat (xs : List Int) (k : Nat) (h : k < xs.length) : rd xs (k : Int) = xs[k] := by simp [rd, List.getD_eq_getElem?_getD, h]

theorem ints_loop (xs ys : List Int) (hl : xs.length = ys.length) (hm : xs.length ≤ 9223372036854775807) (d : Nat) : ∀ i : Nat, i + d = xs.length → Ba.sobriquetkeep_Ints.l0 (d + 1) xs ys i = some (decide (xs.drop i = ys.drop i)) := by
  induction d with
  | zero =>
    intro i hi
    have h : ¬ (i : Int) < (xs.length : Int) := by omega
    simp only [Ba.sobriquetkeep_Ints.l0, if_neg h]
    rw [List.drop_of_length_le (by omega), List.drop_of_length_le (by omega)]
    rfl
  | succ d ih =>
    intro i hi
    have h : (i : Int) < (xs.length : Int) := by omega
    have hx : i < xs.length := by omega
    have hy : i < ys.length := by omega
    unfold Ba.sobriquetkeep_Ints.l0
    rw [if_pos h, if_pos (by omega), if_pos (by omega), rd_nat xs i hx, rd_nat ys i hy]
    rw [List.drop_eq_getElem_cons hx, List.drop_eq_getElem_cons hy]
    by_cases e : xs[i] = ys[i]
    · rw [if_pos e, wrap_in _ (by omega) (by omega)]
      have := ih (i + 1) (by omega)
      rw [show ((i : Int) + 1) = ((i + 1 : Nat) : Int) from by omega, this]
      simp only [List.cons.injEq, e, true_and]
    · rw [if_neg e]
      simp only [List.cons.injEq, e, false_and, decide_false]

def sobriquetkeep_Ints.f (l0 l1 : List Int) : Option Bool := some (decide (l0 = l1))
theorem ints_eq (xs ys : List Int) (hm : xs.length ≤ 9223372036854775807) : Ba.sobriquetkeep_Ints.f (xs.length + 1) xs ys = some (decide (xs = ys)) := by
  unfold Ba.sobriquetkeep_Ints.f
  by_cases hl : (xs.length : Int) = (ys.length : Int)
  · rw [if_pos hl]
    have := ints_loop xs ys (by omega) hm xs.length 0 (by omega)
    simpa using this
  · rw [if_neg hl]
    have : xs ≠ ys := fun e => hl (by rw [e])
    simp [this]
theorem sobriquetkeep_Ints.calls (A0 : Option Addr) (c0 : Nat) (l0 : List Int) (A1 : Option Addr) (c1 : Nat) (l1 : List Int) (r : Bool) (w : World) (hr0 : Kd.C (Kd.int .i64) w A0 l0.length l0) (hc0 : l0.length ≤ c0) (hr1 : Kd.C (Kd.int .i64) w A1 l1.length l1) (hc1 : l1.length ≤ c1) (h : sobriquetkeep_Ints.f l0 l1 = some r) :
    Calls Try.prog 27 #[.slice A0 l0.length c0, .slice A1 l1.length c1] w fun e w' => e = .returned (.bool r) ∧ Drawn0 w w' :=
  Ba.sobriquetkeep_Ints.calls (l0.length + 1) A0 c0 l0 A1 c1 l1 r w hr0 hc0 hr1 hc1 ((ints_eq l0 l1 (Kd.C_max hr0)).trans h)

def sobriquetkeep_TwinInts.f (l0 : List Int) : Option (List Int) := if l0.length ≤ 100000000 then some l0 else none
theorem sobriquetkeep_TwinInts.calls (A0 : Option Addr) (c0 : Nat) (l0 : List Int) (r : List Int) (w : World) (hr0 : Kd.C (Kd.int .i64) w A0 l0.length l0) (hc0 : l0.length ≤ c0) (h : sobriquetkeep_TwinInts.f l0 = some r) :
    Calls Try.prog 28 #[.slice A0 l0.length c0] w fun e w' => ∃ v0_ : Value, e = .returned (v0_) ∧ Kd.R (Kd.int .i64) 3 w' w.heap.size (fun _ => True) v0_ r ∧ Below w.heap.size w w' := by
  unfold sobriquetkeep_TwinInts.f at h
  split at h
  · refine Ba.sobriquetkeep_TwinInts.calls A0 c0 l0 r w hr0 hc0 ?_
    unfold Ba.sobriquetkeep_TwinInts.f
    rw [if_pos (by simp; omega), List.nil_append]
    exact h
  · cases h

end Go.Proofs.Ytjolmhokeceljaa.Own
