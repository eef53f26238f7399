/-
  The contracts of 'slices.IndexFunc' and 'slices.ContainsFunc' of ints for any predicate; and of 'norm.Apart', 'norm.Form'.
-/
import Derived.Test.YtjolmhokeceljaaDecAll
import Derived.Test.YtjolmhokeceljaaOrdC
import Derived.Test.YtjolmhokeceljaaComp
namespace Go.Proofs.Ytjolmhokeceljaa.Sob

theorem next_len3 (k : Bool) (c : Int) : (next k c).length ≤ 3 := by
  rcases next_cases k c with h | ⟨_, e⟩ | ⟨_, e, _, _, h⟩ | ⟨_, _, _, e, he, _, h⟩
  · rw [h]; simp
  · rw [e]; unfold split; split <;> (try split) <;> simp
  · rw [h]; split <;> simp
  · rw [h]; exact of_decide_eq_true (List.all_eq_true.1 (show compatT.all (fun x => decide (x.2.length ≤ 3)) = true by decide +kernel) e he)
theorem decN_len3 (k : Bool) (n : Nat) : ∀ c : Int, (decN k n c).length ≤ 3 ^ n := by
  induction n with
  | zero => intro c; simp [decN]
  | succ n ih =>
    intro c
    by_cases h : next k c = []
    · rw [decN_stop k _ h]
      have := Nat.one_le_pow (n + 1) 3 (by omega)
      simpa using this
    · rw [decN_go k n h]
      have h1 := flat_le (f := decN k n) (l := next k c) (m := 3 ^ n) (fun y _ => ih y)
      have h2 := next_len3 k c
      have h3 : (next k c).length * 3 ^ n ≤ 3 * 3 ^ n := Nat.mul_le_mul_right _ h2
      rw [Nat.pow_succ, Nat.mul_comm]
      omega
theorem decAll_len27 (k : Bool) (s : List Int) : (decAll k s).length ≤ s.length * 27 := flat_le (fun y _ => decN_len3 k 3 y)
theorem apart_len (k : Bool) (s : List Int) : (apart k s).length ≤ s.length * 27 := by
  unfold apart
  rw [put_len]
  exact decAll_len27 k s
theorem form_len (k : Bool) (s : List Int) : (form k s).length ≤ s.length * 27 := Nat.le_trans (compose_len _) (apart_len k s)

end Go.Proofs.Ytjolmhokeceljaa.Sob
namespace Go.Proofs.Ytjolmhokeceljaa.Own
open Go.RowKit Go.Proofs.YtjolmhokeceljaaW.PrintWords Go.Proofs.YtjolmhokeceljaaW.PrintLast
set_option linter.unusedVariables false

theorem apart_any (xs : List Int) (k : Bool) (A : Option Addr) (c : Nat) (w : World) (hC : CI w A xs.length xs) (hlen : xs.length ≤ 20000) :
    Calls Try.prog 51 #[.slice A xs.length c, .bool k] w fun e w' => ∃ v, e = .returned v ∧ RI w' w.heap.size v (Sob.apart k xs) ∧ Below w.heap.size w w' := by
  have D := Aside0.mk (callsIn_wide.1 (decAll_in 4 (Nat.le_refl _) A c xs k w hC (by omega)))
  have hl := Aside0.mk (Sob.decAll_len27 k xs)
  clear hC
  go_enter Try.func51, Try.ntmps51
  go_wp2_with (first | (go_at_call 49; refine D.out.mono ?_; rintro e w1 ⟨v1, rfl, hr1, hb1⟩; obtain ⟨A1, c1, rfl⟩ := Kd.R_slice hr1; replace hr1 := Aside0.mk hr1; replace hb1 := Aside0.mk hb1) | (go_at_call 43; refine (put_any _ _ _ _ (Kd.R_reads' hr1.out).2.2 ?aL).mono ?_; (case aL => have := hl.out; omega); rintro e w2 ⟨v2, rfl, hr2, hb2⟩; replace hr2 := Aside0.mk hr2; replace hb2 := Aside0.mk hb2))
  go_ret
  exact ⟨v2, rfl, Kd.R_lower hr2.out hb1.out.size, below_then hb1.out hb1.out.size hb2.out⟩

def norm_Apart.f (l0 : List Int) (b1 : Bool) : Option (List Int) := if l0.length ≤ 20000 then some (Sob.apart b1 l0) else none
theorem norm_Apart.calls (A0 : Option Addr) (c0 : Nat) (l0 : List Int) (b1 : Bool) (r : List Int) (w : World) (hr0 : Kd.C (Kd.int .i64) w A0 l0.length l0) (_hc0 : l0.length ≤ c0) (h : norm_Apart.f l0 b1 = some r) :
    Calls Try.prog 51 #[.slice A0 l0.length c0, .bool b1] w fun e w' => ∃ v0_ : Value, e = .returned (v0_) ∧ Kd.R (Kd.int .i64) 3 w' w.heap.size (fun _ => True) v0_ r ∧ Below w.heap.size w w' := by
  unfold norm_Apart.f at h
  split at h
  · rename_i hs
    obtain rfl := Option.some.inj h
    exact apart_any l0 b1 A0 c0 w hr0 hs
  · cases h

theorem form_any (xs : List Int) (k : Bool) (A : Option Addr) (c : Nat) (w : World) (hC : CI w A xs.length xs) (hlen : xs.length ≤ 20000) :
    Calls Try.prog 50 #[.slice A xs.length c, .bool k] w fun e w' => ∃ v, e = .returned v ∧ RI w' w.heap.size v (Sob.form k xs) ∧ Below w.heap.size w w' := by
  have D := Aside0.mk (apart_any xs k A c w hC hlen)
  have hl := Aside0.mk (Sob.apart_len k xs)
  clear hC
  go_enter Try.func50, Try.ntmps50
  go_wp2_with (first | (go_at_call 51; refine D.out.mono ?_; rintro e w1 ⟨v1, rfl, hr1, hb1⟩; obtain ⟨A1, c1, rfl⟩ := Kd.R_slice hr1; replace hr1 := Aside0.mk hr1; replace hb1 := Aside0.mk hb1) | (go_at_call 33; refine (compose_All.calls _ _ _ (Sob.form k xs) _ (Kd.R_reads' hr1.out).2.2 (Kd.R_reads' hr1.out).2.1 ?aL).mono ?_; (case aL => exact if_pos (by have := hl.out; omega)); rintro e w2 ⟨v2, rfl, hr2, hb2⟩; replace hr2 := Aside0.mk hr2; replace hb2 := Aside0.mk hb2))
  go_ret
  exact ⟨v2, rfl, Kd.R_lower hr2.out hb1.out.size, below_then hb1.out hb1.out.size hb2.out⟩

def norm_Form.f (l0 : List Int) (b1 : Bool) : Option (List Int) := if l0.length ≤ 20000 then some (Sob.form b1 l0) else none
theorem norm_Form.calls (A0 : Option Addr) (c0 : Nat) (l0 : List Int) (b1 : Bool) (r : List Int) (w : World) (hr0 : Kd.C (Kd.int .i64) w A0 l0.length l0) (_hc0 : l0.length ≤ c0) (h : norm_Form.f l0 b1 = some r) :
    Calls Try.prog 50 #[.slice A0 l0.length c0, .bool b1] w fun e w' => ∃ v0_ : Value, e = .returned (v0_) ∧ Kd.R (Kd.int .i64) 3 w' w.heap.size (fun _ => True) v0_ r ∧ Below w.heap.size w w' := by
  unfold norm_Form.f at h
  split at h
  · rename_i hs
    obtain rfl := Option.some.inj h
    exact form_any l0 b1 A0 c0 w hr0 hs
  · cases h

end Go.Proofs.Ytjolmhokeceljaa.Own
