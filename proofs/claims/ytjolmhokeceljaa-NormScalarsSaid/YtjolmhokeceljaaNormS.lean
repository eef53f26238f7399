/-
  The contracts of 'norm.quick', 'norm.Quick' and 'norm.Same'.
-/
import Derived.Test.YtjolmhokeceljaaNormQ
namespace Go.Proofs.Ytjolmhokeceljaa.Own
open Go.RowKit Go.Proofs.YtjolmhokeceljaaW.PrintWords Go.Proofs.YtjolmhokeceljaaW.PrintLast Go.Proofs.Ytjolmhokeceljaa.Ba
set_option linter.unusedVariables false

theorem quick_at (k : Bool) (c : Int) : Sob.quick1 k c = (!(Sob.jam c || (Sob.cls c != 0)) && ((decide (Sob.dec k c = [c])) && !Sob.second c)) := by
  have e : decide (Sob.cls c ≠ 0) = (Sob.cls c != 0) := by
    by_cases h : Sob.cls c = 0 <;> simp [h]
  unfold Sob.quick1
  rw [e]

set_option maxRecDepth 100000 in
set_option maxHeartbeats 8000000 in
theorem quick_any (c : Int) (k : Bool) (w : World) :
    Calls Try.prog 93 #[.int .i64 c, .bool k] w fun e w' => e = .returned (.bool (Sob.quick1 k c)) ∧ Below w.heap.size w w' := by
  have CL := fun W : World => ucd_Class.calls c _ W rfl
  have D := fun W : World => decomp_One.calls c k (Sob.dec k c) W rfl
  have S := second_any c
  have hjam : Sob.jam c = true ∨ ((¬ 4449 ≤ c ∨ ¬ c ≤ 4469) ∧ (¬ 4520 ≤ c ∨ ¬ c ≤ 4546)) := by
    unfold Sob.jam
    by_cases h1 : 4449 ≤ c <;> by_cases h2 : c ≤ 4469 <;> by_cases h3 : 4520 ≤ c <;> by_cases h4 : c ≤ 4546 <;> simp [h1, h2, h3, h4]
  rcases hjam with hj | ⟨hj1, hj2⟩
  · have HR := Aside0.mk (show Sob.quick1 k c = false by rw [quick_at, hj]; rfl)
    have hv : (4449 ≤ c ∧ c ≤ 4469) ∨ (4520 ≤ c ∧ c ≤ 4546) := by
      unfold Sob.jam at hj
      simpa using hj
    clear hj
    go_enter Try.func93, Try.ntmps93
    rcases hv with ⟨h1, h2⟩ | ⟨h1, h2⟩
    · go_wp2
      go_ret
      exact ⟨by rw [HR.out]; rfl, Below.refl _ _⟩
    · have h0 : ¬ c ≤ 4469 := by omega
      have h00 : 4449 ≤ c := by omega
      go_wp2
      go_ret
      exact ⟨by rw [HR.out]; rfl, Below.refl _ _⟩
  · have hj : Sob.jam c = false := by
      unfold Sob.jam
      rcases hj1 with h | h <;> rcases hj2 with h' | h' <;> simp [h, h']
    have HJ := Aside0.mk hj
    by_cases hc : Sob.cls c = 0
    · rw [hc] at CL
      have HQ := Aside0.mk (show Sob.quick1 k c = ((decide (Sob.dec k c = [c])) && !Sob.second c) by rw [quick_at, hj, hc]; rfl)
      have EQ := fun (A : Option Addr) (cp : Nat) (W : World) (hA : CI W A (Sob.dec k c).length (Sob.dec k c)) =>
        equal_any (Sob.dec k c) [c] A (some ⟨W.heap.size, 0, none⟩) cp 1 (W.alloc (.cells #[.int .i64 c] 3)) (Kd.C_alloc hA _) (Kd.R_reads' (RI.lit W W.heap.size [c] (Nat.le_refl _) (by simp))).2.2
      obtain ⟨l, hl⟩ : ∃ l, l = Sob.dec k c := ⟨_, rfl⟩
      rw [← hl] at D HQ EQ
      replace EQ := Aside0.mk EQ
      clear hl hc hj
      have core : ∀ (b : Bool), decide (l = [c]) = b → ∀ r : Bool, (b && !Sob.second c) = r → (4449 ≤ c → ¬ c ≤ 4469) → (4520 ≤ c → ¬ c ≤ 4546) →
          Calls Try.prog 93 #[.int .i64 c, .bool k] w fun e w' => e = .returned (.bool r) ∧ Below w.heap.size w w' := by
        intro b hb r hr q1 q2
        have EQ2 := EQ.out
        rw [hb] at EQ2
        have EQ3 := Aside0.mk EQ2
        have HRR := Aside0.mk hr
        clear EQ EQ2 hb hr HQ HJ hj1 hj2
        go_enter Try.func93, Try.ntmps93
        cases b with
        | true =>
          go_wp2_with (first | (go_at_call 37; refine (CL _).mono ?_; rintro e w1 ⟨rfl, hb1⟩; replace hb1 := Aside0.mk hb1) | (go_at_call 119; refine (D _).mono ?_; rintro e w2 ⟨v2, rfl, hr2, hb2⟩; obtain ⟨A2, c2, rfl⟩ := Kd.R_slice hr2; replace hr2 := Aside0.mk hr2; replace hb2 := Aside0.mk hb2) | (go_at_call 94; refine (EQ3.out A2 c2 _ (Kd.R_reads' hr2.out).2.2).mono ?_; rintro e w3 ⟨rfl, hb3⟩; replace hb3 := Aside0.mk (below_mid hb2.out hb3)) | (go_at_call 120; refine (S _).mono ?_; rintro e w4 ⟨rfl, hb4⟩; replace hb4 := Aside0.mk hb4))
          all_goals
            go_ret
            exact ⟨by rw [← HRR.out]; rfl, below_then (below_then hb1.out hb1.out.size hb3.out) (Nat.le_trans hb1.out.size hb3.out.size) hb4.out⟩
        | false =>
          go_wp2_with (first | (go_at_call 37; refine (CL _).mono ?_; rintro e w1 ⟨rfl, hb1⟩; replace hb1 := Aside0.mk hb1) | (go_at_call 119; refine (D _).mono ?_; rintro e w2 ⟨v2, rfl, hr2, hb2⟩; obtain ⟨A2, c2, rfl⟩ := Kd.R_slice hr2; replace hr2 := Aside0.mk hr2; replace hb2 := Aside0.mk hb2) | (go_at_call 94; refine (EQ3.out A2 c2 _ (Kd.R_reads' hr2.out).2.2).mono ?_; rintro e w3 ⟨rfl, hb3⟩; replace hb3 := Aside0.mk (below_mid hb2.out hb3)))
          all_goals
            go_ret
            exact ⟨by rw [← HRR.out]; rfl, below_then hb1.out hb1.out.size hb3.out⟩
      rw [HQ.out]
      exact core _ rfl _ rfl (fun h => by rcases hj1 with h' | h' <;> omega) (fun h => by rcases hj2 with h' | h' <;> omega)
    · have hcb : (Sob.cls c != 0) = true := by simpa using hc
      have HR := Aside0.mk (show Sob.quick1 k c = false by rw [quick_at, hj, hcb]; rfl)
      have q1 : 4449 ≤ c → ¬ c ≤ 4469 := fun h => by rcases hj1 with h' | h' <;> omega
      have q2 : 4520 ≤ c → ¬ c ≤ 4546 := fun h => by rcases hj2 with h' | h' <;> omega
      clear hj hj1 hj2 D S HJ
      go_enter Try.func93, Try.ntmps93
      go_wp2_with (go_at_call 37; refine (CL _).mono ?_; rintro e w1 ⟨rfl, hb1⟩; replace hb1 := Aside0.mk hb1)
      all_goals
        go_ret
        exact ⟨by rw [HR.out]; rfl, hb1.out⟩

set_option maxRecDepth 100000 in
theorem quick1_pred (B : Nat) (k : Bool) (w : World) (hB : B < w.heap.size) (hc : w.cell? ⟨B, 0, none⟩ = some (.bool k)) : PredI 92 #[.pointer (some ⟨B, 0, none⟩)] (fun x => !Sob.quick1 k x) w := by
  intro W x hb
  have hc' := (hb.cell (p := ⟨B, 0, none⟩) hB).trans hc
  have Q := quick_any x k
  show Calls Try.prog 92 #[.int .i64 x, .pointer (some ⟨B, 0, none⟩)] W _
  go_enter Try.func92, Try.ntmps92
  go_wp2_with (go_at_call 93; refine (Q _).mono ?_; rintro e w1 ⟨rfl, hb1⟩; replace hb1 := Aside0.mk hb1)
  go_ret
  exact ⟨rfl, below_then hb hb.size hb1.out⟩

def norm_Quick.f (l0 : List Int) (b1 : Bool) : Option (Bool) := some (Sob.quick b1 l0)
set_option maxRecDepth 100000 in
theorem norm_Quick.calls (A0 : Option Addr) (c0 : Nat) (l0 : List Int) (b1 : Bool) (r : Bool) (w : World) (hr0 : Kd.C (Kd.int .i64) w A0 l0.length l0) (_hc0 : l0.length ≤ c0) (h : norm_Quick.f l0 b1 = some r) :
    Calls Try.prog 53 #[.slice A0 l0.length c0, .bool b1] w fun e w' => e = .returned (.bool r) ∧ Below w.heap.size w w' := by
  obtain rfl := Option.some.inj h
  clear h
  have hbx := Boxed.new w 4 (.bool b1)
  have hb0 := (Below.refl w.heap.size w).alloc (Nat.le_refl _) (.cells #[.bool b1] 4)
  have H := Aside0.mk (contains_any l0 A0 c0 92 #[.pointer (some ⟨w.heap.size, 0, none⟩)] (enters_of Try.func92 (by kernel_rfl) rfl) (fun x => !Sob.quick1 b1 x) (w.alloc (.cells #[.bool b1] 4)) (Kd.C_alloc hr0 _) (quick1_pred _ b1 _ hbx.lt hbx.cell))
  have HE := Aside0.mk (show (!l0.any (fun x => !Sob.quick1 b1 x)) = Sob.quick b1 l0 by unfold Sob.quick; rw [List.not_any_eq_all_not]; simp)
  have HB := Aside0.mk hb0
  clear hbx hr0 hb0
  go_enter Try.func53, Try.ntmps53
  go_wp2_with (go_at_call 91; refine H.out.mono ?_; rintro e w1 ⟨rfl, hb1⟩; replace hb1 := Aside0.mk (below_then HB.out (by simp) hb1))
  go_ret
  exact ⟨by rw [← HE.out]; rfl, hb1.out⟩

def norm_Same.f (l0 l1 : List Int) (b2 : Bool) : Option (Bool) := if l0.length ≤ 20000 ∧ l1.length ≤ 20000 then some (decide (Sob.form b2 l0 = Sob.form b2 l1)) else none
set_option maxRecDepth 100000 in
theorem norm_Same.calls (A0 : Option Addr) (c0 : Nat) (l0 : List Int) (A1 : Option Addr) (c1 : Nat) (l1 : List Int) (b2 : Bool) (r : Bool) (w : World) (hr0 : Kd.C (Kd.int .i64) w A0 l0.length l0) (_hc0 : l0.length ≤ c0) (hr1 : Kd.C (Kd.int .i64) w A1 l1.length l1) (_hc1 : l1.length ≤ c1) (h : norm_Same.f l0 l1 b2 = some r) :
    Calls Try.prog 54 #[.slice A0 l0.length c0, .slice A1 l1.length c1, .bool b2] w fun e w' => e = .returned (.bool r) ∧ Below w.heap.size w w' := by
  unfold norm_Same.f at h
  split at h
  · rename_i hs
    obtain rfl := Option.some.inj h
    clear h
    have F0 := Aside0.mk (form_any l0 b2 A0 c0 w hr0 hs.1)
    have F1 := Aside0.mk (fun (W : World) (hb : Below w.heap.size w W) => form_any l1 b2 A1 c1 W (Kd.C_below hr1 hb) hs.2)
    clear hr0 hr1 hs
    go_enter Try.func54, Try.ntmps54
    go_wp2_with (go_at_call 50; refine F0.out.mono ?_; rintro e w1 ⟨v1, rfl, hr1, hb1⟩; obtain ⟨A2, c2, rfl⟩ := Kd.R_slice hr1; replace hr1 := Aside0.mk hr1; replace hb1 := Aside0.mk hb1; clear F0)
    go_wp2_with (go_at_call 50; refine (F1.out _ hb1.out).mono ?_; rintro e w2 ⟨v2, rfl, hr2, hb2⟩; obtain ⟨A3, c3, rfl⟩ := Kd.R_slice hr2; replace hr2 := Aside0.mk hr2; replace hb2 := Aside0.mk hb2; clear F1)
    go_wp2_with (go_at_call 94; refine (equal_any _ _ _ _ _ _ _ (Kd.C_below (Kd.R_reads' hr1.out).2.2 hb2.out) (Kd.R_reads' hr2.out).2.2).mono ?_; rintro e w3 ⟨rfl, hb3⟩; replace hb3 := Aside0.mk hb3)
    go_ret
    have h12 := below_then hb1.out hb1.out.size hb2.out
    exact ⟨rfl, below_then h12 h12.size hb3.out⟩
  · cases h

end Go.Proofs.Ytjolmhokeceljaa.Own
