/-
  The contracts of 'ucd.mapped', of 'ucd.found' over maps with it, and of 'slices.Clone' of ints.
-/
import Derived.Test.YtjolmhokeceljaaRun
import Derived.Test.YtjolmhokeceljaaBa0
namespace Go.Proofs.Ytjolmhokeceljaa.Own
open Go.RowKit Go.Proofs.YtjolmhokeceljaaW.PrintWords Go.Proofs.Ytjolmhokeceljaa.Ba

/-- What the first map from a number maps it to. -/
def lookS : List S60 → Int → List Int
  | [], _ => []
  | x :: r, c => if x.f0 = c then x.f1 else lookS r c
theorem lookS_drop (L : List S60) (k : Nat) (h : k < L.length) (c : Int) : lookS (L.drop k) c = if (rd_T60 L k).f0 = c then (rd_T60 L k).f1 else lookS (L.drop (k + 1)) c := by
  rw [List.drop_eq_getElem_cons h]
  simp [lookS, rd_T60, List.getD_eq_getElem?_getD, List.getElem?_eq_getElem h]

set_option maxRecDepth 100000 in
theorem mapped_any (x : Int) (A : Option Addr) (n c : Nat) (w : World) :
    Calls Try.prog 74 #[.agg #[.int .i64 x, .slice A n c]] w fun e w' => e = .returned (.tuple #[.int .i64 x, .slice A n c]) ∧ Below w.heap.size w w' := by
  have hu := Try.underlying60
  go_enter Try.func74, Try.ntmps74
  go_wp2
  go_quiet (fail)
  go_wp2
  go_ret2
  exact ⟨rfl, below_drewN ((Below.refl _ _).alloc (Nat.le_refl _) _) _⟩

set_option maxRecDepth 100000 in
set_option maxHeartbeats 2000000 in
theorem found_maps (L : List S60) (A : Option Addr) (c : Nat) (key : Int) (w : World) (hC : Kd.C k60 w A L.length L) :
    Calls Try.prog 72 #[.slice A L.length c, .func (.func 74) #[] #[], .int .i64 key] w fun e w' => ∃ A' n c', e = .returned (.slice A' n c') ∧ (Kd.int .i64).C w' A' n (lookS L key) ∧ n ≤ c' ∧ Below w.heap.size w w' := by
  have hm := Kd.C_max hC
  have HC := Aside0.mk hC
  clear hC
  have hu := Try.underlying60
  go_enter Try.func72, Try.ntmps72
  go_wp2
  go_loopw [14] (fun i wr => ∃ k : Nat, k ≤ L.length ∧ i = .int .i64 k ∧ Hid (lookS (L.drop k) key = lookS L key) ∧ Below w.heap.size w wr) (fun i _ => L.length - (intOf i).toNat)
  case atStart => exact ⟨0, Nat.zero_le _, rfl, (show _ = _ by rw [List.drop_zero]), Below.refl _ _⟩
  case round =>
    obtain ⟨k, hk, rfl, HS, hb⟩ := hrel
    by_cases hlt : k < L.length
    · obtain ⟨ad, A1, c1, rfl, hc0, hc1, hl1, hi1⟩ := at_T60 HC.out (k : Int) (by omega) (by omega)
      have hc0' := (hb.cell (World.block_lt_of_cell? w _ hc0)).trans hc0
      have hc1' := (hb.cell (World.block_lt_of_cell? w _ hc1)).trans hc1
      have hs := hb.size
      rw [Int.toNat_natCast] at hc0' hc1'
      clear hc0 hc1
      have HL := Aside0.mk hl1
      have HI := Aside0.mk hi1
      have HE := Aside0.mk (lookS_drop L k hlt key)
      clear hl1 hi1
      go_wp2_with (first | (go_at_call 74; refine (mapped_any _ _ _ _ _).mono ?_; rintro e w' ⟨rfl, hb1⟩))
      all_goals have hbw : Below w.heap.size w w' := (hb.alloc hs _).trans (hb1.mono (by simp; omega))
      · have hkey : (rd_T60 L k).f0 = key := beq_iff_eq.1 ‹_›
        have e := HS.out
        have e2 := HE.out
        rw [if_pos hkey] at e2
        rw [e2] at e
        go_ret
        exact ⟨A1, _, c1, rfl, by rw [← e]; exact Kd.C_below HI.out hbw, HL.out, hbw⟩
      · have hkey : ¬ (rd_T60 L k).f0 = key := beq_eq_false_iff_ne.1 ‹_›
        have e := HS.out
        have e2 := HE.out
        rw [if_neg hkey] at e2
        rw [e2] at e
        go_roundw
        case rel => exact ⟨k + 1, by omega, by go_num, (show _ = _ from e), hbw⟩
        case measure => simp [intOf]; omega
    · have e := HS.out
      rw [List.drop_of_length_le (by omega)] at e
      have hk2 : k = L.length := by omega
      clear HS
      subst hk2
      have He := Aside0.mk e
      clear e
      go_wp2
      go_ret
      exact ⟨none, 0, 0, rfl, by rw [← He.out]; exact Kd.C_nil _ _, Nat.le_refl _, hb⟩

end Go.Proofs.Ytjolmhokeceljaa.Own
