/-
  The contract of 'api.runes' (a loop over a string that appends each rune): for every string of at most 100000 bytes it returns the runes in order; and of small lemmas on a string's iterator.
-/
import Derived.Test.YtjolmhokeceljaaProg
import Derived.Test.YtjolmhokeceljaaWWords
import Derived.WalkKit
import Derived.WalkSpells
import Derived.WalkSmall
import Derived.Deep.LoopGhost
import Derived.Lib.OthersKept
import Derived.BigQuiet
import Derived.Deep.QuietTactic
namespace Go.Proofs.Ytjolmhokeceljaa.Own
open Go.RowKit Go.Proofs.YtjolmhokeceljaaW.PrintWords

theorem infoInt : (Try.prog.info? 3).map (fun i => (i.zero, i.size, i.bytes)) = some (some (.int .i64 0), 1, 8) := by kernel_rfl

theorem width_pos (s : ByteArray) (pos : Nat) (h : pos < s.size) : 1 ≤ (Utf8.decode s pos).2 := by
  by_cases ha : (s[pos]'h).toNat < 128
  · rw [decode_ascii s pos h ha]
    exact Nat.le_refl _
  · exact (decode_high s pos h (by omega)).2

/-- The runes of s from a position on, at most so many. -/
def runesFrom (s : ByteArray) : Nat → Nat → List Int
  | 0, _ => []
  | f + 1, pos => if pos < s.size then ((Utf8.decode s pos).1 : Int) :: runesFrom s f (pos + (Utf8.decode s pos).2) else []
theorem runesFrom_end (s : ByteArray) (f pos : Nat) (h : ¬ pos < s.size) : runesFrom s f pos = [] := by
  cases f with
  | zero => rfl
  | succ f => simp [runesFrom, h]
theorem runesFrom_step (s : ByteArray) (f pos : Nat) (h : pos < s.size) : runesFrom s (f + 1) pos = ((Utf8.decode s pos).1 : Int) :: runesFrom s f (pos + (Utf8.decode s pos).2) := by
  simp [runesFrom, h]
def runesOf (s : ByteArray) : List Int := runesFrom s s.size 0
def api_runes.f (a0 : ByteArray) : Option (List Int) := if a0.size ≤ 100000 then some (runesOf a0) else none

set_option maxRecDepth 1000000 in
set_option maxHeartbeats 4000000 in
theorem runes_any (s : ByteArray) (w : World) (hsz : s.size ≤ 100000) :
    Calls Try.prog 109 #[.string s] w fun e w' => ∃ v0_ : Value, e = .returned v0_ ∧ w'.ownsRow w.heap.size 3 1 v0_ (runesOf s).length (nums .i64 (runesOf s)) ∧ Below w.heap.size w w' := by
  obtain ⟨i0, hi, hz0, hz1, hz2⟩ := info_parts infoInt
  go_enter Try.func109, Try.ntmps109
  go_wp2
  go_loopw [3] (fun v wr => ∃ (pos fuel : Nat) (acc : List Int), wr.heap[w.heap.size]? = some (.stringIter s pos) ∧ wr.ownsRow (w.heap.size + 1) 3 1 v acc.length (nums .i64 acc) ∧ Below w.heap.size w wr ∧ Hid (acc ++ runesFrom s fuel pos = runesOf s) ∧ s.size ≤ pos + fuel ∧ acc.length ≤ pos) (fun _ wr => s.size - wr.iterPos w.heap.size)
  case atStart => exact ⟨0, s.size, [], World.iter_heap w s 0, World.ownsRow_nil _ _ _ _, (Below.refl _ _).alloc (Nat.le_refl _) _, (show _ = _ from rfl), by omega, by simp⟩
  case round =>
    obtain ⟨pos, fuel, acc, hit, hown, hbw, HS, hb, hlen⟩ := hrel
    have hpos0 := iterPos_of hit
    by_cases hp : pos < s.size
    · have hnx : ∀ ty, (Instr.next (.pointer (some ⟨w.heap.size, 0, none⟩)) true ty).run Try.prog wr = _ := fun ty => Lib.run_next_any_at wr w.heap.size s pos ty hit hp
      have hwd := width_pos s pos hp
      obtain ⟨fuel, rfl⟩ : ∃ f', fuel = f' + 1 := ⟨fuel - 1, by omega⟩
      have hit2 := Lib.iterAt_heap wr w.heap.size s pos (pos + (Utf8.decode s pos).2) hit
      have hbw2 := Lib.below_iterAt hbw (k := w.heap.size) (Nat.le_refl _) s (pos + (Utf8.decode s pos).2)
      have hown2 := ownsRow_iterAt hown (k := w.heap.size) (by omega) s (pos + (Utf8.decode s pos).2)
      obtain ⟨W1, hW1⟩ : ∃ W1, W1 = wr.iterAt w.heap.size s (pos + (Utf8.decode s pos).2) := ⟨_, rfl⟩
      rw [← hW1] at hnx hit2 hbw2 hown2
      have hBlt := lt_of_block hit2
      have hdl := decode_le s pos
      clear hW1 hit hown hbw
      go_wp2_with (at_builtin; refine wpList_append_own _ rfl _ _ 22 rfl (w.heap.size + 1) 3 i0 (.int .i64 0) 1 8 Try.underlying22 hi hz0 hz1 hz2 rfl (by decide) _ _ _ rfl (hown2.alloc _) ⟨W1.heap.size, 0, none⟩ 1 1 [.int .i64 ((Utf8.decode s pos).1 : Int)] rfl rfl (cell_one_new _ _ _) (by simp [Value.oneCell']) (by unfold maxLen; omega) (by omega) (by simp; omega) ?_; intro v' w3 hown' hgrow3 hnil3)
      have hgrow : (W1.alloc (.cells #[.int .i64 ((Utf8.decode s pos).1 : Int)] 3)).grownBy w3 u3.ownBlock := hgrow3
      have hit3 : w3.heap[w.heap.size]? = some (.stringIter s (pos + (Utf8.decode s pos).2)) := by
        rw [hgrow.block w.heap.size (by simp; omega) (fun h => by have := (hown2.lt _ h.symm).1; omega), Below.heap_alloc _ _ _ hBlt]; exact hit2
      have hbw3 : Below w.heap.size w w3 := Below.grown (hbw2.alloc (by omega) _) hgrow (by simp; omega) (fun j hj => by have := (hown2.lt _ hj).1; omega)
      have hown3 : w3.ownsRow (w.heap.size + 1) 3 1 v' (acc ++ [((Utf8.decode s pos).1 : Int)]).length (nums .i64 (acc ++ [((Utf8.decode s pos).1 : Int)])) := by
        rw [nums_append, List.length_append]; exact hown'
      have hs3 : acc ++ [((Utf8.decode s pos).1 : Int)] ++ runesFrom s fuel (pos + (Utf8.decode s pos).2) = runesOf s := by
        have := HS.out; rw [runesFrom_step s fuel pos hp] at this; rw [List.append_assoc]; exact this
      exact ⟨⟨_, fuel, _, hit3, hown3, hbw3, hs3, by omega, by rw [List.length_append, List.length_singleton]; omega⟩, by rw [iterPos_of hit3, hpos0]; omega⟩
    · have hnx : ∀ ty, (Instr.next (.pointer (some ⟨w.heap.size, 0, none⟩)) true ty).run Try.prog wr = _ := fun ty => Lib.run_next_end_at wr w.heap.size s pos ty hit hp
      have e : acc = runesOf s := by have := HS.out; rw [runesFrom_end s fuel pos hp, List.append_nil] at this; exact this
      subst e
      go_wp2
      go_ret
      exact ⟨u3, rfl, own_weaken hown (by omega), hbw⟩

theorem api_runes.calls (a0 : ByteArray) (r : List Int) (w : World) (h : api_runes.f a0 = some r) :
    Calls Try.prog 109 #[.string a0] w fun e w' => ∃ v0_ : Value, e = .returned (v0_) ∧ Kd.R (Kd.int .i64) 3 w' w.heap.size (fun _ => True) v0_ r ∧ Below w.heap.size w w' := by
  unfold api_runes.f at h
  split at h
  · rename_i hs
    obtain rfl := Option.some.inj h
    refine (runes_any a0 w hs).mono ?_
    rintro e w' ⟨v, he, ho, hb⟩
    exact ⟨v, he, Kd.R_of_own ho (fun _ _ => trivial), hb⟩
  · cases h

end Go.Proofs.Ytjolmhokeceljaa.Own
