/-
  The contract of 'api.runes' (a loop over a string that appends each rune): for every string of at most 100000 bytes it returns the runes in order; and of small lemmas on a string's iterator.
  Straight operations run at once: where a list of operations without guards comes to values, a walk goes on behind it (the kernel reckons the run); and rows of literal maps.
-/
import Derived.Test.YtjolmhokeceljaaProg
import Derived.Test.YtjolmhokeceljaaWWords
import Derived.WalkKit
import Derived.WalkSpells
import Derived.WalkSmall
import Derived.Deep.LoopGhost
import Derived.Lib.OthersKept
import Derived.BigQuiet
import Derived.Deep.QuietTactic
namespace Go.Proofs.Ytjolmhokeceljaa.Own
open Go.RowKit Go.Proofs.YtjolmhokeceljaaW.PrintWords

theorem infoInt : (Try.prog.info? 3).map (fun i => (i.zero, i.size, i.bytes)) = some (some (.int .i64 0), 1, 8) := by kernel_rfl

theorem width_pos (s : ByteArray) (pos : Nat) (h : pos < s.size) : 1 ≤ (Utf8.decode s pos).2 := by
  by_cases ha : (s[pos]'h).toNat < 128
  · rw [decode_ascii s pos h ha]
    exact Nat.le_refl _
  · exact (decode_high s pos h (by omega)).2

/-- The runes of s from a position on, at most so many. -/
def runesFrom (s : ByteArray) : Nat → Nat → List Int
  | 0, _ => []
  | f + 1, pos => if pos < s.size then ((Utf8.decode s pos).1 : Int) :: runesFrom s f (pos + (Utf8.decode s pos).2) else []
theorem runesFrom_end (s : ByteArray) (f pos : Nat) (h : ¬ pos < s.size) : runesFrom s f pos = [] := by
  cases f with
  | zero => rfl
  | succ f => simp [runesFrom, h]
theorem runesFrom_step (s : ByteArray) (f pos : Nat) (h : pos < s.size) : runesFrom s (f + 1) pos = ((Utf8.decode s pos).1 : Int) :: runesFrom s f (pos + (Utf8.decode s pos).2) := by
  simp [runesFrom, h]
def runesOf (s : ByteArray) : List Int := runesFrom s s.size 0
def api_runes.f (a0 : ByteArray) : Option (List Int) := if a0.size ≤ 100000 then some (runesOf a0) else none

set_option maxRecDepth 1000000 in
set_option maxHeartbeats 4000000 in
theorem runes_any (s : ByteArray) (w : World) (hsz : s.size ≤ 100000) :
    Calls Try.prog 109 #[.string s] w fun e w' => ∃ v0_ : Value, e = .returned v0_ ∧ w'.ownsRow w.heap.size 3 1 v0_ (runesOf s).length (nums .i64 (runesOf s)) ∧ Below w.heap.size w w' := by
  obtain ⟨i0, hi, hz0, hz1, hz2⟩ := info_parts infoInt
  go_enter Try.func109, Try.ntmps109
  go_wp2
  go_loopw [3] (fun v wr => ∃ (pos fuel : Nat) (acc : List Int), wr.heap[w.heap.size]? = some (.stringIter s pos) ∧ wr.ownsRow (w.heap.size + 1) 3 1 v acc.length (nums .i64 acc) ∧ Below w.heap.size w wr ∧ Hid (acc ++ runesFrom s fuel pos = runesOf s) ∧ s.size ≤ pos + fuel ∧ acc.length ≤ pos) (fun _ wr => s.size - wr.iterPos w.heap.size)
  case atStart => exact ⟨0, s.size, [], World.iter_heap w s 0, World.ownsRow_nil _ _ _ _, (Below.refl _ _).alloc (Nat.le_refl _) _, (show _ = _ from rfl), by omega, by simp⟩
  case round =>
    obtain ⟨pos, fuel, acc, hit, hown, hbw, HS, hb, hlen⟩ := hrel
    have hpos0 := iterPos_of hit
    by_cases hp : pos < s.size
    · have hnx : ∀ ty, (Instr.next (.pointer (some ⟨w.heap.size, 0, none⟩)) true ty).run Try.prog wr = _ := fun ty => Lib.run_next_any_at wr w.heap.size s pos ty hit hp
      have hwd := width_pos s pos hp
      obtain ⟨fuel, rfl⟩ : ∃ f', fuel = f' + 1 := ⟨fuel - 1, by omega⟩
      have hit2 := Lib.iterAt_heap wr w.heap.size s pos (pos + (Utf8.decode s pos).2) hit
      have hbw2 := Lib.below_iterAt hbw (k := w.heap.size) (Nat.le_refl _) s (pos + (Utf8.decode s pos).2)
      have hown2 := ownsRow_iterAt hown (k := w.heap.size) (by omega) s (pos + (Utf8.decode s pos).2)
      obtain ⟨W1, hW1⟩ : ∃ W1, W1 = wr.iterAt w.heap.size s (pos + (Utf8.decode s pos).2) := ⟨_, rfl⟩
      rw [← hW1] at hnx hit2 hbw2 hown2
      have hBlt := lt_of_block hit2
      have hdl := decode_le s pos
      clear hW1 hit hown hbw
      go_wp2_with (at_builtin; refine wpList_append_own _ rfl _ _ 22 rfl (w.heap.size + 1) 3 i0 (.int .i64 0) 1 8 Try.underlying22 hi hz0 hz1 hz2 rfl (by decide) _ _ _ rfl (hown2.alloc _) ⟨W1.heap.size, 0, none⟩ 1 1 [.int .i64 ((Utf8.decode s pos).1 : Int)] rfl rfl (cell_one_new _ _ _) (by simp [Value.oneCell']) (by unfold maxLen; omega) (by omega) (by simp; omega) ?_; intro v' w3 hown' hgrow3 hnil3)
      have hgrow : (W1.alloc (.cells #[.int .i64 ((Utf8.decode s pos).1 : Int)] 3)).grownBy w3 u3.ownBlock := hgrow3
      have hit3 : w3.heap[w.heap.size]? = some (.stringIter s (pos + (Utf8.decode s pos).2)) := by
        rw [hgrow.block w.heap.size (by simp; omega) (fun h => by have := (hown2.lt _ h.symm).1; omega), Below.heap_alloc _ _ _ hBlt]; exact hit2
      have hbw3 : Below w.heap.size w w3 := Below.grown (hbw2.alloc (by omega) _) hgrow (by simp; omega) (fun j hj => by have := (hown2.lt _ hj).1; omega)
      have hown3 : w3.ownsRow (w.heap.size + 1) 3 1 v' (acc ++ [((Utf8.decode s pos).1 : Int)]).length (nums .i64 (acc ++ [((Utf8.decode s pos).1 : Int)])) := by
        rw [nums_append, List.length_append]; exact hown'
      have hs3 : acc ++ [((Utf8.decode s pos).1 : Int)] ++ runesFrom s fuel (pos + (Utf8.decode s pos).2) = runesOf s := by
        have := HS.out; rw [runesFrom_step s fuel pos hp] at this; rw [List.append_assoc]; exact this
      exact ⟨⟨_, fuel, _, hit3, hown3, hbw3, hs3, by omega, by rw [List.length_append, List.length_singleton]; omega⟩, by rw [iterPos_of hit3, hpos0]; omega⟩
    · have hnx : ∀ ty, (Instr.next (.pointer (some ⟨w.heap.size, 0, none⟩)) true ty).run Try.prog wr = _ := fun ty => Lib.run_next_end_at wr w.heap.size s pos ty hit hp
      have e : acc = runesOf s := by have := HS.out; rw [runesFrom_end s fuel pos hp, List.append_nil] at this; exact this
      subst e
      go_wp2
      go_ret
      exact ⟨u3, rfl, own_weaken hown (by omega), hbw⟩

theorem api_runes.calls (a0 : ByteArray) (r : List Int) (w : World) (h : api_runes.f a0 = some r) :
    Calls Try.prog 109 #[.string a0] w fun e w' => ∃ v0_ : Value, e = .returned (v0_) ∧ Kd.R (Kd.int .i64) 3 w' w.heap.size (fun _ => True) v0_ r ∧ Below w.heap.size w w' := by
  unfold api_runes.f at h
  split at h
  · rename_i hs
    obtain rfl := Option.some.inj h
    refine (runes_any a0 w hs).mono ?_
    rintro e w' ⟨v, he, ho, hb⟩
    exact ⟨v, he, Kd.R_of_own ho (fun _ _ => trivial), hb⟩
  · cases h

end Go.Proofs.Ytjolmhokeceljaa.Own

namespace Go.Proofs.Ytjolmhokeceljaa.Own
open Go.RowKit Go.Proofs.YtjolmhokeceljaaW.PrintWords

/-- What a list of operations without guards comes to, if each yields a value. -/
def runOps (P : Program) : List Oper → Act → World → Option (Act × World)
  | [], a, w => some (a, w)
  | o :: rest, a, w =>
    match o.guard with
    | some _ => none
    | none =>
      match (execOp a.eval o).run P w with
      | .ok (.value v) w' => runOps P rest (a.put o.dst v) w'
      | _ => none

theorem wpList_run {P : Program} {ops : Array Oper} {Q : Exit → Act → World → Prop} (l : List Oper) : ∀ {rest : List Oper} {a a' : Act} {w w' : World}, runOps P l a w = some (a', w') → wpList P ops Q rest a' w' → wpList P ops Q (l ++ rest) a w := by
  induction l with
  | nil =>
    intro rest a a' w w' h k
    simp only [runOps, Option.some.injEq, Prod.mk.injEq] at h
    obtain ⟨rfl, rfl⟩ := h
    exact k
  | cons o l ih =>
    intro rest a a' w w' h k
    unfold runOps at h
    split at h
    · cases h
    · rename_i hg
      split at h
      · rename_i v w1 hr
        refine wpList_plain hg fun K hK => ?_
        unfold Oper.wp
        rw [hr]
        exact hK _ _ (ih h k)
      · cases h

/-- A region all of whose operations run so. -/
theorem wp_region_run {P : Program} {id : Nat} {ops : Array Oper} {Q : Exit → Act → World → Prop} {a a' : Act} {w w' : World} (h : runOps P ops.toList a w = some (a', w')) (k : Q .normal a' w') : (Code.region id ops false).wp P Q a w := by
  refine wp_region_list ?_
  have := wpList_run (P := P) (ops := ops) (Q := Q) ops.toList (rest := []) h (wpList_nil k)
  rwa [List.append_nil] at this

/-! ### ints: rows of the call's own, rows that are read -/
/-- v is a row of ints of the call's own. -/
abbrev RI (w : World) (base : Nat) (v : Value) (xs : List Int) : Prop := Kd.R (Kd.int .i64) 3 w base (fun _ => True) v xs
/-- n ints that are read. -/
abbrev CI (w : World) (A : Option Addr) (n : Nat) (xs : List Int) : Prop := (Kd.int .i64).C w A n xs
theorem RI.own {w : World} {base : Nat} {v : Value} {xs : List Int} (h : RI w base v xs) : w.ownsRow base 3 1 v xs.length (encs (Value.int .i64) xs) := Kd.own_of_R h
theorem RI.of {w : World} {base : Nat} {v : Value} {xs : List Int} (h : w.ownsRow base 3 1 v xs.length (encs (Value.int .i64) xs)) : RI w base v xs := Kd.R_of_own h (fun _ _ => trivial)
theorem CI.reads {w : World} {A : Option Addr} {n : Nat} {xs : List Int} (h : CI w A n xs) : ReadsOf (Value.int .i64) 0 w A n xs := Kd.reads_of_C h
theorem CI.of {w : World} {A : Option Addr} {n : Nat} {xs : List Int} (h : ReadsOf (Value.int .i64) 0 w A n xs) : CI w A n xs := Kd.C_of_reads h
theorem RI.lit (W : World) (base : Nat) (xs : List Int) (hb : base ≤ W.heap.size) (hm : xs.length ≤ 9223372036854775807) : RI (W.alloc (.cells (encs (Value.int .i64) xs).toArray 3)) base (.slice (some ⟨W.heap.size, 0, none⟩) xs.length xs.length) xs := RI.of (own_lit_of (enc := Value.int .i64) W base 3 xs hb hm)
section
variable {P : Program} {ops : Array Oper} {rest : List Oper} {o : Oper} {a : Act} {Q : Exit → Act → World → Prop}
/-- append(v, ys...) -/
theorem appRow {w0 W : World} (base : Nat) (hgd : o.guard = none) (s x : Operand)
    (ho : o.op = .call { callee := .builtin .append, args := #[s, x], argTypes := #[22, 22] })
    (ht : P.underlying 22 = some (.slice 3)) (hinfo : (P.info? 3).map (fun i => (i.zero, i.size, i.bytes)) = some (some (.int .i64 0), 1, 8))
    (v : Value) (xs ys : List Int) (A : Option Addr) (m c : Nat) (hs : a.eval s = v) (hx : a.eval x = .slice A m c)
    (HO : RI W base v xs) (HR : CI W A m ys) (HB : Below base w0 W) (hbase : base ≤ W.heap.size) (hl : xs.length + m ≤ 17592186044416)
    (h : ∀ v1 w1, RI w1 base v1 (xs ++ ys) → Below base w0 w1 → W.grownBy w1 v.ownBlock → (v1.ownBlock = v.ownBlock ∨ ∃ b, v1.ownBlock = some b ∧ W.heap.size ≤ b) → wpList P ops Q rest (a.put o.dst v1) w1) :
    wpList P ops Q (o :: rest) a W :=
  print_append_row_of (Value.int .i64) 0 base hgd s x 22 3 (.int .i64 0) 8 ho ht hinfo rfl (by decide) (fun _ => rfl) v xs ys A m c hs hx HO.own HR.reads HB hbase (by omega)
    fun v1 w1 hown hB hg hat => h v1 w1 (RI.of hown) hB hg hat
/-- append(v, y), behind the variadic's box. -/
theorem appOne {w0 W : World} (base : Nat) (hgd : o.guard = none) (s x : Operand)
    (ho : o.op = .call { callee := .builtin .append, args := #[s, x], argTypes := #[22, 22] })
    (ht : P.underlying 22 = some (.slice 3)) (hinfo : (P.info? 3).map (fun i => (i.zero, i.size, i.bytes)) = some (some (.int .i64 0), 1, 8))
    (v : Value) (xs : List Int) (y : Int) (hs : a.eval s = v) (hx : a.eval x = .slice (some ⟨W.heap.size, 0, none⟩) 1 1)
    (HO : RI W base v xs) (HB : Below base w0 W) (hbase : base ≤ W.heap.size) (hl : xs.length + 1 ≤ 17592186044416)
    (h : ∀ v1 w1, RI w1 base v1 (xs ++ [y]) → Below base w0 w1 → W.grownBy w1 v.ownBlock → (v1.ownBlock = v.ownBlock ∨ ∃ b, v1.ownBlock = some b ∧ W.heap.size ≤ b) → wpList P ops Q rest (a.put o.dst v1) w1) :
    wpList P ops Q (o :: rest) a (W.alloc (.cells #[.int .i64 y] 3)) :=
  print_append_of (Value.int .i64) base hgd s x 22 3 (.int .i64 0) 8 ho ht hinfo rfl (by decide) v xs y hs hx rfl HO.own HB hbase (by omega)
    fun v1 w1 hown hB hg hat => h v1 w1 (RI.of hown) hB hg hat
end

/-- A row of the call's own, some blocks and draws later. -/
theorem RM {α : Type} {d : Kd α} {e : Nat} {w w1 : World} {base : Nat} {ok : Nat → Prop} {v : Value} {xs : List α} (h : d.R e w base ok v xs)
    (hb : Below w.heap.size w w1 := by repeat (first | exact Below.refl _ _ | apply below_alloc | apply pw_below_drewN | apply below_drew1)) : d.R e w1 base ok v xs := Kd.R_below h hb
/-- What lay before, some blocks and draws later. -/
theorem BM {w w1 w2 : World} (h : Below w.heap.size w w1) (hb : Below w1.heap.size w1 w2 := by repeat (first | exact Below.refl _ _ | apply below_alloc | apply pw_below_drewN | apply below_drew1)) : Below w.heap.size w w2 := below_then h h.size hb

end Go.Proofs.Ytjolmhokeceljaa.Own
