/-
  Straight operations run at once: where a list of operations without guards comes to values, a walk goes on behind it (the kernel reckons the run); and rows of literal maps.
-/
import Derived.Test.YtjolmhokeceljaaRunes
namespace Go.Proofs.Ytjolmhokeceljaa.Own
open Go.RowKit Go.Proofs.YtjolmhokeceljaaW.PrintWords

/-- What a list of operations without guards comes to, if each yields a value. -/
def runOps (P : Program) : List Oper → Act → World → Option (Act × World)
  | [], a, w => some (a, w)
  | o :: rest, a, w =>
    match o.guard with
    | some _ => none
    | none =>
      match (execOp a.eval o).run P w with
      | .ok (.value v) w' => runOps P rest (a.put o.dst v) w'
      | _ => none

theorem wpList_run {P : Program} {ops : Array Oper} {Q : Exit → Act → World → Prop} (l : List Oper) : ∀ {rest : List Oper} {a a' : Act} {w w' : World}, runOps P l a w = some (a', w') → wpList P ops Q rest a' w' → wpList P ops Q (l ++ rest) a w := by
  induction l with
  | nil =>
    intro rest a a' w w' h k
    simp only [runOps, Option.some.injEq, Prod.mk.injEq] at h
    obtain ⟨rfl, rfl⟩ := h
    exact k
  | cons o l ih =>
    intro rest a a' w w' h k
    unfold runOps at h
    split at h
    · cases h
    · rename_i hg
      split at h
      · rename_i v w1 hr
        refine wpList_plain hg fun K hK => ?_
        unfold Oper.wp
        rw [hr]
        exact hK _ _ (ih h k)
      · cases h

/-- A region all of whose operations run so. -/
theorem wp_region_run {P : Program} {id : Nat} {ops : Array Oper} {Q : Exit → Act → World → Prop} {a a' : Act} {w w' : World} (h : runOps P ops.toList a w = some (a', w')) (k : Q .normal a' w') : (Code.region id ops false).wp P Q a w := by
  refine wp_region_list ?_
  have := wpList_run (P := P) (ops := ops) (Q := Q) ops.toList (rest := []) h (wpList_nil k)
  rwa [List.append_nil] at this

/-! ### ints: rows of the call's own, rows that are read -/
/-- v is a row of ints of the call's own. -/
abbrev RI (w : World) (base : Nat) (v : Value) (xs : List Int) : Prop := Kd.R (Kd.int .i64) 3 w base (fun _ => True) v xs
/-- n ints that are read. -/
abbrev CI (w : World) (A : Option Addr) (n : Nat) (xs : List Int) : Prop := (Kd.int .i64).C w A n xs
theorem RI.own {w : World} {base : Nat} {v : Value} {xs : List Int} (h : RI w base v xs) : w.ownsRow base 3 1 v xs.length (encs (Value.int .i64) xs) := Kd.own_of_R h
theorem RI.of {w : World} {base : Nat} {v : Value} {xs : List Int} (h : w.ownsRow base 3 1 v xs.length (encs (Value.int .i64) xs)) : RI w base v xs := Kd.R_of_own h (fun _ _ => trivial)
theorem CI.reads {w : World} {A : Option Addr} {n : Nat} {xs : List Int} (h : CI w A n xs) : ReadsOf (Value.int .i64) 0 w A n xs := Kd.reads_of_C h
theorem CI.of {w : World} {A : Option Addr} {n : Nat} {xs : List Int} (h : ReadsOf (Value.int .i64) 0 w A n xs) : CI w A n xs := Kd.C_of_reads h
theorem RI.lit (W : World) (base : Nat) (xs : List Int) (hb : base ≤ W.heap.size) (hm : xs.length ≤ 9223372036854775807) : RI (W.alloc (.cells (encs (Value.int .i64) xs).toArray 3)) base (.slice (some ⟨W.heap.size, 0, none⟩) xs.length xs.length) xs := RI.of (own_lit_of (enc := Value.int .i64) W base 3 xs hb hm)
section
variable {P : Program} {ops : Array Oper} {rest : List Oper} {o : Oper} {a : Act} {Q : Exit → Act → World → Prop}
/-- append(v, ys...) -/
theorem appRow {w0 W : World} (base : Nat) (hgd : o.guard = none) (s x : Operand)
    (ho : o.op = .call { callee := .builtin .append, args := #[s, x], argTypes := #[22, 22] })
    (ht : P.underlying 22 = some (.slice 3)) (hinfo : (P.info? 3).map (fun i => (i.zero, i.size, i.bytes)) = some (some (.int .i64 0), 1, 8))
    (v : Value) (xs ys : List Int) (A : Option Addr) (m c : Nat) (hs : a.eval s = v) (hx : a.eval x = .slice A m c)
    (HO : RI W base v xs) (HR : CI W A m ys) (HB : Below base w0 W) (hbase : base ≤ W.heap.size) (hl : xs.length + m ≤ 17592186044416)
    (h : ∀ v1 w1, RI w1 base v1 (xs ++ ys) → Below base w0 w1 → W.grownBy w1 v.ownBlock → (v1.ownBlock = v.ownBlock ∨ ∃ b, v1.ownBlock = some b ∧ W.heap.size ≤ b) → wpList P ops Q rest (a.put o.dst v1) w1) :
    wpList P ops Q (o :: rest) a W :=
  print_append_row_of (Value.int .i64) 0 base hgd s x 22 3 (.int .i64 0) 8 ho ht hinfo rfl (by decide) (fun _ => rfl) v xs ys A m c hs hx HO.own HR.reads HB hbase (by omega)
    fun v1 w1 hown hB hg hat => h v1 w1 (RI.of hown) hB hg hat
/-- append(v, y), behind the variadic's box. -/
theorem appOne {w0 W : World} (base : Nat) (hgd : o.guard = none) (s x : Operand)
    (ho : o.op = .call { callee := .builtin .append, args := #[s, x], argTypes := #[22, 22] })
    (ht : P.underlying 22 = some (.slice 3)) (hinfo : (P.info? 3).map (fun i => (i.zero, i.size, i.bytes)) = some (some (.int .i64 0), 1, 8))
    (v : Value) (xs : List Int) (y : Int) (hs : a.eval s = v) (hx : a.eval x = .slice (some ⟨W.heap.size, 0, none⟩) 1 1)
    (HO : RI W base v xs) (HB : Below base w0 W) (hbase : base ≤ W.heap.size) (hl : xs.length + 1 ≤ 17592186044416)
    (h : ∀ v1 w1, RI w1 base v1 (xs ++ [y]) → Below base w0 w1 → W.grownBy w1 v.ownBlock → (v1.ownBlock = v.ownBlock ∨ ∃ b, v1.ownBlock = some b ∧ W.heap.size ≤ b) → wpList P ops Q rest (a.put o.dst v1) w1) :
    wpList P ops Q (o :: rest) a (W.alloc (.cells #[.int .i64 y] 3)) :=
  print_append_of (Value.int .i64) base hgd s x 22 3 (.int .i64 0) 8 ho ht hinfo rfl (by decide) v xs y hs hx rfl HO.own HB hbase (by omega)
    fun v1 w1 hown hB hg hat => h v1 w1 (RI.of hown) hB hg hat
end

end Go.Proofs.Ytjolmhokeceljaa.Own
