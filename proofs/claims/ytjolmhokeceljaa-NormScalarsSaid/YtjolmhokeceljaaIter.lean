/-
  What a round of a loop over an iterator keeps, where the loop's body appends to a variable in a box and the iterator reads rows of its own between two rounds: everything but the box and the row that its value lies in.
  The contract of 'slices.Collect' of ints over an iterator that is known by its contract.
-/
import Derived.RangeFuncNested
import Derived.RangeFuncBound
import Derived.RangeFuncCalls
import Derived.RangeFuncLeaves
import Derived.RangeFuncBox
import Derived.Shelf.Abstract
import Derived.Shelf.RegionOpen
import Derived.WalkKit
import Derived.OwnWalkIn
import Derived.TacticsInMore
import Derived.LoopNIn
import Derived.LoopIn
import Derived.Maps.AppendAt
import Derived.Maps.OwnIn
import Derived.Test.YtjolmhokeceljaaCls
namespace Go.Proofs.Ytjolmhokeceljaa.Own
open Go.RowKit Go.Shelf Go.Proofs.YtjolmhokeceljaaW.PrintWords

/-- The block in which the value in box b lies. -/
def ob (b : Nat) (W : World) : Option Nat := (W.cell? ⟨b, 0, none⟩).bind Value.ownBlock
def okO (b : Nat) (W : World) : Prop := b < W.heap.size ∧ ∀ g, ob b W = some g → g < W.heap.size
def KpO (b : Nat) (A B : World) : Prop :=
  A.heap.size ≤ B.heap.size ∧ (∀ g, ob b B = some g → ob b A = some g ∨ (A.heap.size ≤ g ∧ g < B.heap.size)) ∧ ∀ i cs t fr, A.heap[i]? = some (.cells cs t fr) → i ≠ b → ob b A ≠ some i → B.heap[i]? = A.heap[i]?
theorem KpO.ok {b : Nat} {A B : World} (h : KpO b A B) (hA : okO b A) : okO b B := ⟨Nat.lt_of_lt_of_le hA.1 h.1, fun g hg => (h.2.1 g hg).elim (fun e => Nat.lt_of_lt_of_le (hA.2 g e) h.1) (fun e => e.2)⟩
theorem KpO.trans {b : Nat} {A B C : World} (h : KpO b A B) (k : KpO b B C) : KpO b A C := by
  refine ⟨Nat.le_trans h.1 k.1, fun g hg => ?_, fun i cs t fr hi hb hob => ?_⟩
  · rcases k.2.1 g hg with h1 | h1
    · rcases h.2.1 g h1 with h2 | h2
      · exact .inl h2
      · exact .inr ⟨h2.1, Nat.lt_of_lt_of_le h2.2 k.1⟩
    · exact .inr ⟨Nat.le_trans h.1 h1.1, h1.2⟩
  · have h1 := h.2.2 i cs t fr hi hb hob
    have h2 := k.2.2 i cs t fr (h1.trans hi) hb (fun e => by
      rcases h.2.1 i e with e1 | e1
      · exact hob e1
      · have := (Array.getElem?_eq_some_iff.1 hi).1; omega)
    exact h2.trans h1
theorem ob_putObj {b l : Nat} {W : World} (o' : Obj) (h : l ≠ b) : ob b (W.putObj l o') = ob b W := by
  have e : (W.putObj l o').heap[b]? = W.heap[b]? := World.putObj_heap_other (Ne.symm h)
  simp only [ob, World.cell?, e]
theorem KpO.putObj {b : Nat} {w : World} (hb : b < w.heap.size) (W : World) (l : Nat) (o o' : Obj) (hl : w.heap.size ≤ l) (h : W.heap[l]? = some o) (hc : o.isCells = false) : KpO b W (W.putObj l o') := by
  have hne : l ≠ b := by omega
  have hs : (W.putObj l o').heap.size = W.heap.size := by simp [World.putObj]
  refine ⟨by omega, fun g hg => ?_, fun i cs t fr hi _ _ => ?_⟩
  · rw [ob_putObj o' hne] at hg
    exact .inl hg
  · by_cases e : l = i
    · subst e
      rw [h] at hi
      cases hi
      cases hc
    · exact World.putObj_heap_other (fun h => e h.symm)
/-- New memory alone. -/
theorem ob_below {b : Nat} {A B : World} (h : Below A.heap.size A B) (hb : b < A.heap.size) : ob b B = ob b A := by
  unfold ob
  rw [h.cell (p := ⟨b, 0, none⟩) hb]
theorem KpO.below {b : Nat} {A B : World} (hA : okO b A) (h : Below A.heap.size A B) : KpO b A B := by
  refine ⟨h.size, fun g hg => ?_, fun i cs t fr hi _ _ => h.block i (Array.getElem?_eq_some_iff.1 hi).1⟩
  rw [ob_below h hA.1] at hg
  exact .inl hg
theorem okO.below {b : Nat} {A B : World} (hA : okO b A) (h : Below A.heap.size A B) : okO b B := (KpO.below hA h).ok hA

/-- A row that no round turns. -/
def Safe (b : Nat) (W : World) (v : Value) : Prop := ∀ g, v.ownBlock = some g → g ≠ b ∧ ob b W ≠ some g
theorem RI.safe {b : Nat} {A B : World} {v : Value} {xs : List Int} (hA : okO b A) (h : Below A.heap.size A B) (hr : RI B A.heap.size v xs) : Safe b B v := by
  intro g hg
  have hge := own_base hr.own g hg
  refine ⟨?_, fun e => ?_⟩
  · have := hA.1; omega
  · rw [ob_below h hA.1] at e
    have := hA.2 g e
    omega
theorem RI.keeps {b : Nat} {A B : World} {base : Nat} {v : Value} {xs : List Int} (h : KpO b A B) (hs : Safe b A v) (hr : RI A base v xs) : RI B base v xs ∧ Safe b B v := by
  constructor
  · refine RI.of (own_move hr.own fun k hk => ?_)
    obtain ⟨cells, hc⟩ := own_typed hr.own k hk
    exact h.2.2 k cells _ _ hc (hs k hk).1 (hs k hk).2
  · intro g hg
    refine ⟨(hs g hg).1, fun e => ?_⟩
    rcases h.2.1 g e with e1 | e1
    · exact (hs g hg).2 e1
    · have := own_lt hr.own g hg
      omega
/-- out = append(out, y), out in box b. -/
theorem KpO.appended {W w1 : World} {n₀ b : Nat} {v v' : Value} {xs : List Int} {y : Int} {tmp : Obj} (hv : Boxed W b 22 v) (hrow : RI W n₀ v xs) (hn₀ : n₀ ≤ W.heap.size) (hB : n₀ ≤ b)
    (hown' : RI w1 n₀ v' (xs ++ [y])) (hgrow : (W.alloc tmp).grownBy w1 v.ownBlock) (hat : v'.ownBlock = v.ownBlock ∨ ∃ g, v'.ownBlock = some g ∧ W.heap.size ≤ g) :
    Boxed w1 b 22 v ∧ Boxed (w1.setCell ⟨b, 0, none⟩ v') b 22 v' ∧ RI (w1.setCell ⟨b, 0, none⟩ v') n₀ v' (xs ++ [y]) ∧ KeepsOthers W (w1.setCell ⟨b, 0, none⟩ v') ∧ Below n₀ W (w1.setCell ⟨b, 0, none⟩ v') ∧ KpO b W (w1.setCell ⟨b, 0, none⟩ v') := by
  obtain ⟨h1, h2, h3, h4, h5⟩ := hv.appended (by decide) hrow.own hn₀ hB hown'.own hgrow
  have hsz : W.heap.size ≤ w1.heap.size := by have := hgrow.size; simp at this; omega
  have hss : (w1.setCell ⟨b, 0, none⟩ v').heap.size = w1.heap.size := by simp
  refine ⟨h1, h2, RI.of h3, h4, h5, by omega, fun g hg => ?_, fun i cs t fr hi hb hob => ?_⟩
  · unfold ob at hg ⊢
    rw [h2.cell] at hg
    rw [hv.cell]
    have hlt : g < w1.heap.size := own_lt hown'.own g hg
    rcases hat with hat | ⟨g', hg', hle⟩
    · exact .inl (hat.symm.trans hg)
    · have : v'.ownBlock = some g := hg
      rw [hg'] at this
      obtain rfl : g' = g := by simpa using this
      exact .inr ⟨hle, by omega⟩
  · have hi' := (Array.getElem?_eq_some_iff.1 hi).1
    rw [Below.heap_setCell w1 _ _ i hb]
    have hne : some i ≠ v.ownBlock := fun e => hob (by unfold ob; rw [hv.cell]; exact e.symm)
    rw [hgrow.block i (by simp; omega) hne]
    exact Below.heap_alloc _ _ _ hi'
theorem ob_nil {b : Nat} {W : World} {t : TypeId} (h : Boxed W b t (.slice none 0 0)) : ob b W = none := by unfold ob; rw [h.cell]; rfl
theorem okO.nil {b : Nat} {W : World} {t : TypeId} (h : Boxed W b t (.slice none 0 0)) : okO b W := ⟨h.lt, fun g hg => by rw [ob_nil h] at hg; cases hg⟩

section
variable {F : Fence} {n : Nat} {P : Program} {ops : Array Oper} {rest : List Oper} {o : Oper} {a : Act} {Q : Exit → Act → World → Prop}
/-- append(v, y) inside a fence, behind the variadic's box. -/
theorem appOneIn {W : World} (base : Nat) (hgd : o.guard = none) (s x : Operand)
    (ho : o.op = .call { callee := .builtin .append, args := #[s, x], argTypes := #[22, 22] })
    (ht : P.underlying 22 = some (.slice 3)) (hinfo : (P.info? 3).map (fun i => (i.zero, i.size, i.bytes)) = some (some (.int .i64 0), 1, 8))
    (v : Value) (xs : List Int) (y : Int) (hs : a.eval s = v) (hx : a.eval x = .slice (some ⟨W.heap.size, 0, none⟩) 1 1)
    (HO : RI W base v xs) (hbase : base ≤ W.heap.size) (hl : xs.length + 1 ≤ 17592186044416)
    (h : ∀ v1 w1, RI w1 base v1 (xs ++ [y]) → (W.alloc (.cells #[.int .i64 y] 3)).grownBy w1 v.ownBlock → (v1.ownBlock = v.ownBlock ∨ ∃ b, v1.ownBlock = some b ∧ W.heap.size ≤ b) → wpListIn F n P ops Q rest (a.put o.dst v1) w1) :
    wpListIn F n P ops Q (o :: rest) a (W.alloc (.cells #[.int .i64 y] 3)) := by
  obtain ⟨i0, hi, hzz⟩ := Option.map_eq_some_iff.1 hinfo
  simp only [Prod.mk.injEq] at hzz
  obtain ⟨hz0, hz1, hz2⟩ := hzz
  refine wpListIn_append_own_at _ hgd s x 22 ho base 3 i0 (.int .i64 0) 1 8 ht hi hz0 hz1 hz2 rfl (by decide) v xs.length (encs (Value.int .i64) xs) hs (HO.own.kept (World.grownBy_alloc W _ none) (by cases v.ownBlock <;> simp)) ⟨W.heap.size, 0, none⟩ 1 1 [.int .i64 y] hx rfl (cell_one_new _ _ _) (by simp [Value.oneCell']) (by simp only [maxLen]; omega) (by omega) (by simp; omega) ?_
  intro v1 w1 h1 h2 _ h4
  refine h v1 w1 (RI.of (by simpa [encs] using h1)) h2 ?_
  rcases h4 with h4 | h4
  · exact .inl h4
  · exact .inr ⟨_, h4, by simp⟩
end

end Go.Proofs.Ytjolmhokeceljaa.Own

namespace Go.Proofs.Ytjolmhokeceljaa.Own
open Go.RowKit Go.Shelf Go.Proofs.YtjolmhokeceljaaW.PrintWords
attribute [local go_sem] Oper.semAt_some

set_option maxRecDepth 100000 in
set_option maxHeartbeats 4000000 in
theorem appendSeq_in (n : Nat) (hn : 3 ≤ n) (g : Nat) (lb : Array Value) (eg : ∀ args w, (callFunc g args).run Try.prog w = .ok (.enter g args) w) (ys : List Int) (N : Nat) (hN : N ≤ 100000000) (w : World)
    (hseq : SeqStopsK Fence.wide (n - 1) Try.prog g lb (fun x : Int => #[Value.int .i64 x]) (fun P Q => Below w.heap.size P Q ∧ KpO w.heap.size P Q) (fun zs => zs = ys) (fun _ => True) N (w.alloc (.cells #[.slice none 0 0] 22))) :
    CallsIn Fence.wide n Try.prog 108 #[.slice none 0 0, .func (.func g) #[] lb] w fun e W' => ∃ v, e = .returned v ∧ RI W' w.heap.size v ys ∧ Below w.heap.size w W' := by
  have h1 : 1 ≤ n := by omega
  have HQ := Aside0.mk hseq
  have HG := Aside0.mk eg
  clear hseq eg
  refine callsIn_of_wp_marks Try.func108 rfl trivial ?_ rfl
  simp only [Try.ntmps108, List.size_toArray, List.length_cons, List.length_nil, Nat.reduceAdd, Nat.reduceSub, Array.replicate_succ, Array.replicate_zero, List.push_toArray, List.append_toArray, List.nil_append, List.cons_append]
  gi_wp2
  have bO := Boxed.new w 22 (.slice none 0 0)
  have hB0 : Below w.heap.size w (w.alloc (.cells #[.slice none 0 0] 22)) := (Below.refl _ w).alloc (Nat.le_refl _) _
  refine wpIn_rangeFunc_ownG (n := n) rfl h1 (gf := g) (lb := lb) rfl trivial HG.out HQ.out
    (fun h k => ⟨h.1.trans k.1, h.2.trans k.2⟩) (fun W l o o' hl ho hc hw => ⟨belowK_b (w := w) (Nat.le_refl _) W l o o' (by simp at hl; omega) ho hc hw, KpO.putObj (w := w.alloc (.cells #[.slice none 0 0] 22)) (by simp) W l o o' hl ho hc⟩) (Below.refl _ _) (fun _ => rfl)
    (fun pre W => (∃ v, Boxed W w.heap.size 22 v ∧ W.ownsRow w.heap.size 3 1 v pre.length (encs (Value.int .i64) pre) ∧ True) ∧ Below w.heap.size w W)
    (fun _ _ _ => False)
    (OwnFrom.and (Own.from (holdsRow_own w.heap.size w.heap.size 22 3 1 (fun pre => pre.length) (fun pre => encs (Value.int .i64) pre) (fun _ _ => True)) _) (ownFrom_below (Nat.le_refl _) (by simp)))
    (fun _ _ _ _ _ hs _ _ => hs)
    ⟨⟨_, bO, World.ownsRow_nil _ _ _ _, trivial⟩, hB0⟩
    (fun x => { tmps := #[.slice none 0 0, .func (.func g) #[] lb, .pointer (some ⟨w.heap.size, 0, none⟩), undef, .slice none 0 0, .int .i64 x, .func (.func g) #[] lb, .int .i64 x, undef, undef, undef, undef, undef], defers := [] }) ?assign ?body ?done ?stop
  case assign =>
    intro l x W K hK
    gi_wp2
    exact hK
  case body =>
    rintro l pre x W ⟨⟨v, hv, hrow, _⟩, hB⟩ hlt
    have hc := hv.cell
    have hs := hB.size
    have HRow := Aside0.mk (RI.of hrow)
    have HB := Aside0.mk hB
    have HV := Aside0.mk hv
    clear hrow hB hv
    gi_wp2_with (gi_at_builtin; refine appOneIn w.heap.size rfl (.tmp 8) (.tmp 10) rfl Try.underlying22 infoInt v pre x rfl rfl HRow.out (by omega) (by omega) ?_; intro v' w1 hown' hgrow hat; obtain ⟨g', cap', rfl⟩ := ownsRow_succ (k := pre.length) (by have := hown'.own; rw [List.length_append, List.length_singleton] at this; exact this); obtain ⟨hv1, hv2, hr2, hk2, hb2, hkp⟩ := KpO.appended HV.out HRow.out hs (Nat.le_refl _) hown' hgrow hat; have hc1 := hv1.cell; have hf1 := hv1.frozen; replace hv2 := Aside0.mk hv2; replace hr2 := Aside0.mk hr2; replace hk2 := Aside0.mk hk2; replace hb2 := Aside0.mk hb2; replace hkp := Aside0.mk hkp; clear hown' hgrow hat)
    exact ⟨hk2.out.from _, ⟨hb2.out, hkp.out⟩, ⟨_, hv2.out, hr2.out.own, trivial⟩, HB.out.trans hb2.out⟩
  case done =>
    rintro D zs W hD rfl ⟨⟨v, hv, hrow, _⟩, hB⟩ hK
    have hc := hv.cell
    gi_wp2
    refine ⟨by simp, .inl ⟨_, _, rfl, run_takeDeferred hK, ?_⟩⟩
    exact ⟨_, results_tmp rfl _ _ _, v, rfl, RI.of (ownsRow_putObj hrow _ hK rfl), hB.trans (belowK_b (w := w) (Nat.le_refl _) W D _ _ (by simp at hD; omega) hK rfl rfl)⟩
  case stop =>
    rintro D c pre W _ _ h _
    exact h.elim

set_option maxRecDepth 100000 in
theorem collect_in (n : Nat) (hn : 4 ≤ n) (g : Nat) (lb : Array Value) (eg : ∀ args w, (callFunc g args).run Try.prog w = .ok (.enter g args) w) (ys : List Int) (N : Nat) (hN : N ≤ 100000000) (w : World)
    (hseq : SeqStopsK Fence.wide (n - 1 - 1) Try.prog g lb (fun x : Int => #[Value.int .i64 x]) (fun P Q => Below w.heap.size P Q ∧ KpO w.heap.size P Q) (fun zs => zs = ys) (fun _ => True) N (w.alloc (.cells #[.slice none 0 0] 22))) :
    CallsIn Fence.wide n Try.prog 70 #[.func (.func g) #[] lb] w fun e W' => ∃ v, e = .returned v ∧ RI W' w.heap.size v ys ∧ Below w.heap.size w W' := by
  have h1 : 1 ≤ n := by omega
  have HQ := Aside0.mk (appendSeq_in (n - 1) (by omega) g lb eg ys N hN w hseq)
  clear hseq eg
  refine callsIn_of_wp Try.func70 rfl trivial ?_ rfl
  simp only [Try.ntmps70, List.size_toArray, List.length_cons, List.length_nil, Nat.reduceAdd, Nat.reduceSub, Array.replicate_succ, Array.replicate_zero, List.push_toArray, List.append_toArray, List.nil_append, List.cons_append]
  gi_wp2_with (refine ⟨trivial, ?_⟩; gi_at_call 108; refine HQ.out.mono ?_; rintro e w' ⟨v, rfl, hr, hb⟩; replace hr := Aside0.mk hr; replace hb := Aside0.mk hb)
  go_ret
  exact ⟨v, rfl, hr.out, hb.out⟩

end Go.Proofs.Ytjolmhokeceljaa.Own
