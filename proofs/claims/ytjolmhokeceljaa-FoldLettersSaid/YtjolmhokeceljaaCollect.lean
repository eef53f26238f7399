/-
  The contract of 'slices.Collect' of ints over an iterator that is known by its contract.
-/
import Derived.Test.YtjolmhokeceljaaIter
namespace Go.Proofs.Ytjolmhokeceljaa.Own
open Go.RowKit Go.Shelf Go.Proofs.YtjolmhokeceljaaW.PrintWords
attribute [local go_sem] Oper.semAt_some

set_option maxRecDepth 100000 in
set_option maxHeartbeats 4000000 in
theorem appendSeq_in (n : Nat) (hn : 3 ≤ n) (g : Nat) (lb : Array Value) (eg : ∀ args w, (callFunc g args).run Try.prog w = .ok (.enter g args) w) (ys : List Int) (N : Nat) (hN : N ≤ 100000000) (w : World)
    (hseq : SeqStopsK Fence.wide (n - 1) Try.prog g lb (fun x : Int => #[Value.int .i64 x]) (fun P Q => Below w.heap.size P Q ∧ KpO w.heap.size P Q) (fun zs => zs = ys) (fun _ => True) N (w.alloc (.cells #[.slice none 0 0] 22))) :
    CallsIn Fence.wide n Try.prog 108 #[.slice none 0 0, .func (.func g) #[] lb] w fun e W' => ∃ v, e = .returned v ∧ RI W' w.heap.size v ys ∧ Below w.heap.size w W' := by
  have h1 : 1 ≤ n := by omega
  have HQ := Aside0.mk hseq
  have HG := Aside0.mk eg
  clear hseq eg
  refine callsIn_of_wp_marks Try.func108 rfl trivial ?_ rfl
  simp only [Try.ntmps108, List.size_toArray, List.length_cons, List.length_nil, Nat.reduceAdd, Nat.reduceSub, Array.replicate_succ, Array.replicate_zero, List.push_toArray, List.append_toArray, List.nil_append, List.cons_append]
  gi_wp2
  have bO := Boxed.new w 22 (.slice none 0 0)
  have hB0 : Below w.heap.size w (w.alloc (.cells #[.slice none 0 0] 22)) := (Below.refl _ w).alloc (Nat.le_refl _) _
  refine wpIn_rangeFunc_ownG (n := n) rfl h1 (gf := g) (lb := lb) rfl trivial HG.out HQ.out
    (fun h k => ⟨h.1.trans k.1, h.2.trans k.2⟩) (fun W l o o' hl ho hc hw => ⟨belowK_b (w := w) (Nat.le_refl _) W l o o' (by simp at hl; omega) ho hc hw, KpO.putObj (w := w.alloc (.cells #[.slice none 0 0] 22)) (by simp) W l o o' hl ho hc⟩) (Below.refl _ _) (fun _ => rfl)
    (fun pre W => (∃ v, Boxed W w.heap.size 22 v ∧ W.ownsRow w.heap.size 3 1 v pre.length (encs (Value.int .i64) pre) ∧ True) ∧ Below w.heap.size w W)
    (fun _ _ _ => False)
    (OwnFrom.and (Own.from (holdsRow_own w.heap.size w.heap.size 22 3 1 (fun pre => pre.length) (fun pre => encs (Value.int .i64) pre) (fun _ _ => True)) _) (ownFrom_below (Nat.le_refl _) (by simp)))
    (fun _ _ _ _ _ hs _ _ => hs)
    ⟨⟨_, bO, World.ownsRow_nil _ _ _ _, trivial⟩, hB0⟩
    (fun x => { tmps := #[.slice none 0 0, .func (.func g) #[] lb, .pointer (some ⟨w.heap.size, 0, none⟩), undef, .slice none 0 0, .int .i64 x, .func (.func g) #[] lb, .int .i64 x, undef, undef, undef, undef, undef], defers := [] }) ?assign ?body ?done ?stop
  case assign =>
    intro l x W K hK
    gi_wp2
    exact hK
  case body =>
    rintro l pre x W ⟨⟨v, hv, hrow, _⟩, hB⟩ hlt
    have hc := hv.cell
    have hs := hB.size
    have HRow := Aside0.mk (RI.of hrow)
    have HB := Aside0.mk hB
    have HV := Aside0.mk hv
    clear hrow hB hv
    gi_wp2_with (gi_at_builtin; refine appOneIn w.heap.size rfl (.tmp 8) (.tmp 10) rfl Try.underlying22 infoInt v pre x rfl rfl HRow.out (by omega) (by omega) ?_; intro v' w1 hown' hgrow hat; obtain ⟨g', cap', rfl⟩ := ownsRow_succ (k := pre.length) (by have := hown'.own; rw [List.length_append, List.length_singleton] at this; exact this); obtain ⟨hv1, hv2, hr2, hk2, hb2, hkp⟩ := KpO.appended HV.out HRow.out hs (Nat.le_refl _) hown' hgrow hat; have hc1 := hv1.cell; have hf1 := hv1.frozen; replace hv2 := Aside0.mk hv2; replace hr2 := Aside0.mk hr2; replace hk2 := Aside0.mk hk2; replace hb2 := Aside0.mk hb2; replace hkp := Aside0.mk hkp; clear hown' hgrow hat)
    exact ⟨hk2.out.from _, ⟨hb2.out, hkp.out⟩, ⟨_, hv2.out, hr2.out.own, trivial⟩, HB.out.trans hb2.out⟩
  case done =>
    rintro D zs W hD rfl ⟨⟨v, hv, hrow, _⟩, hB⟩ hK
    have hc := hv.cell
    gi_wp2
    refine ⟨by simp, .inl ⟨_, _, rfl, run_takeDeferred hK, ?_⟩⟩
    exact ⟨_, results_tmp rfl _ _ _, v, rfl, RI.of (ownsRow_putObj hrow _ hK rfl), hB.trans (belowK_b (w := w) (Nat.le_refl _) W D _ _ (by simp at hD; omega) hK rfl rfl)⟩
  case stop =>
    rintro D c pre W _ _ h _
    exact h.elim

set_option maxRecDepth 100000 in
theorem collect_in (n : Nat) (hn : 4 ≤ n) (g : Nat) (lb : Array Value) (eg : ∀ args w, (callFunc g args).run Try.prog w = .ok (.enter g args) w) (ys : List Int) (N : Nat) (hN : N ≤ 100000000) (w : World)
    (hseq : SeqStopsK Fence.wide (n - 1 - 1) Try.prog g lb (fun x : Int => #[Value.int .i64 x]) (fun P Q => Below w.heap.size P Q ∧ KpO w.heap.size P Q) (fun zs => zs = ys) (fun _ => True) N (w.alloc (.cells #[.slice none 0 0] 22))) :
    CallsIn Fence.wide n Try.prog 70 #[.func (.func g) #[] lb] w fun e W' => ∃ v, e = .returned v ∧ RI W' w.heap.size v ys ∧ Below w.heap.size w W' := by
  have h1 : 1 ≤ n := by omega
  have HQ := Aside0.mk (appendSeq_in (n - 1) (by omega) g lb eg ys N hN w hseq)
  clear hseq eg
  refine callsIn_of_wp Try.func70 rfl trivial ?_ rfl
  simp only [Try.ntmps70, List.size_toArray, List.length_cons, List.length_nil, Nat.reduceAdd, Nat.reduceSub, Array.replicate_succ, Array.replicate_zero, List.push_toArray, List.append_toArray, List.nil_append, List.cons_append]
  gi_wp2_with (refine ⟨trivial, ?_⟩; gi_at_call 108; refine HQ.out.mono ?_; rintro e w' ⟨v, rfl, hr, hb⟩; replace hr := Aside0.mk hr; replace hb := Aside0.mk hb)
  go_ret
  exact ⟨v, rfl, hr.out, hb.out⟩

end Go.Proofs.Ytjolmhokeceljaa.Own
