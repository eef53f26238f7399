/-
  The contracts of 'fold.All' and 'fold.One': the foldings of all numbers, concatenated, in new memory, for at most 100000 numbers; of one number.
-/
import Derived.Test.YtjolmhokeceljaaFoldIt
import Derived.Test.YtjolmhokeceljaaCollect
namespace Go.Proofs.Ytjolmhokeceljaa.Own
open Go.RowKit Go.Shelf Go.Proofs.YtjolmhokeceljaaW.PrintWords
attribute [local go_sem] Oper.semAt_some

set_option maxRecDepth 100000 in
theorem folded_in (n : Nat) (A : Option Addr) (m c : Nat) (w : World) :
    CallsIn Fence.wide n Try.prog 69 #[.slice A m c] w fun e w' => e = .returned (.func (.func 107) #[] #[.pointer (some ⟨w.heap.size, 0, none⟩)]) ∧ w' = w.alloc (.cells #[.slice A m c] 22) := by
  refine callsIn_of_wp Try.func69 rfl trivial ?_ rfl
  simp only [Try.ntmps69, List.size_toArray, List.length_cons, List.length_nil, Nat.reduceAdd, Nat.reduceSub, Array.replicate_succ, Array.replicate_zero, List.push_toArray, List.append_toArray, List.nil_append, List.cons_append]
  gi_wp2
  go_ret
  exact ⟨rfl, rfl⟩

/-- The iterator that folded hands back, for a loop that collects into box Bo. -/
theorem folded_stops (n : Nat) (hn : 1 ≤ n) (Bs Bo : Nat) (w0 w : World) (A : Option Addr) (c : Nat) (xs : List Int) (hC : CI w0 A xs.length xs) (hlen : xs.length ≤ 1000000) (hW0 : Below w0.heap.size w0 w) (hok : okO Bo w)
    (hlt : Bs < w.heap.size) (hBs : w.cell? ⟨Bs, 0, none⟩ = some (.slice A xs.length c)) :
    SeqStopsK Fence.wide n Try.prog 107 #[.pointer (some ⟨Bs, 0, none⟩)] (fun x : Int => #[Value.int .i64 x]) (fun P Q => Below w0.heap.size P Q ∧ KpO Bo P Q) (fun ys => ys = Sob.foldAll xs) (fun _ => True) (8 * xs.length) w := fun l J Jx W hW hJ _ hY h0 =>
  folded1_in n hn l Bs Bo w0 A c xs hC hlen J Jx W hJ (hW0.trans (hW.mono hW0.size)) (hok.below hW) hY ((hW.cell (p := ⟨Bs, 0, none⟩) hlt).trans hBs) h0

set_option maxRecDepth 100000 in
set_option maxHeartbeats 4000000 in
theorem foldAll_in (n : Nat) (hn : 3 ≤ n) (A : Option Addr) (c : Nat) (xs : List Int) (w : World) (hC : CI w A xs.length xs) (hlen : xs.length ≤ 1000000) :
    CallsIn Fence.wide n Try.prog 26 #[.slice A xs.length c] w fun e W' => ∃ v, e = .returned v ∧ RI W' w.heap.size v (Sob.foldAll xs) ∧ Below w.heap.size w W' := by
  have h1 : 1 ≤ n := by omega
  have HC := Aside0.mk hC
  clear hC
  refine callsIn_of_wp_marks Try.func26 rfl trivial ?_ rfl
  simp only [Try.ntmps26, List.size_toArray, List.length_cons, List.length_nil, Nat.reduceAdd, Nat.reduceSub, Array.replicate_succ, Array.replicate_zero, List.push_toArray, List.append_toArray, List.nil_append, List.cons_append]
  gi_wp2_with (refine ⟨trivial, ?_⟩; gi_at_call 69; refine (folded_in _ _ _ _ _).mono ?_; rintro e w' ⟨rfl, rfl⟩)
  have bO := Boxed.new w 22 (.slice none 0 0)
  have bN := Boxed.new (w.alloc (.cells #[.slice none 0 0] 22)) 22 (.slice A xs.length c)
  rw [World.size_alloc] at bN
  have hB0 : Below w.heap.size w ((w.alloc (.cells #[.slice none 0 0] 22)).alloc (.cells #[.slice A xs.length c] 22)) := ((Below.refl _ w).alloc (Nat.le_refl _) _).alloc (by simp) _
  refine wpIn_rangeFunc_ownG (n := n) rfl h1 (gf := 107) (lb := #[.pointer (some ⟨w.heap.size + 1, 0, none⟩)]) rfl trivial (enters_of Try.func107 (by kernel_rfl) rfl)
    (folded_stops (n - 1) (by omega) (w.heap.size + 1) w.heap.size w _ A c xs HC.out hlen hB0 (okO.nil (bO.alloc _)) (by simp) bN.cell)
    (fun h k => ⟨h.1.trans k.1, h.2.trans k.2⟩) (fun W l o o' hl ho hc hw => ⟨belowK_b (w := w) (Nat.le_refl _) W l o o' (by simp at hl; omega) ho hc hw, KpO.putObj (w := (w.alloc (.cells #[.slice none 0 0] 22)).alloc (.cells #[.slice A xs.length c] 22)) (by simp; omega) W l o o' hl ho hc⟩) (Below.refl _ _) (fun _ => rfl)
    (fun pre W => (∃ v, Boxed W w.heap.size 22 v ∧ W.ownsRow w.heap.size 3 1 v pre.length (encs (Value.int .i64) pre) ∧ True) ∧ Below w.heap.size w W)
    (fun _ _ _ => False)
    (OwnFrom.and (Own.from (holdsRow_own w.heap.size w.heap.size 22 3 1 (fun pre => pre.length) (fun pre => encs (Value.int .i64) pre) (fun _ _ => True)) _) (ownFrom_below (Nat.le_refl _) (by simp; omega)))
    (fun _ _ _ _ _ hs _ _ => hs)
    ⟨⟨_, bO.alloc _, World.ownsRow_nil _ _ _ _, trivial⟩, hB0⟩
    (fun x => { tmps := #[.slice A xs.length c, undef, .slice none 0 0, .pointer (some ⟨w.heap.size, 0, none⟩), .int .i64 x, .slice A xs.length c, .func (.func 107) #[] #[.pointer (some ⟨w.heap.size + 1, 0, none⟩)], .int .i64 x, undef, undef, undef, undef, undef], defers := [] }) ?assign ?body ?done ?stop
  case assign =>
    intro l x W K hK
    gi_wp2
    exact hK
  case body =>
    rintro l pre x W ⟨⟨v, hv, hrow, _⟩, hB⟩ hlt
    have hc := hv.cell
    have hs := hB.size
    have HRow := Aside0.mk (RI.of hrow)
    have HB := Aside0.mk hB
    have HV := Aside0.mk hv
    clear hrow hB hv
    gi_wp2_with (gi_at_builtin; refine appOneIn w.heap.size rfl (.tmp 8) (.tmp 10) rfl Try.underlying22 infoInt v pre x rfl rfl HRow.out (by omega) (by omega) ?_; intro v' w1 hown' hgrow hat; obtain ⟨g', cap', rfl⟩ := ownsRow_succ (k := pre.length) (by have := hown'.own; rw [List.length_append, List.length_singleton] at this; exact this); obtain ⟨hv1, hv2, hr2, hk2, hb2, hkp⟩ := KpO.appended HV.out HRow.out hs (Nat.le_refl _) hown' hgrow hat; have hc1 := hv1.cell; have hf1 := hv1.frozen; replace hv2 := Aside0.mk hv2; replace hr2 := Aside0.mk hr2; replace hk2 := Aside0.mk hk2; replace hb2 := Aside0.mk hb2; replace hkp := Aside0.mk hkp; clear hown' hgrow hat)
    exact ⟨hk2.out.from _, ⟨hb2.out, hkp.out⟩, ⟨_, hv2.out, hr2.out.own, trivial⟩, HB.out.trans hb2.out⟩
  case done =>
    rintro D ys W hD rfl ⟨⟨v, hv, hrow, _⟩, hB⟩ hK
    have hc := hv.cell
    gi_wp2
    refine ⟨by simp, .inl ⟨_, _, rfl, run_takeDeferred hK, ?_⟩⟩
    exact ⟨_, results_tmp rfl _ _ _, v, rfl, RI.of (ownsRow_putObj hrow _ hK rfl), hB.trans (belowK_b (w := w) (Nat.le_refl _) W D _ _ (by simp at hD; omega) hK rfl rfl)⟩
  case stop =>
    rintro D c pre W _ _ h _
    exact h.elim

def fold_All.f (l0 : List Int) : Option (List Int) := if l0.length ≤ 1000000 then some (Sob.foldAll l0) else none
theorem fold_All.calls (A0 : Option Addr) (c0 : Nat) (l0 : List Int) (r : List Int) (w : World) (hr0 : Kd.C (Kd.int .i64) w A0 l0.length l0) (_hc0 : l0.length ≤ c0) (h : fold_All.f l0 = some r) :
    Calls Try.prog 26 #[.slice A0 l0.length c0] w fun e w' => ∃ v0_ : Value, e = .returned (v0_) ∧ Kd.R (Kd.int .i64) 3 w' w.heap.size (fun _ => True) v0_ r ∧ Below w.heap.size w w' := by
  unfold fold_All.f at h
  split at h
  · rename_i hs
    obtain rfl := Option.some.inj h
    exact callsIn_wide.1 (foldAll_in 3 (Nat.le_refl _) A0 c0 l0 w hr0 hs)
  · cases h

set_option maxRecDepth 100000 in
set_option maxHeartbeats 2000000 in
theorem foldOne_in (n : Nat) (hn : 6 ≤ n) (c : Int) (w : World) :
    CallsIn Fence.wide n Try.prog 30 #[.int .i64 c] w fun e W' => ∃ v, e = .returned v ∧ RI W' w.heap.size v (Sob.fold1 c) ∧ Below w.heap.size w W' := by
  obtain ⟨Wc, hWc⟩ : ∃ Wc : World, Wc = (w.alloc (.cells #[.int .i64 c] 3)).alloc (.cells #[.slice (some ⟨w.heap.size, 0, none⟩) 1 1] 22) := ⟨_, rfl⟩
  have hsz : Wc.heap.size = w.heap.size + 2 := by rw [hWc]; simp
  have hBw : Below w.heap.size w Wc := by rw [hWc]; exact ((Below.refl _ w).alloc (Nat.le_refl _) _).alloc (by simp) _
  have hCI : CI Wc (some ⟨w.heap.size, 0, none⟩) [c].length [c] := by
    rw [hWc]
    exact Kd.C_alloc (Kd.R_reads' (RI.lit w w.heap.size [c] (Nat.le_refl _) (by simp))).2.2 _
  have hbx : Wc.cell? ⟨w.heap.size + 1, 0, none⟩ = some (.slice (some ⟨w.heap.size, 0, none⟩) 1 1) := by
    have := (Boxed.new (w.alloc (.cells #[.int .i64 c] 3)) 22 (.slice (some ⟨w.heap.size, 0, none⟩) 1 1)).cell
    rw [World.size_alloc] at this
    rw [hWc]
    exact this
  have bN := Boxed.new Wc 22 (.slice none 0 0)
  have hB1 : Below Wc.heap.size Wc (Wc.alloc (.cells #[.slice none 0 0] 22)) := (Below.refl _ Wc).alloc (Nat.le_refl _) _
  have HQ := Aside0.mk (folded_stops (n - 1 - 1 - 1) (by omega) (w.heap.size + 1) Wc.heap.size Wc (Wc.alloc (.cells #[.slice none 0 0] 22)) (some ⟨w.heap.size, 0, none⟩) 1 [c] hCI (by simp) hB1 (okO.nil bN) (by simp; omega) ((hB1.cell (p := ⟨w.heap.size + 1, 0, none⟩) (by rw [hsz]; simp)).trans hbx))
  have HR := Aside0.mk (collect_in (n - 1) (by omega) 107 #[.pointer (some ⟨w.heap.size + 1, 0, none⟩)] (enters_of Try.func107 (by kernel_rfl) rfl) (Sob.foldAll [c]) (8 * [c].length) (by simp) Wc HQ.out)
  have HB := Aside0.mk hBw
  have HW := Aside0.mk hWc
  have HS := Aside0.mk hsz
  have h1 : 1 ≤ n := by omega
  clear hWc hCI hbx bN hB1 hBw HQ hsz
  refine callsIn_of_wp Try.func30 rfl trivial ?_ rfl
  simp only [Try.ntmps30, List.size_toArray, List.length_cons, List.length_nil, Nat.reduceAdd, Nat.reduceSub, Array.replicate_succ, Array.replicate_zero, List.push_toArray, List.append_toArray, List.nil_append, List.cons_append]
  gi_wp2_with (refine ⟨trivial, ?_⟩; gi_at_call 69; refine (folded_in _ _ _ _ _).mono ?_; rintro e w' ⟨rfl, hw⟩; have hw2 : w' = Wc := hw.trans HW.out.symm; clear hw; subst hw2; simp only [World.size_alloc])
  gi_wp2_with (refine ⟨trivial, ?_⟩; gi_at_call 70; refine HR.out.mono ?_; rintro e w' ⟨v, rfl, hr, hb⟩; replace hr := Aside0.mk hr; replace hb := Aside0.mk hb)
  go_ret
  have e1 : Sob.foldAll [c] = Sob.fold1 c := by simp [Sob.foldAll]
  exact ⟨v, rfl, by rw [← e1]; exact Kd.R_lower hr.out (by have := HS.out; omega), HB.out.trans (hb.out.mono (by have := HS.out; omega))⟩

def fold_One.f (a0 : Int) : Option (List Int) := some (Sob.fold1 a0)
theorem fold_One.calls (a0 : Int) (r : List Int) (w : World) (h : fold_One.f a0 = some r) :
    Calls Try.prog 30 #[.int .i64 a0] w fun e w' => ∃ v0_ : Value, e = .returned (v0_) ∧ Kd.R (Kd.int .i64) 3 w' w.heap.size (fun _ => True) v0_ r ∧ Below w.heap.size w w' := by
  obtain rfl := Option.some.inj h
  exact callsIn_wide.1 (foldOne_in 6 (Nat.le_refl _) a0 w)

end Go.Proofs.Ytjolmhokeceljaa.Own
