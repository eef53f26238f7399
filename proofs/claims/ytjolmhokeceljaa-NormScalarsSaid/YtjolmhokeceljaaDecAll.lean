/-
  The contract of 'decomp.All': all numbers taken apart, one behind the other, in new memory, for at most 100000 numbers.
-/
import Derived.Test.YtjolmhokeceljaaDecomp
namespace Go.Proofs.Ytjolmhokeceljaa.Own
open Go.RowKit Go.Shelf Go.Proofs.YtjolmhokeceljaaW.PrintWords Go.Proofs.YtjolmhokeceljaaW.PrintLast
attribute [local go_sem] Oper.semAt_some
set_option linter.unusedVariables false

/-- What a loop over an iterator leaves among the calls that are put off. -/
def mark (D : Nat) : Deferred := { target := .collected D, args := #[] }
def Marks (base : Nat) (Ds : List Nat) (W : World) : Prop := Ds.Nodup ∧ ∀ D ∈ Ds, base ≤ D ∧ W.heap[D]? = some (.deferred (some []))
theorem Marks.lt {base : Nat} {Ds : List Nat} {W : World} (h : Marks base Ds W) : ∀ D ∈ Ds, D < W.heap.size := fun D hD => (Array.getElem?_eq_some_iff.1 (h.2 D hD).2).1
theorem Marks.keeps {base : Nat} {Ds : List Nat} {W W' : World} (h : Marks base Ds W) (k : KeepsOthers W W') : Marks base Ds W' := ⟨h.1, fun D hD => ⟨(h.2 D hD).1, k.same D _ (h.2 D hD).2 rfl⟩⟩
theorem Marks.below {base : Nat} {Ds : List Nat} {W W' : World} (h : Marks base Ds W) (k : Below W.heap.size W W') : Marks base Ds W' := ⟨h.1, fun D hD => ⟨(h.2 D hD).1, (k.block D (h.lt D hD)).trans (h.2 D hD).2⟩⟩
theorem Marks.from_ {β : Type} {base B : Nat} {Ds : List Nat} (hB : ∀ D ∈ Ds, D < B) : OwnFrom B (fun (_ : β) W => Marks base Ds W) :=
  fun _ W W' row hs hg hr => ⟨hs.1, fun D hD => ⟨(hs.2 D hD).1, (hg.block D (hs.lt D hD) (fun e => by have := (hr D e.symm).1; have := hB D hD; omega)).trans (hs.2 D hD).2⟩⟩
theorem leaves_all {F : Fence} {n : Nat} {P : Program} {fn : Func} {tmps : Array Value} {R : Ending → World → Prop} (base : Nat) (Φ : World → Prop) (hΦ : ∀ W D, Φ W → base ≤ D → W.heap[D]? = some (.deferred (some [])) → Φ (W.putObj D (.deferred none)))
    (hfin : ∀ W, Φ W → LeavesInM F n P fn tmps R [] .returning W) (Ds : List Nat) : ∀ W, Marks base Ds W → Φ W → LeavesInM F n P fn tmps R (Ds.map mark) .returning W := by
  induction Ds with
  | nil => intro W _ h; exact hfin W h
  | cons D Ds ih =>
    intro W hm h
    obtain ⟨h1, h2⟩ := List.nodup_cons.1 hm.1
    obtain ⟨h3, h4⟩ := hm.2 D List.mem_cons_self
    refine ⟨by simp, .inl ⟨D, _, rfl, run_takeDeferred h4, ih _ ⟨h2, fun E hE => ?_⟩ (hΦ W D h h3 h4)⟩⟩
    obtain ⟨h5, h6⟩ := hm.2 E (List.mem_cons_of_mem _ hE)
    refine ⟨h5, (World.putObj_heap_other (fun e => h1 (by rw [← e]; exact hE))).trans h6⟩

set_option maxRecDepth 100000 in
set_option maxHeartbeats 8000000 in
theorem decAll_in (n : Nat) (hn : 4 ≤ n) (A : Option Addr) (cp : Nat) (xs : List Int) (k : Bool) (w : World) (hC : CI w A xs.length xs) (hlen : xs.length ≤ 100000) :
    CallsIn Fence.wide n Try.prog 49 #[.slice A xs.length cp, .bool k] w fun e W' => ∃ v, e = .returned v ∧ RI W' w.heap.size v (Sob.decAll k xs) ∧ Below w.heap.size w W' := by
  have h1 : 1 ≤ n := by omega
  have HC := Aside0.mk hC
  clear hC
  refine callsIn_of_wp_marks Try.func49 rfl trivial ?_ rfl
  simp only [Try.ntmps49, List.size_toArray, List.length_cons, List.length_nil, Nat.reduceAdd, Nat.reduceSub, Array.replicate_succ, Array.replicate_zero, List.push_toArray, List.append_toArray, List.nil_append, List.cons_append]
  gi_wp2
  have bO := Boxed.new w 22 (.slice none 0 0)
  have hB0 : Below w.heap.size w (w.alloc (.cells #[.slice none 0 0] 22)) := (Below.refl _ w).alloc (Nat.le_refl _) _
  refine wpIn_loop (fun a W => ∃ (i : Nat) (Ds : List Nat) (v u7 u8 u12 u13 u14 u15 u16 u17 u18 u19 u20 u21 u22 u23 u24 : Value),
      a = { tmps := #[.slice A xs.length cp, .bool k, undef, undef, .slice none 0 0, .pointer (some ⟨w.heap.size, 0, none⟩), undef, u7, u8, .slice A xs.length cp, .int .i64 xs.length, .int .i64 i, u12, u13, u14, u15, u16, u17, u18, u19, u20, u21, u22, u23, u24], defers := Ds.map mark } ∧
      i ≤ xs.length ∧ Boxed W w.heap.size 22 v ∧ RI W w.heap.size v (Sob.decAll k (xs.take i)) ∧ Below w.heap.size w W ∧ okO w.heap.size W ∧ Marks w.heap.size Ds W)
    (fun a _ => xs.length - (intOf (a.tmps.getD 11 undef)).toNat) ?start ?round
  case start => exact ⟨0, [], .slice none 0 0, _, _, _, _, _, _, _, _, _, _, _, _, _, _, _, rfl, Nat.zero_le _, bO, Kd.R_nil _ _ _ _ _, hB0, okO.nil bO, List.nodup_nil, fun D hD => by cases hD⟩
  case round =>
    rintro a W ⟨i, Ds, v, u7, u8, u12, u13, u14, u15, u16, u17, u18, u19, u20, u21, u22, u23, u24, rfl, hi, hbx, hri, hbl, hok, hmk⟩
    have hcell := hbx.cell
    by_cases hlt : i < xs.length
    · obtain ⟨ad, rfl, hcx⟩ := Kd.at_int HC.out (i : Int) (by omega) (by omega)
      replace hcx := (hbl.cell (World.block_lt_of_cell? w _ hcx)).trans hcx
      rw [Int.toNat_natCast] at hcx
      obtain ⟨x, hx⟩ : ∃ x, x = rd xs (i : Int) := ⟨_, rfl⟩
      rw [← hx] at hcx
      have hxk : xs[i] = x := by rw [hx]; simp [rd, List.getD_eq_getElem?_getD, hlt]
      have HX := Aside0.mk hxk
      have HBX := Aside0.mk hbx
      have HRI := Aside0.mk hri
      have HBL := Aside0.mk hbl
      have HOK := Aside0.mk hok
      have HMK := Aside0.mk hmk
      clear hx hxk hbx hri hbl hok hmk hcell bO hB0
      gi_wp2_with (refine ⟨trivial, ?_⟩; gi_at_call 90; refine (parts_in _ _ _ _).mono ?_; rintro e w' ⟨rfl, rfl⟩)
      obtain ⟨W2, hW2⟩ : ∃ W2 : World, W2 = (W.alloc (.cells #[.int .i64 x] 3)).alloc (.cells #[.bool k] 4) := ⟨_, rfl⟩
      rw [← hW2]
      have hs2 : W2.heap.size = W.heap.size + 2 := by rw [hW2]; simp
      have hbW : Below W.heap.size W W2 := by rw [hW2]; exact ((Below.refl _ W).alloc (Nat.le_refl _) _).alloc (by simp) _
      have b1 : Boxed W2 W.heap.size 3 (.int .i64 x) := by rw [hW2]; exact (Boxed.new W 3 (.int .i64 x)).alloc _
      have b2 : Boxed W2 (W.heap.size + 1) 4 (.bool k) := by
        have := Boxed.new (W.alloc (.cells #[.int .i64 x] 3)) 4 (.bool k)
        rw [World.size_alloc] at this
        rw [hW2]
        exact this
      have hwW := HBL.out.size
      have hbx2 : Boxed W2 w.heap.size 22 v := (hbW.block w.heap.size HBX.out.lt).trans HBX.out
      have hri2 : RI W2 w.heap.size v (Sob.decAll k (xs.take i)) := Kd.R_below HRI.out hbW
      have hbl2 : Below w.heap.size w W2 := below_then HBL.out hwW hbW
      have hok2 : okO w.heap.size W2 := HOK.out.below hbW
      have hmk2 : Marks w.heap.size Ds W2 := HMK.out.below hbW
      have hmlt : ∀ D ∈ Ds, D < W2.heap.size := hmk2.lt
      have hheld : Held w.heap.size W2 (W.heap.size + 1) (.bool k) 4 := ⟨b2, by have := HBX.out.lt; omega, fun e => by
        rw [ob_below hbW HBX.out.lt] at e
        have := HOK.out.2 _ e
        omega⟩
      have ST := parts_stops (n - 1) (by omega) W.heap.size (W.heap.size + 1) w.heap.size w W2 x k hbl2 hok2 (by omega) b1.cell hheld
      obtain ⟨acc, hacc⟩ : ∃ acc, acc = Sob.decAll k (xs.take i) := ⟨_, rfl⟩
      rw [← hacc] at hri2
      have hal : acc.length ≤ 51200000 := by
        rw [hacc]
        have := Sob.decAll_len k (xs.take i)
        rw [List.length_take] at this
        omega
      have hnext : acc ++ Sob.dec k x = Sob.decAll k (xs.take (i + 1)) := by
        rw [List.take_succ_eq_append_getElem hlt, Sob.decAll_append, hacc, HX.out]
        simp [Sob.decAll]
      refine wpIn_rangeFunc_ownG (n := n) rfl h1 (gf := 116) (lb := #[.pointer (some ⟨W.heap.size, 0, none⟩), .pointer (some ⟨W.heap.size + 1, 0, none⟩)]) rfl trivial (enters_of Try.func116 (by kernel_rfl) rfl) ST
        (fun h k => ⟨h.1.trans k.1, h.2.trans k.2⟩) (fun W l o o' hl ho hc hw => ⟨belowK_b (w := w) (Nat.le_refl _) W l o o' (by omega) ho hc hw, KpO.putObj (w := W2) (by omega) W l o o' hl ho hc⟩) (Below.refl _ _) (fun _ => rfl)
        (fun pre W => ((∃ v, Boxed W w.heap.size 22 v ∧ W.ownsRow w.heap.size 3 1 v (acc ++ pre).length (encs (Value.int .i64) (acc ++ pre)) ∧ True) ∧ Below w.heap.size w W) ∧ Marks w.heap.size Ds W)
        (fun _ _ _ => False)
        (OwnFrom.and (OwnFrom.and (Own.from (holdsRow_own w.heap.size w.heap.size 22 3 1 (fun pre => (acc ++ pre).length) (fun pre => encs (Value.int .i64) (acc ++ pre)) (fun _ _ => True)) _) (ownFrom_below (Nat.le_refl _) (by omega))) (Marks.from_ hmlt))
        (fun _ _ _ _ _ hs _ _ => hs)
        ⟨⟨⟨v, hbx2, by simpa using hri2.own, trivial⟩, hbl2⟩, hmk2⟩
        (fun y => { tmps := #[.slice (some ad) xs.length cp, .bool k, undef, undef, .slice none 0 0, .pointer (some ⟨w.heap.size, 0, none⟩), undef, .int .i64 x, .int .i64 y, .slice (some ad) xs.length cp, .int .i64 xs.length, .int .i64 i, .bool true, .pointer (some (ad.add i)), .int .i64 x, .int .i64 x, .bool k, .func (.func 116) #[] #[.pointer (some ⟨W.heap.size, 0, none⟩), .pointer (some ⟨W.heap.size + 1, 0, none⟩)], .int .i64 y, u19, u20, u21, u22, u23, u24], defers := [] }) ?assign ?body ?done ?stop
      case assign =>
        intro l y W K hK
        gi_wp2
        exact hK
      case body =>
        rintro l pre y W3 ⟨⟨⟨v3, hv, hrow, _⟩, hB⟩, hM⟩ hlt3
        have hc := hv.cell
        have hs := hB.size
        have hlp : (acc ++ pre).length ≤ 51200512 := by rw [List.length_append]; omega
        have HRow := Aside0.mk (RI.of hrow)
        have HB := Aside0.mk hB
        have HV := Aside0.mk hv
        have HM := Aside0.mk hM
        obtain ⟨L, hL⟩ : ∃ L, L = acc ++ pre := ⟨_, rfl⟩
        rw [← hL] at HRow hlp
        have HL := Aside0.mk hL
        clear hrow hB hv hM hL
        gi_wp2_with (gi_at_builtin; refine appOneIn w.heap.size rfl (.tmp 19) (.tmp 21) rfl Try.underlying22 infoInt v3 L y rfl rfl HRow.out ?a1 ?a2 ?_; (case a1 => exact hs); (case a2 => omega); intro v' w1 hown' hgrow hat; obtain ⟨g', cap', rfl⟩ := ownsRow_succ (k := L.length) (by have := hown'.own; rw [List.length_append, List.length_singleton] at this; exact this); obtain ⟨hv1, hv2, hr2, hk2, hb2, hkp⟩ := KpO.appended HV.out HRow.out hs (Nat.le_refl _) hown' hgrow hat; have hc1 := hv1.cell; have hf1 := hv1.frozen; replace hv2 := Aside0.mk hv2; replace hr2 := Aside0.mk hr2; replace hk2 := Aside0.mk hk2; replace hb2 := Aside0.mk hb2; replace hkp := Aside0.mk hkp; clear hown' hgrow hat)
        have hr3 := hr2.out.own
        have e3 : L ++ [y] = acc ++ (pre ++ [y]) := by rw [HL.out, List.append_assoc]
        rw [e3] at hr3
        exact ⟨hk2.out.from _, ⟨hb2.out, hkp.out⟩, ⟨⟨_, hv2.out, hr3, trivial⟩, HB.out.trans hb2.out⟩, HM.out.keeps hk2.out⟩
      case done =>
        rintro D ys W3 hD rfl ⟨⟨⟨v3, hv, hrow, _⟩, hB⟩, hM⟩ hK
        rw [hnext] at hrow
        have hok3 : okO w.heap.size W3 := ⟨hv.lt, fun g hg => by unfold ob at hg; rw [hv.cell] at hg; exact own_lt hrow g hg⟩
        have hri3 : RI W3 w.heap.size v3 (Sob.decAll k (xs.take (i + 1))) := RI.of hrow
        have hm3 : Marks w.heap.size (D :: Ds) W3 := ⟨List.nodup_cons.2 ⟨fun h => by have := hmlt D h; omega, hM.1⟩, fun E hE => by
          rcases List.mem_cons.1 hE with rfl | hE
          · exact ⟨by omega, hK⟩
          · exact hM.2 E hE⟩
        have HF := Aside0.mk (And.intro hv (And.intro hri3 (And.intro hB (And.intro hok3 hm3))))
        clear hrow hv hri3 hB hok3 hm3 hM
        gi_wp2
        exact ⟨⟨i + 1, D :: Ds, v3, _, _, _, _, _, _, _, _, _, _, _, _, _, _, _, rfl, by omega, HF.out⟩, by simp [intOf]; omega⟩
      case stop =>
        rintro D c pre W _ _ h _
        exact h.elim
    · obtain rfl : i = xs.length := by omega
      have e : xs.take xs.length = xs := List.take_length
      rw [e] at hri
      have HRI := Aside0.mk hri
      have HBL := Aside0.mk hbl
      have HMK := Aside0.mk hmk
      clear e hri hbl hmk hbx hok bO hB0
      gi_wp2
      refine leaves_all w.heap.size (fun W => RI W w.heap.size v (Sob.decAll k xs) ∧ Below w.heap.size w W) (fun W D h hD hK => ⟨RI.of (ownsRow_putObj h.1.own _ hK rfl), h.2.trans (belowK_b (w := w) (Nat.le_refl _) W D _ _ hD hK rfl rfl)⟩) (fun W h => ?_) Ds W HMK.out ⟨HRI.out, HBL.out⟩
      exact ⟨_, results_tmp rfl _ _ _, v, rfl, h.1, h.2⟩

def decomp_All.f (l0 : List Int) (b1 : Bool) : Option (List Int) := if l0.length ≤ 20000 then some (Sob.decAll b1 l0) else none
theorem decomp_All.calls (A0 : Option Addr) (c0 : Nat) (l0 : List Int) (b1 : Bool) (r : List Int) (w : World) (hr0 : Kd.C (Kd.int .i64) w A0 l0.length l0) (_hc0 : l0.length ≤ c0) (h : decomp_All.f l0 b1 = some r) :
    Calls Try.prog 49 #[.slice A0 l0.length c0, .bool b1] w fun e w' => ∃ v0_ : Value, e = .returned (v0_) ∧ Kd.R (Kd.int .i64) 3 w' w.heap.size (fun _ => True) v0_ r ∧ Below w.heap.size w w' := by
  unfold decomp_All.f at h
  split at h
  · rename_i hs
    obtain rfl := Option.some.inj h
    exact callsIn_wide.1 (decAll_in 4 (Nat.le_refl _) A0 c0 l0 b1 w hr0 (by omega))
  · cases h

end Go.Proofs.Ytjolmhokeceljaa.Own
