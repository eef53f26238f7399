/-
  The contract of the comparison that 'order.Put' sorts by: the classes of two numbers compared.
  A row of ints of the call's own that is written in place: its cells, what a store makes of it; and the contract of 'slices.swapRangeCmpFunc' of ints.
  The contract of 'slices.insertionSortCmpFunc' of ints by their classes: it sorts a part of a row in place, stably.
  The contract of 'slices.rotateCmpFunc' of ints: two neighbouring parts of a row, none of them empty, change places.
  The contract of 'slices.symMergeCmpFunc' of ints by their classes where one of the two parts is one number.
-/
import Derived.Test.YtjolmhokeceljaaCls
import Derived.Test.YtjolmhokeceljaaOc
import Derived.Test.YtjolmhokeceljaaSob
import Derived.CellFam
import Derived.BigGuard
import Derived.BigRegion
import Derived.BigCall
import Derived.BigQuiet
import Derived.StillTailTactics
namespace Go.Proofs.Ytjolmhokeceljaa.Own
open Go.RowKit Go.Proofs.YtjolmhokeceljaaW.PrintWords

def cmp3 (x y : Int) : Int := if x < y then -1 else if x > y then 1 else 0
theorem compare_eq (x y : Int) : Oc.cmp_Compare_int.f x y = some (cmp3 x y) := by
  unfold Oc.cmp_Compare_int.f Oc.cmp_isNaN_int.f cmp3
  have h (z : Int) : (z != z) = false := by simp
  rw [Option.bind_some, Option.bind_some, h, h, if_neg (by simp), if_neg (by simp)]
  split
  · rfl
  · split <;> rfl

set_option maxRecDepth 100000 in
set_option maxHeartbeats 2000000 in
theorem cmp_any (x y : Int) (w : World) : Calls Try.prog 88 #[.int .i64 x, .int .i64 y] w fun e w' => e = .returned (.int .i64 (cmp3 (Sob.cls x) (Sob.cls y))) ∧ Below w.heap.size w w' := by
  go_enter Try.func88, Try.ntmps88
  have h1 := fun W : World => ucd_Class.calls x _ W rfl
  have h2 := fun W : World => ucd_Class.calls y _ W rfl
  have h3 := fun W : World => Oc.cmp_Compare_int.calls (Sob.cls x) (Sob.cls y) _ W (compare_eq _ _)
  go_wp2_with (first | (go_at_call 37; refine (h1 _).mono ?_; rintro e w1 ⟨rfl, hb1⟩; replace hb1 := Aside0.mk hb1) | (go_at_call 37; refine (h2 _).mono ?_; rintro e w2 ⟨rfl, hb2⟩; replace hb2 := Aside0.mk hb2) | (go_at_call 89; refine (h3 _).mono ?_; rintro e w3 ⟨rfl, hb3⟩; replace hb3 := Aside0.mk hb3))
  go_ret
  obtain ⟨nd, rfl⟩ := hb3.out
  exact ⟨rfl, pw_below_drewN (below_then hb1.out hb1.out.size hb2.out) nd⟩

end Go.Proofs.Ytjolmhokeceljaa.Own

namespace Go.Proofs.Ytjolmhokeceljaa.Own
open Go.RowKit Go.Proofs.YtjolmhokeceljaaW.PrintWords

/-- Block g holds xs, made behind the world w0; all that is elder is as it was. -/
structure Row (w0 w : World) (g cap : Nat) (xs : List Int) : Prop where
  ri : RI w w0.heap.size (.slice (some ⟨g, 0, none⟩) xs.length cap) xs
  bl : Below w0.heap.size w0 w
  le : w0.heap.size ≤ g
namespace Row
variable {w0 w w' : World} {g cap : Nat} {xs : List Int}
theorem cells (h : Row w0 w g cap xs) (o : Nat) : ∀ t, o + t < xs.length → w.cell? ⟨g, o + t, none⟩ = some (.int .i64 (xs.getD (o + t) 0)) := fun t ht => by
  have := (Kd.R_celln 0 h.ri ((o + t : Nat) : Int) (by omega) (by omega)).1
  rw [Int.toNat_natCast] at this
  exact this
theorem frozen (h : Row w0 w g cap xs) (o : Nat) : ∀ t, o + t < xs.length → w.frozen? ⟨g, o + t, none⟩ = false := fun t ht => by
  have := (Kd.R_celln 0 h.ri ((o + t : Nat) : Int) (by omega) (by omega)).2
  rw [Int.toNat_natCast] at this
  exact this
theorem below (h : Row w0 w g cap xs) (hb : Below w.heap.size w w') : Row w0 w' g cap xs := ⟨Kd.R_below h.ri hb, below_then h.bl h.bl.size hb, h.le⟩
theorem drewN (h : Row w0 w g cap xs) (n : Nat) : Row w0 (w.drewN n) g cap xs := ⟨Kd.R_drewN h.ri n, pw_below_drewN h.bl n, h.le⟩
theorem drew (h : Row w0 w g cap xs) : Row w0 w.drew g cap xs := h.drewN 1
theorem set (h : Row w0 w g cap xs) (i : Nat) (x : Int) : Row w0 (w.setCell ⟨g, i, none⟩ (.int .i64 x)) g cap (xs.set i x) := by
  have := (Kd.R_put h.ri (i : Int) x).1
  rw [Int.toNat_natCast] at this
  exact ⟨by rw [List.length_set]; exact this, below_set h.bl h.le, h.le⟩
theorem len (h : Row w0 w g cap xs) : xs.length ≤ 9223372036854775807 := (Kd.R_reads' h.ri).1 ▸ Kd.C_max (Kd.R_reads' h.ri).2.2
theorem swap_list (A B C : List Int) (x y : Int) : ((A ++ x :: (B ++ y :: C)).set A.length y).set (A.length + 1 + B.length) x = A ++ y :: (B ++ x :: C) := by
  have e : A ++ y :: (B ++ y :: C) = (A ++ y :: B) ++ y :: C := by simp
  have l : (A ++ y :: B).length = A.length + 1 + B.length := by simp; omega
  rw [List.set_append_right _ _ (Nat.le_refl _), Nat.sub_self, List.set_cons_zero, e, ← l, List.set_append_right _ _ (Nat.le_refl _), Nat.sub_self, List.set_cons_zero]
  simp
/-- The numbers at i and j are exchanged. -/
theorem swap {A B C : List Int} {x y : Int} (h : Row w0 w g cap (A ++ x :: (B ++ y :: C))) {i j : Nat} (hi : i = A.length) (hj : j = A.length + 1 + B.length) :
    Row w0 ((w.setCell ⟨g, i, none⟩ (.int .i64 y)).setCell ⟨g, j, none⟩ (.int .i64 x)) g cap (A ++ y :: (B ++ x :: C)) := by
  subst hi
  subst hj
  rw [← swap_list A B C x y]
  exact (h.set _ _).set _ _
end Row
theorem getD_at (A B : List Int) (x : Int) (i : Nat) (h : i = A.length) : (A ++ x :: B).getD i 0 = x := by
  subst h
  simp [List.getD_eq_getElem?_getD]

theorem Row.at_ {w0 w : World} {g cap : Nat} {A B : List Int} {x : Int} (h : Row w0 w g cap (A ++ x :: B)) {i : Nat} (hi : A.length = i) : w.cell? ⟨g, i, none⟩ = some (.int .i64 x) ∧ w.frozen? ⟨g, i, none⟩ = false := by
  have h1 := h.cells i 0 (by rw [List.length_append, List.length_cons]; omega)
  have h2 := h.frozen i 0 (by rw [List.length_append, List.length_cons]; omega)
  rw [Nat.add_zero, getD_at _ _ _ _ hi.symm] at h1
  rw [Nat.add_zero] at h2
  exact ⟨h1, h2⟩
theorem Row.at2_ {w0 w : World} {g cap : Nat} {A B C : List Int} {x y : Int} (h : Row w0 w g cap (A ++ x :: (B ++ y :: C))) {j : Nat} (hj : A.length + 1 + B.length = j) : w.cell? ⟨g, j, none⟩ = some (.int .i64 y) ∧ w.frozen? ⟨g, j, none⟩ = false := by
  have e : A ++ x :: (B ++ y :: C) = (A ++ x :: B) ++ y :: C := by simp
  rw [e] at h
  exact h.at_ (by rw [List.length_append, List.length_cons]; omega)
theorem Row.set1 {w0 w : World} {g cap : Nat} {A B : List Int} {x : Int} (h : Row w0 w g cap (A ++ x :: B)) {i : Nat} (hi : A.length = i) (v : Int) : Row w0 (w.setCell ⟨g, i, none⟩ (.int .i64 v)) g cap (A ++ v :: B) := by
  have := h.set i v
  rw [← hi, List.set_append_right _ _ (Nat.le_refl _), Nat.sub_self, List.set_cons_zero] at this
  rw [← hi]
  exact this
theorem Row.set2 {w0 w : World} {g cap : Nat} {A B C : List Int} {x y : Int} (h : Row w0 w g cap (A ++ x :: (B ++ y :: C))) {j : Nat} (hj : A.length + 1 + B.length = j) (v : Int) : Row w0 (w.setCell ⟨g, j, none⟩ (.int .i64 v)) g cap (A ++ x :: (B ++ v :: C)) := by
  have e (z : Int) : A ++ x :: (B ++ z :: C) = (A ++ x :: B) ++ z :: C := by simp
  rw [e] at h ⊢
  exact h.set1 (by rw [List.length_append, List.length_cons]; omega) v

set_option maxRecDepth 100000 in
set_option maxHeartbeats 4000000 in
theorem swap_range {w0 w : World} {g cap : Nat} (p u m v q : List Int) (huv : u.length = v.length) (o n c a b : Nat) (f : Value) (ha : p.length = o + a) (hb : b = a + u.length + m.length) (hn : b + u.length ≤ n) (hm : n ≤ 100000000)
    (h : Row w0 w g cap (p ++ (u ++ (m ++ (v ++ q))))) :
    Calls Try.prog 134 #[.slice (some ⟨g, o, none⟩) n c, .int .i64 a, .int .i64 b, .int .i64 u.length, f] w fun e w' => e = .returned (.tuple #[]) ∧ Row w0 w' g cap (p ++ (v ++ (m ++ (u ++ q)))) := by
  have hH := Aside0.mk h
  clear h
  go_enter Try.func134, Try.ntmps134
  go_wp2
  go_loopw [10] (fun vi wr => ∃ k : Nat, k ≤ u.length ∧ vi = .int .i64 k ∧ Aside0 (Row w0 wr g cap (p ++ (v.take k ++ (u.drop k ++ (m ++ (u.take k ++ (v.drop k ++ q))))))))
    (fun vi _ => u.length - (intOf vi).toNat)
  case atStart => exact ⟨0, Nat.zero_le _, rfl, by simpa using hH⟩
  case round =>
    obtain ⟨k, hk, rfl, HR⟩ := hrel
    by_cases hlt : k < u.length
    · have hlv : k < v.length := by omega
      obtain ⟨X, hX⟩ : ∃ X, X = u[k] := ⟨_, rfl⟩
      obtain ⟨Y, hY⟩ : ∃ Y, Y = v[k] := ⟨_, rfl⟩
      have eu : u.drop k = X :: u.drop (k + 1) := by rw [List.drop_eq_getElem_cons hlt, hX]
      have ev : v.drop k = Y :: v.drop (k + 1) := by rw [List.drop_eq_getElem_cons hlv, hY]
      have ltu : (u.take k).length = k := by rw [List.length_take]; omega
      have ltv : (v.take k).length = k := by rw [List.length_take]; omega
      have ldu : (u.drop (k + 1)).length = u.length - (k + 1) := List.length_drop ..
      have HR2 : Row w0 wr g cap ((p ++ v.take k) ++ X :: ((u.drop (k + 1) ++ (m ++ u.take k)) ++ Y :: (v.drop (k + 1) ++ q))) := by
        have := HR.out
        rw [eu, ev] at this
        simpa using this
      have nxt : (p ++ v.take k) ++ Y :: ((u.drop (k + 1) ++ (m ++ u.take k)) ++ X :: (v.drop (k + 1) ++ q)) = p ++ (v.take (k + 1) ++ (u.drop (k + 1) ++ (m ++ (u.take (k + 1) ++ (v.drop (k + 1) ++ q))))) := by
        rw [List.take_succ_eq_append_getElem hlt, List.take_succ_eq_append_getElem hlv, ← hX, ← hY]
        simp
      have la : (p ++ v.take k).length = o + (a + k) := by rw [List.length_append, ltv]; omega
      have lb : (p ++ v.take k).length + 1 + (u.drop (k + 1) ++ (m ++ u.take k)).length = o + (b + k) := by rw [la, List.length_append, List.length_append, ldu, ltu]; omega
      obtain ⟨cA, fA⟩ := HR2.at_ la
      obtain ⟨cB, fB⟩ := HR2.at2_ lb
      obtain ⟨cB2, fB2⟩ := (HR2.set1 la Y).at2_ lb
      have hbk : b + k < n := by omega
      have hak : a + k < n := by omega
      have HR3 := Aside0.mk HR2
      have NX := Aside0.mk nxt
      have LA := Aside0.mk la
      have LB := Aside0.mk lb
      clear HR2 nxt la lb HR ltu ltv ldu eu ev hX hY hb hn ha huv hlv
      go_wp2
      go_region
      all_goals go_wp2
      go_roundw
      case rel => exact ⟨k + 1, by omega, by go_num, ⟨by rw [← NX.out]; exact (HR3.out.swap LA.out.symm LB.out.symm).drew⟩⟩
      case measure => simp [intOf]; omega
    · have hk2 : k = u.length := by omega
      subst hk2
      have e := HR.out
      rw [List.take_of_length_le (by omega : v.length ≤ u.length), List.drop_of_length_le (Nat.le_refl _), List.take_of_length_le (Nat.le_refl _), List.drop_of_length_le (by omega : v.length ≤ u.length), List.nil_append, List.nil_append] at e
      have HE := Aside0.mk e
      clear e HR hb hn ha huv
      go_wp2
      go_end0
      exact ⟨rfl, HE.out⟩

end Go.Proofs.Ytjolmhokeceljaa.Own

namespace Go.Proofs.Ytjolmhokeceljaa.Own
open Go.RowKit Go.Proofs.YtjolmhokeceljaaW.PrintWords Go.Proofs.YtjolmhokeceljaaW.PrintLast

theorem cmp3_lt (x y : Int) : (cmp3 x y < 0) = (x < y) := by
  unfold cmp3
  apply propext
  split
  · omega
  · split <;> omega

set_option maxRecDepth 100000 in
set_option maxHeartbeats 4000000 in
theorem insertion {w0 w : World} {g cap : Nat} (p s q : List Int) (o n c a b : Nat) (ha : p.length = o + a) (hb : b = a + s.length) (hn : b ≤ n) (hm : n ≤ 100000000)
    (h : Row w0 w g cap (p ++ (s ++ q))) :
    Calls Try.prog 127 #[.slice (some ⟨g, o, none⟩) n c, .int .i64 a, .int .i64 b, .func (.func 88) #[] #[]] w fun e w' => e = .returned (.tuple #[]) ∧ Row w0 w' g cap (p ++ (Sob.srt s ++ q)) := by
  have hH := Aside0.mk h
  clear h
  go_enter Try.func127, Try.ntmps127
  go_wp2
  go_loopw [8] (fun vi wr => ∃ k : Nat, 1 ≤ k ∧ (k ≤ s.length ∨ k = 1) ∧ vi = .int .i64 ((a + k : Nat) : Int) ∧ Aside0 (Row w0 wr g cap (p ++ (Sob.srt (s.take k) ++ (s.drop k ++ q)))))
    (fun vi _ => b + 1 - (intOf vi).toNat)
  case atStart =>
    refine ⟨1, Nat.le_refl _, .inr rfl, by go_num, ?_⟩
    rcases s with _ | ⟨x, s⟩
    · exact hH
    · exact hH
  case round =>
    obtain ⟨k, hk1, hk, rfl, HR⟩ := hrel
    by_cases hlt : k < s.length
    · obtain ⟨i, hi⟩ : ∃ i, i = a + k := ⟨_, rfl⟩
      obtain ⟨X, hX⟩ : ∃ X, X = s[k] := ⟨_, rfl⟩
      have ed : s.drop k = X :: s.drop (k + 1) := by rw [List.drop_eq_getElem_cons hlt, hX]
      have et : s.take (k + 1) = s.take k ++ [X] := by rw [List.take_succ_eq_append_getElem hlt, hX]
      have el : (Sob.srt (s.take k)).length = k := by rw [Sob.srt_len, List.length_take]; omega
      rw [← hi]
      have hib : i < b := by omega
      have HR2 := HR.out
      rw [ed] at HR2
      have HR3 := Aside0.mk HR2
      have HE := Aside0.mk et
      have HL := Aside0.mk el
      have HI := Aside0.mk hi
      have HA := Aside0.mk ha
      have HBN := Aside0.mk hb
      have hbn : b ≤ n := hn
      clear HR HR2 ed et el hi ha hb hn hX
      go_wp2
      go_loopw [9] (fun vj wr2 => ∃ (l1 l2 : List Int) (j : Nat), vj = .int .i64 (j : Int) ∧ Aside0 (j = a + l1.length) ∧ Aside0 (Sob.srt (s.take k) = l1 ++ l2) ∧ Aside0 (∀ y ∈ l2, Sob.cls X < Sob.cls y) ∧ Aside0 (Row w0 wr2 g cap (p ++ (l1 ++ X :: (l2 ++ (s.drop (k + 1) ++ q))))))
        (fun vj _ => (intOf vj).toNat)
      case atStart =>
        exact ⟨Sob.srt (s.take k), [], i, rfl, ⟨by have := HL.out; have := HI.out; omega⟩, ⟨by simp⟩, ⟨fun _ h => by cases h⟩, HR3⟩
      case round =>
        obtain ⟨l1, l2, j, rfl, HJ, HS, HG, HW⟩ := hrel
        have out : (∀ y ∈ l1, Sob.cls y ≤ Sob.cls X) → ∀ W, Row w0 W g cap (p ++ (l1 ++ X :: (l2 ++ (s.drop (k + 1) ++ q)))) → Row w0 W g cap (p ++ (Sob.srt (s.take (k + 1)) ++ (s.drop (k + 1) ++ q))) := fun hle W hW => by
          rw [HE.out, ← Sob.srt_snoc HS.out hle HG.out]
          simpa using hW
        have OUT := Aside0.mk out
        clear out
        rcases List.eq_nil_or_concat l1 with h0 | ⟨l1', Y, h0⟩
        · -- nothing lies ahead
          subst h0
          have hja : ¬ a < j := by have := HJ.out; simp at this; omega
          have hjd : decide (a < j) = false := decide_eq_false hja
          go_wp2
          go_quiet (fail)
          go_wp2
          go_roundw
          case rel => exact ⟨k + 1, by omega, .inl (by omega), by have := HI.out; congr 1; omega, ⟨OUT.out (fun _ h => by cases h) _ (HW.out.drewN _)⟩⟩
          case measure => simp [intOf]; omega
        · have h0 : l1 = l1' ++ [Y] := by rw [h0, List.concat_eq_append]
          subst h0
          have hj := HJ.out
          rw [List.length_append, List.length_singleton] at hj
          have hla := HA.out
          have hja : a < j := by omega
          have hjd : decide (a < j) = true := decide_eq_true hja
          have hlen := HL.out
          have hlen2 : l1'.length + 1 + l2.length = k := by rw [← hlen, HS.out]; simp only [List.length_append, List.length_singleton]
          have hjn : j < n := by have := HI.out; omega
          have hW : Row w0 wr g cap ((p ++ l1') ++ Y :: ([] ++ X :: (l2 ++ (s.drop (k + 1) ++ q)))) := by simpa using HW.out
          have la : (p ++ l1').length = o + (j - 1) := by rw [List.length_append]; omega
          have lb : (p ++ l1').length + 1 + ([] : List Int).length = o + j := by rw [la, List.length_nil]; omega
          obtain ⟨cA, fA⟩ := hW.at_ la
          obtain ⟨cB, fB⟩ := hW.at2_ lb
          have hj1 : 1 ≤ j := by omega
          have hj2 : IntKind.i64.wrap ((j : Int) - 1) = ((j - 1 : Nat) : Int) := by rw [i64_w]; unfold wrap64; omega
          have hj3 : j - 1 < n := by omega
          have HW2 := Aside0.mk hW
          have LA := Aside0.mk la
          have LB := Aside0.mk lb
          have HJ2 := Aside0.mk hj
          clear hW la lb hj hlen hlen2 hla HJ
          go_wp2
          refine wp_region_still_tail 14 (by kernel_rfl) (by kernel_rfl) ?_
          simp only [List.take_succ_cons, List.take_zero, List.drop_succ_cons, List.drop_zero]
          repeat still_step
          refine wpStill_nil ?_
          change wpList _ _ _ _ _ wr.drew
          have HW3 := Aside0.mk HW2.out.drew
          clear cA cB fA fB HW
          generalize wr.drew = w2 at HW3 ⊢
          go_wp2_with (go_at_call 88; refine (cmp_any _ _ _).mono ?_; rintro e w3 ⟨rfl, hb3⟩; replace HW3 := Aside0.mk (HW3.out.below hb3); clear hb3)
          · have hlt2 : cmp3 (Sob.cls X) (Sob.cls Y) < 0 := by assumption
            have hxy : Sob.cls X < Sob.cls Y := by rwa [cmp3_lt] at hlt2
            obtain ⟨cA, fA⟩ := HW3.out.at_ LA.out
            obtain ⟨cB, fB⟩ := HW3.out.at2_ LB.out
            obtain ⟨cC, fC⟩ := (HW3.out.set2 LB.out Y).at_ LA.out
            go_region
            all_goals go_wp2
            go_roundw
            case rel =>
              refine ⟨l1', Y :: l2, j - 1, by go_num, ⟨by have := HJ2.out; omega⟩, ⟨by rw [HS.out]; simp⟩, ⟨fun y hy => ?_⟩, ⟨?_⟩⟩
              · rcases List.mem_cons.1 hy with rfl | hy
                · exact hxy
                · exact HG.out y hy
              · have := ((HW3.out.set2 LB.out Y).set1 LA.out X).drew
                simpa using this
            case measure => simp [intOf]; omega
          · have hge : ¬ cmp3 (Sob.cls X) (Sob.cls Y) < 0 := by omega
            have hyx : Sob.cls Y ≤ Sob.cls X := by rw [cmp3_lt] at hge; omega
            go_roundw
            case rel =>
              refine ⟨k + 1, by omega, .inl (by omega), by have := HI.out; congr 1; omega, ⟨OUT.out (fun y hy => ?_) _ (by simpa using HW3.out)⟩⟩
              have ho : Sob.Ord ((l1' ++ [Y]) ++ l2) := HS.out ▸ Sob.srt_ord _
              obtain ⟨_, _, ho3⟩ := Sob.ord_append.1 (Sob.ord_append.1 ho).1
              rcases List.mem_append.1 hy with hy | hy
              · have := ho3 y hy Y List.mem_cons_self
                omega
              · rw [List.mem_singleton.1 hy]; exact hyx
            case measure => simp [intOf]; omega
    · -- all is in order
      have e := HR.out
      rw [List.take_of_length_le (by omega), List.drop_of_length_le (by omega), List.nil_append] at e
      have HE := Aside0.mk e
      have hkb : ¬ (a + k : Nat) < b := by omega
      clear e HR
      go_wp2
      go_end0
      exact ⟨rfl, HE.out⟩

end Go.Proofs.Ytjolmhokeceljaa.Own

namespace Go.Proofs.Ytjolmhokeceljaa.Own
open Go.RowKit Go.Proofs.YtjolmhokeceljaaW.PrintWords Go.Proofs.YtjolmhokeceljaaW.PrintLast

theorem wrap_nat (x : Int) (k : Nat) (h : x = (k : Int)) (hk : k ≤ 1000000000000) : IntKind.i64.wrap x = (k : Int) := by rw [i64_w, h]; unfold wrap64; omega

set_option maxRecDepth 100000 in
set_option maxHeartbeats 4000000 in
theorem rotate {w0 w : World} {g cap : Nat} (p u v q : List Int) (o n c a m b : Nat) (f : Value) (ha : p.length = o + a) (hm : m = a + u.length) (hb : b = m + v.length) (hn : b ≤ n) (hu : u ≠ []) (hv : v ≠ []) (hbig : n ≤ 100000000)
    (h : Row w0 w g cap (p ++ (u ++ (v ++ q)))) :
    Calls Try.prog 132 #[.slice (some ⟨g, o, none⟩) n c, .int .i64 a, .int .i64 m, .int .i64 b, f] w fun e w' => e = .returned (.tuple #[]) ∧ Row w0 w' g cap (p ++ (v ++ (u ++ q))) := by
  have hH := Aside0.mk h
  clear h
  have lu := List.length_pos_iff.2 hu
  have lv := List.length_pos_iff.2 hv
  have w1 : IntKind.i64.wrap ((m : Int) - a) = (u.length : Int) := wrap_nat _ _ (by omega) (by omega)
  have w2 : IntKind.i64.wrap ((b : Int) - m) = (v.length : Int) := wrap_nat _ _ (by omega) (by omega)
  have HA := Aside0.mk ha
  have HM := Aside0.mk hm
  have HB := Aside0.mk hb
  have hbn : b ≤ n := hn
  clear ha hm hb hn hu hv
  go_enter Try.func132, Try.ntmps132
  go_wp2
  clear w1 w2
  go_loopw [10, 11] (fun vi vj wr => ∃ (i j : Nat) (L U V R : List Int), vi = .int .i64 i ∧ vj = .int .i64 j ∧ Aside0 (U.length = i ∧ V.length = j ∧ 1 ≤ i ∧ 1 ≤ j ∧ a + L.length + i = m ∧ m + j + R.length = b) ∧ Aside0 (L ++ (V ++ (U ++ R)) = v ++ u) ∧ Aside0 (Row w0 wr g cap (p ++ (L ++ (U ++ (V ++ (R ++ q)))))))
    (fun vi vj _ => (intOf vi).toNat + (intOf vj).toNat)
  case atStart => exact ⟨u.length, v.length, [], u, v, [], rfl, rfl, ⟨rfl, rfl, lu, lv, by have := HM.out; simp; omega, by have := HB.out; simp; omega⟩, ⟨by simp⟩, by simpa using hH⟩
  case round =>
    obtain ⟨i, j, L, U, V, R, rfl, rfl, HS, HT, HW⟩ := hrel
    obtain ⟨e1, e2, e3, e4, e5, e6⟩ := HS.out
    have hal := HA.out
    have w3 : IntKind.i64.wrap ((m : Int) - i) = ((m - i : Nat) : Int) := wrap_nat _ _ (by omega) (by omega)
    have lp : (p ++ L).length = o + (m - i) := by rw [List.length_append]; omega
    by_cases hij : i = j
    · have sw := swap_range (p ++ L) U [] V (R ++ q) (by omega) o n c (m - i) m f lp (by simp; omega) (by omega) hbig (w0 := w0) (w := wr) (g := g) (cap := cap) (by simpa using HW.out)
      rw [e1] at sw
      have SW := Aside0.mk sw
      have LP := Aside0.mk lp
      clear sw lp e5 e6 hal
      subst hij
      go_wp2_with (go_at_call 134; refine SW.out.mono ?_; rintro e w5 ⟨rfl, HW5⟩; replace HW5 := Aside0.mk HW5)
      go_end0
      have := HW5.out
      have ht := HT.out
      refine ⟨rfl, ?_⟩
      have e : p ++ (v ++ (u ++ q)) = p ++ ((v ++ u) ++ q) := by simp
      rw [e, ← ht]
      simpa using this
    · by_cases hgt : j < i
      · obtain ⟨X, U2, hX, hXl⟩ : ∃ X U2, U = X ++ U2 ∧ X.length = j := ⟨U.take j, U.drop j, (List.take_append_drop j U).symm, by rw [List.length_take]; omega⟩
        subst hX
        rw [List.length_append] at e1
        have sw := swap_range (p ++ L) X U2 V (R ++ q) (by omega) o n c (m - i) m f lp (by omega) (by omega) hbig (w0 := w0) (w := wr) (g := g) (cap := cap) (by simpa using HW.out)
        rw [hXl] at sw
        have SW := Aside0.mk sw
        have w4 : IntKind.i64.wrap ((i : Int) - j) = ((i - j : Nat) : Int) := wrap_nat _ _ (by omega) (by omega)
        have HS2 := Aside0.mk (And.intro hXl e1)
        clear sw lp e1 e2 e5 e6 hal hXl
        go_wp2_with (go_at_call 134; refine SW.out.mono ?_; rintro e w5 ⟨rfl, HW5⟩; replace HW5 := Aside0.mk HW5)
        go_roundw
        case rel =>
          obtain ⟨e1, e2, e3, e4, e5, e6⟩ := HS.out
          obtain ⟨f1, f2⟩ := HS2.out
          refine ⟨i - j, j, L ++ V, U2, X, R, rfl, rfl, ⟨by omega, by omega, by omega, by omega, by rw [List.length_append]; omega, by omega⟩, ⟨by rw [← HT.out]; simp⟩, ⟨by simpa using HW5.out⟩⟩
        case measure => simp [intOf]; omega
      · obtain ⟨V1, Y, hY, hYl⟩ : ∃ V1 Y, V = V1 ++ Y ∧ Y.length = i := ⟨V.take (j - i), V.drop (j - i), (List.take_append_drop _ V).symm, by rw [List.length_drop]; omega⟩
        subst hY
        rw [List.length_append] at e2
        have sw := swap_range (p ++ L) U V1 Y (R ++ q) (by omega) o n c (m - i) (m + j - i) f lp (by omega) (by omega) hbig (w0 := w0) (w := wr) (g := g) (cap := cap) (by simpa using HW.out)
        rw [e1] at sw
        have SW := Aside0.mk sw
        have w4 : IntKind.i64.wrap ((j : Int) - i) = ((j - i : Nat) : Int) := wrap_nat _ _ (by omega) (by omega)
        have w5 : IntKind.i64.wrap ((m : Int) + j) = ((m + j : Nat) : Int) := wrap_nat _ _ (by omega) (by omega)
        have w6 : IntKind.i64.wrap (((m + j : Nat) : Int) - i) = ((m + j - i : Nat) : Int) := wrap_nat _ _ (by omega) (by omega)
        have w7 : IntKind.i64.wrap ((m : Int) + j - i) = ((m + j - i : Nat) : Int) := wrap_nat _ _ (by omega) (by omega)
        have HS2 := Aside0.mk (And.intro hYl e2)
        clear sw lp e1 e2 e5 e6 hal hYl
        go_wp2_with (go_at_call 134; refine SW.out.mono ?_; rintro e w5 ⟨rfl, HW5⟩; replace HW5 := Aside0.mk HW5)
        go_roundw
        case rel =>
          obtain ⟨e1, e2, e3, e4, e5, e6⟩ := HS.out
          obtain ⟨f1, f2⟩ := HS2.out
          refine ⟨i, j - i, L, Y, V1, U ++ R, rfl, rfl, ⟨by omega, by omega, by omega, by omega, by omega, by rw [List.length_append]; omega⟩, ⟨by rw [← HT.out]; simp⟩, ⟨by simpa using HW5.out⟩⟩
        case measure => simp [intOf]; omega

end Go.Proofs.Ytjolmhokeceljaa.Own

namespace Go.Proofs.Ytjolmhokeceljaa.Own
open Go.RowKit Go.Proofs.YtjolmhokeceljaaW.PrintWords Go.Proofs.YtjolmhokeceljaaW.PrintLast

theorem getD_mid (A v q : List Int) (t : Nat) (ht : t < v.length) : (A ++ (v ++ q)).getD (A.length + t) 0 = v.getD t 0 := by
  rw [List.getD_eq_getElem?_getD, List.getD_eq_getElem?_getD, List.getElem?_append_right (by omega), show A.length + t - A.length = t by omega, List.getElem?_append_left ht]
theorem Row.mid_ {w0 w : World} {g cap : Nat} {A v q : List Int} (h : Row w0 w g cap (A ++ (v ++ q))) {i t : Nat} (ht : t < v.length) (hi : A.length + t = i) : w.cell? ⟨g, i, none⟩ = some (.int .i64 (v.getD t 0)) ∧ w.frozen? ⟨g, i, none⟩ = false := by
  have h1 := h.cells i 0 (by rw [List.length_append, List.length_append]; omega)
  have h2 := h.frozen i 0 (by rw [List.length_append, List.length_append]; omega)
  rw [Nat.add_zero, ← hi, getD_mid A v q t ht, hi] at h1
  rw [Nat.add_zero] at h2
  exact ⟨h1, h2⟩

set_option maxRecDepth 100000 in
set_option maxHeartbeats 8000000 in
theorem sym_left {w0 w : World} {g cap : Nat} (p : List Int) (x : Int) (v q : List Int) (o n c a b : Nat) (ha : p.length = o + a) (hb : b = a + 1 + v.length) (hn : b ≤ n) (hbig : n ≤ 100000000) (hv : Sob.Ord v)
    (h : Row w0 w g cap (p ++ ([x] ++ (v ++ q)))) :
    Calls Try.prog 128 #[.slice (some ⟨g, o, none⟩) n c, .int .i64 a, .int .i64 ((a + 1 : Nat) : Int), .int .i64 b, .func (.func 88) #[] #[]] w fun e w' => e = .returned (.tuple #[]) ∧ Row w0 w' g cap (p ++ (Sob.srt ([x] ++ v) ++ q)) := by
  have hH := Aside0.mk h
  clear h
  obtain ⟨m, hm⟩ : ∃ m, m = a + 1 := ⟨_, rfl⟩
  rw [← hm]
  have w1 : IntKind.i64.wrap ((m : Int) - a) = 1 := by rw [i64_w, hm]; unfold wrap64; omega
  have HA := Aside0.mk ha
  have HB := Aside0.mk hb
  have HM := Aside0.mk hm
  have hbn : b ≤ n := hn
  clear ha hb hn hm
  go_enter Try.func128, Try.ntmps128
  go_wp2
  clear w1
  go_loopw [10, 11] (fun vi vj wr => ∃ (i j : Nat), vi = .int .i64 i ∧ vj = .int .i64 j ∧ m ≤ i ∧ i ≤ j ∧ j ≤ b ∧ Aside0 ((∀ y ∈ v.take (i - m), Sob.cls y < Sob.cls x) ∧ ∀ y ∈ v.drop (j - m), Sob.cls x ≤ Sob.cls y) ∧ Aside0 (Row w0 wr g cap (p ++ ([x] ++ (v ++ q)))))
    (fun vi vj _ => (intOf vj).toNat - (intOf vi).toNat)
  case atStart => exact ⟨m, b, rfl, rfl, Nat.le_refl _, by have := HB.out; have := HM.out; omega, Nat.le_refl _, ⟨⟨fun y hy => by simp at hy, fun y hy => by rw [List.drop_of_length_le (by have := HB.out; have := HM.out; omega)] at hy; cases hy⟩⟩, hH⟩
  case round =>
    obtain ⟨i, j, rfl, rfl, hmi, hij, hjb, HS, HW⟩ := hrel
    by_cases hlt : i < j
    · obtain ⟨k, hk⟩ : ∃ k : Nat, k = (i + j) / 2 := ⟨_, rfl⟩
      have ek : ((i : Int) + j) / 2 = (k : Int) := by omega
      have hki : i ≤ k := by omega
      have hkj : k < j := by omega
      have hal := HA.out
      have hbl := HB.out
      have hml := HM.out
      obtain ⟨Y, hY⟩ : ∃ Y, Y = v.getD (k - m) 0 := ⟨_, rfl⟩
      have hkv : k - m < v.length := by omega
      obtain ⟨cA, fA⟩ := HW.out.at_ (A := p) (x := x) (i := o + a) hal
      have hW2 : Row w0 wr g cap ((p ++ [x]) ++ (v ++ q)) := by simpa using HW.out
      obtain ⟨cB, fB⟩ := hW2.mid_ hkv (i := o + k) (by rw [List.length_append, List.length_singleton]; omega)
      rw [← hY] at cB
      have han : a < n := by omega
      have hkn : k < n := by omega
      have HK := Aside0.mk (And.intro hk hY)
      clear hk hY hal hbl hml hW2 hkv
      go_wp2
      refine wp_region_still_tail 9 (by kernel_rfl) (by kernel_rfl) ?_
      simp only [List.take_succ_cons, List.take_zero, List.drop_succ_cons, List.drop_zero]
      repeat still_step
      refine wpStill_nil ?_
      change wpList _ _ _ _ _ wr.drew
      have HW3 := Aside0.mk HW.out.drew
      clear cA cB fA fB HW
      generalize wr.drew = w2 at HW3 ⊢
      go_wp2_with (go_at_call 88; refine (cmp_any _ _ _).mono ?_; rintro e w3 ⟨rfl, hb3⟩; replace HW3 := Aside0.mk (HW3.out.below hb3); clear hb3)
      · have hlt2 : cmp3 (Sob.cls Y) (Sob.cls x) < 0 := by omega
        have hyx : Sob.cls Y < Sob.cls x := by rwa [cmp3_lt] at hlt2
        go_roundw
        case rel =>
          refine ⟨k + 1, j, by go_num, rfl, by omega, by omega, hjb, ⟨⟨fun y hy => ?_, HS.out.2⟩⟩, HW3⟩
          obtain ⟨t, ht1, ht2, rfl⟩ := Sob.mem_take_get hy
          have := Sob.ord_get hv (i := t) (j := k - m) (by omega) (by have := HB.out; have := HM.out; omega)
          rw [← HK.out.2] at this
          omega
        case measure => simp [intOf]; omega
      · have hge : ¬ cmp3 (Sob.cls Y) (Sob.cls x) < 0 := by omega
        have hxy : Sob.cls x ≤ Sob.cls Y := by rw [cmp3_lt] at hge; omega
        go_roundw
        case rel =>
          refine ⟨i, k, rfl, rfl, hmi, by omega, by omega, ⟨⟨HS.out.1, fun y hy => ?_⟩⟩, HW3⟩
          obtain ⟨t, ht1, ht2, rfl⟩ := Sob.mem_drop_get hy
          have := Sob.ord_get hv (i := k - m) (j := t) ht1 ht2
          rw [← HK.out.2] at this
          omega
        case measure => simp [intOf]; omega
    · obtain rfl : i = j := by omega
      have hbl := HB.out
      have hml := HM.out
      obtain ⟨v1, hv1⟩ : ∃ v1, v1 = v.take (i - m) := ⟨_, rfl⟩
      obtain ⟨v2, hv2⟩ : ∃ v2, v2 = v.drop (i - m) := ⟨_, rfl⟩
      have hvv : v = v1 ++ v2 := by rw [hv1, hv2, List.take_append_drop]
      have hl1 : v1.length = i - m := by rw [hv1, List.length_take]; omega
      have hs1 := HS.out.1
      have hs2 := HS.out.2
      rw [← hv1] at hs1
      rw [← hv2] at hs2
      have HF := Aside0.mk (Sob.merge_left hs1 hs2 (hvv ▸ hv))
      have hr := HW.out
      rw [hvv] at hr
      have HR := Aside0.mk hr
      have HV := Aside0.mk hvv
      have HL := Aside0.mk hl1
      have w5 : IntKind.i64.wrap ((i : Int) - 1) = ((i - 1 : Nat) : Int) := wrap_nat _ _ (by omega) (by omega)
      have hai : a ≤ i - 1 := by omega
      have hin : i ≤ n := by omega
      clear hs1 hs2 hr hvv hl1 HW HS hbl hml hv1 hv2
      go_wp2
      go_loopw [13] (fun vk wr2 => ∃ k : Nat, vk = .int .i64 k ∧ a ≤ k ∧ k ≤ i - 1 ∧ Aside0 (Row w0 wr2 g cap (p ++ (v1.take (k - a) ++ x :: (v1.drop (k - a) ++ (v2 ++ q))))))
        (fun vk _ => i - (intOf vk).toNat)
      case atStart => exact ⟨a, rfl, Nat.le_refl _, hai, by simpa using HR⟩
      case round =>
        obtain ⟨k, rfl, hak, hki, HW⟩ := hrel
        by_cases hlt : k < i - 1
        · have hl1 := HL.out
          have hml := HM.out
          have hal := HA.out
          obtain ⟨t, ht⟩ : ∃ t, t = k - a := ⟨_, rfl⟩
          have htl : t < v1.length := by omega
          obtain ⟨Z, hZ⟩ : ∃ Z, Z = v1[t] := ⟨_, rfl⟩
          have ed : v1.drop t = Z :: v1.drop (t + 1) := by rw [List.drop_eq_getElem_cons htl, hZ]
          have et : v1.take (t + 1) = v1.take t ++ [Z] := by rw [List.take_succ_eq_append_getElem htl, hZ]
          have el : (v1.take t).length = t := by rw [List.length_take]; omega
          have hW2 : Row w0 wr g cap ((p ++ v1.take t) ++ x :: ([] ++ Z :: (v1.drop (t + 1) ++ (v2 ++ q)))) := by
            have := HW.out
            rw [← ht, ed] at this
            simpa using this
          have la : (p ++ v1.take t).length = o + k := by rw [List.length_append, el]; omega
          have lb : (p ++ v1.take t).length + 1 + ([] : List Int).length = o + (k + 1) := by rw [la, List.length_nil]; omega
          obtain ⟨cA, fA⟩ := hW2.at_ la
          obtain ⟨cB, fB⟩ := hW2.at2_ lb
          obtain ⟨cC, fC⟩ := (hW2.set1 la Z).at2_ lb
          have hkn : k + 1 < n := by omega
          have HW2 := Aside0.mk hW2
          have LA := Aside0.mk la
          have LB := Aside0.mk lb
          have HT := Aside0.mk (And.intro ht et)
          clear hW2 la lb ht et el ed hZ HW hl1 hml hal htl
          go_wp2
          go_region
          all_goals go_wp2
          go_roundw
          case rel =>
            refine ⟨k + 1, by go_num, by omega, by omega, ⟨?_⟩⟩
            have := ((HW2.out.set1 LA.out Z).set2 LB.out x).drew
            have h1 := HT.out.1
            have h2 := HT.out.2
            rw [show k + 1 - a = t + 1 by omega, h2]
            simpa using this
          case measure => simp [intOf]; omega
        · have hk2 : k = i - 1 := by omega
          have e := HW.out
          have hl1 := HL.out
          have hml := HM.out
          rw [List.take_of_length_le (by omega), List.drop_of_length_le (by omega), List.nil_append] at e
          have e2 : p ++ (v1 ++ x :: (v2 ++ q)) = p ++ ((v1 ++ x :: v2) ++ q) := by simp
          rw [e2, HF.out, ← HV.out] at e
          have HE := Aside0.mk e
          clear e e2 HW hl1 hml
          go_wp2
          refine bodyPost_ret (results_none rfl _ _ _) rfl ?_
          exact ⟨rfl, HE.out⟩

end Go.Proofs.Ytjolmhokeceljaa.Own
