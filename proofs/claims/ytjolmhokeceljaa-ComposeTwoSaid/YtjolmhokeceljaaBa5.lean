-- Written by a program of this session out of the translation (a printer). Lean checks it.
import Derived.Test.YtjolmhokeceljaaBa0
namespace Go.Proofs.Ytjolmhokeceljaa.Ba
open Go.RowKit Go.Proofs.Ytjolmhokeceljaa.Own Go.Proofs.YtjolmhokeceljaaW.PrintWords Go.Proofs.YtjolmhokeceljaaW.PrintLast Go.Proofs.YtjolmhokeceljaaW.PrintMore
attribute [local go_sem] max2_int min2_int max_two min_two max_three min_three max_four min_four   -- for this text's walks alone
set_option linter.unusedVariables false
set_option linter.unusedSimpArgs false

/-! ### ranges_Flat: function 79 -/
def ranges_Flat.l0 : Nat → Int → List (S49) → Int → Int → Option (Int)
  | 0, _, _, _, _ => none
  | k + 1, x1, x7, x8, x9 => if x9 < x8 then (if 0 ≤ x9 then (if x9 < (x7.length : Int) then (if ((rd_T49 x7 x9).f0) ≤ x1 then (if x1 ≤ ((rd_T49 x7 x9).f1) then (some ((rd_T49 x7 x9).f2)) else (ranges_Flat.l0 k x1 x7 x8 (wrap64 (x9 + 1)))) else (ranges_Flat.l0 k x1 x7 x8 (wrap64 (x9 + 1)))) else (none)) else (none)) else (some 0)
def ranges_Flat.f (k : Nat) (l0 : List (S49)) (a1 : Int) : Option (Int) := ranges_Flat.l0 k a1 l0 (l0.length : Int) 0
theorem ranges_Flat.mono_l : ∀ k, (∀ y0 y1 y2 y3, LeO (ranges_Flat.l0 k y0 y1 y2 y3) (ranges_Flat.l0 (k + 1) y0 y1 y2 y3))
  | 0 => fun _ _ _ _ r h => by simp [ranges_Flat.l0] at h
  | k + 1 => by
    have ih0 := ranges_Flat.mono_l k
    · intro y0 y1 y2 y3
      unfold ranges_Flat.l0
      repeat' first
      | (with_reducible exact ih0 _ _ _ _)
      | (with_reducible exact LeO.refl _)
      | (with_reducible exact LeO.none _)
      | (with_reducible refine LeO.ite ?_ ?_)
      | (with_reducible refine LeO.bind ?_ (fun _ => ?_))
      | exact ih0 _ _ _ _
      | exact LeO.none _
      | refine LeO.ite ?_ ?_
      | refine LeO.bind ?_ (fun _ => ?_)
theorem ranges_Flat.mono : ∀ a0 a1 k, LeO (ranges_Flat.f k a0 a1) (ranges_Flat.f (k + 1) a0 a1) := by
  intro a0 a1 k
  have ih0 := ranges_Flat.mono_l k
  unfold ranges_Flat.f
  repeat' first
      | (with_reducible exact ih0 _ _ _ _)
      | (with_reducible exact LeO.refl _)
      | (with_reducible exact LeO.none _)
      | (with_reducible refine LeO.ite ?_ ?_)
      | (with_reducible refine LeO.bind ?_ (fun _ => ?_))
      | exact ih0 _ _ _ _
      | exact LeO.none _
      | refine LeO.ite ?_ ?_
      | refine LeO.bind ?_ (fun _ => ?_)
set_option maxHeartbeats 8000000 in
set_option maxRecDepth 100000 in
theorem ranges_Flat.calls (k : Nat) (A0 : Option Addr) (c0 : Nat) (l0 : List (S49)) (a1 : Int) (r : Int) (w : World) (hr0 : Kd.C k49 w A0 l0.length l0) (hc0 : l0.length ≤ c0) (h : ranges_Flat.f k l0 a1 = some r) :
    Calls Try.prog 79 #[.slice A0 l0.length c0, .int .i64 a1] w fun e w' => e = .returned (.int .i64 r) ∧ Below w.heap.size w w' := by
  have hu49 := Try.underlying49
  have HR0 := Aside0.mk hr0
  have HC0 := Aside0.mk hc0
  clear hr0 hc0
  have HB := Aside0.mk (Below.refl w.heap.size w)
  have H : (ranges_Flat.l0 k a1 l0 (l0.length : Int) 0) = some r := h
  clear h
  have H' := Aside0.mk H
  clear H
  go_enter Try.func79, Try.ntmps79
  go_wp2
  go_loopg [9] k (fun kq v9 w' => ∃ (x9_1 : Int), v9 = .int .i64 x9_1 ∧ Aside0 (ranges_Flat.l0 kq a1 l0 (l0.length : Int) x9_1 = some r) ∧ Aside0 (kq ≤ k) ∧ Aside0 (Below w.heap.size w w'))
  case atStart => exact ⟨(0), (by first | rfl | (simp; done) | (simp [*]; done)), H', ⟨Nat.le_refl _⟩, ⟨by repeat (first | (with_reducible first | exact HB.out | apply below_alloc | apply pw_below_drewN | apply below_drew1) | exact HB.out)⟩⟩
  case round =>
    clear H'
    try clear p2
    obtain ⟨x9_1, rfl, HA, HK1, HB⟩ := hrel
    cases gk with
    | zero => exact absurd HA.out (by simp [ranges_Flat.l0])
    | succ k1 =>
      have H := HA.out
      clear HA
      simp only [ranges_Flat.l0] at H
      by_cases c3 : x9_1 < (l0.length : Int)
      · rw [if_pos c3] at H
        have c3b0 : decide (x9_1 < (l0.length : Int)) = true := decide_eq_true c3
        clear c3
        by_cases c4 : 0 ≤ x9_1
        · rw [if_pos c4] at H
          have c4b0 : decide (0 ≤ x9_1) = true := decide_eq_true c4
          clear c4
          by_cases c5 : x9_1 < (l0.length : Int)
          · rw [if_pos c5] at H
            have c5b0 : decide (x9_1 < (l0.length : Int)) = true := decide_eq_true c5
            clear c5
            by_cases c6 : ((rd_T49 l0 x9_1).f0) ≤ a1
            · rw [if_pos c6] at H
              have c6b0 : decide (((rd_T49 l0 x9_1).f0) ≤ a1) = true := decide_eq_true c6
              clear c6
              by_cases c7 : a1 ≤ ((rd_T49 l0 x9_1).f1)
              · rw [if_pos c7] at H
                have c7b0 : decide (a1 ≤ ((rd_T49 l0 x9_1).f1)) = true := decide_eq_true c7
                clear c7
                obtain rfl := Option.some.inj H
                have p208 : 0 ≤ (x9_1 : Int) := of_decide_eq_true (by first | (with_reducible assumption) | assumption)
                have q208 : x9_1 < (l0.length : Int) := of_decide_eq_true (by first | (with_reducible assumption) | assumption)
                obtain ⟨ad208, e208, hx208_0, hx208_1, hx208_2⟩ := at_T49 HR0.out x9_1 p208 q208
                cases e208
                replace hx208_0 := (HB.out.cell (World.block_lt_of_cell? w _ hx208_0)).trans hx208_0
                replace hx208_1 := (HB.out.cell (World.block_lt_of_cell? w _ hx208_1)).trans hx208_1
                replace hx208_2 := (HB.out.cell (World.block_lt_of_cell? w _ hx208_2)).trans hx208_2
                replace p208 := eq_true p208
                replace q208 := eq_true q208
                go_wp2_with (first | ((with_reducible refine gate_dst (N := 6) rfl ?_); refine box_event ?hg (N := 6) ?hd (cs := #[.int .i64 0, .int .i64 0, .int .i64 0]) (t := 49) ?hr ?_; (case hd => rfl); (case hg => rfl); (case hr => first | (go_simp; done) | (go_simp; rfl)); intro gb209 hg w8 hbox hb; have n0_ := Aside0.mk (below_step (by repeat (first | (with_reducible first | exact HB.out | apply below_alloc | apply pw_below_drewN | apply below_drew1) | exact HB.out)) hb); have n1_ := Aside0.mk (hbox); have n2_ := Aside0.mk ((by rw [hg]; exact (below_size (by repeat (first | (with_reducible first | exact HB.out | apply below_alloc | apply pw_below_drewN | apply below_drew1) | exact HB.out))) : w.heap.size ≤ gb209)); have n3_ := Aside0.mk ((by rw [hg]; exact (below_size (by repeat (first | (with_reducible first | exact HB.out | apply below_alloc | apply pw_below_drewN | apply below_drew1) | exact HB.out))) : w.heap.size ≤ gb209)); clear HB; have HB := n0_; have BK209 := n1_; have GW209 := n2_; have GE209 := n3_; clear n0_ n1_ n2_ n3_; clear hb hbox hg; have hcz9_0 : w8.cell? ⟨gb209, 0, none⟩ = some (.int .i64 0) := (blk_cell BK209.out 0).trans rfl; have hcz9_1 : w8.cell? ⟨gb209, 1, none⟩ = some (.int .i64 0) := (blk_cell BK209.out 1).trans rfl; have hcz9_2 : w8.cell? ⟨gb209, 2, none⟩ = some (.int .i64 0) := (blk_cell BK209.out 2).trans rfl; have hfz9_0 := blk_frozen BK209.out 0; have hfz9_1 := blk_frozen BK209.out 1; have hfz9_2 := blk_frozen BK209.out 2))
                go_ret
                exact ⟨by first | rfl | (simp [errW_none, errW_some] <;> rfl) | (simp [*, errW_none, errW_some] <;> rfl), by repeat (first | (with_reducible first | exact HB.out | apply below_alloc | apply pw_below_drewN | apply below_drew1 | refine below_set ?_ GE209.out) | exact HB.out)⟩
              · rw [if_neg c7] at H
                have c7b0 : decide (a1 ≤ ((rd_T49 l0 x9_1).f1)) = false := decide_eq_false c7
                clear c7
                have H' := Aside0.mk H
                clear H
                have p208 : 0 ≤ (x9_1 : Int) := of_decide_eq_true (by first | (with_reducible assumption) | assumption)
                have q208 : x9_1 < (l0.length : Int) := of_decide_eq_true (by first | (with_reducible assumption) | assumption)
                obtain ⟨ad208, e208, hx208_0, hx208_1, hx208_2⟩ := at_T49 HR0.out x9_1 p208 q208
                cases e208
                replace hx208_0 := (HB.out.cell (World.block_lt_of_cell? w _ hx208_0)).trans hx208_0
                replace hx208_1 := (HB.out.cell (World.block_lt_of_cell? w _ hx208_1)).trans hx208_1
                replace hx208_2 := (HB.out.cell (World.block_lt_of_cell? w _ hx208_2)).trans hx208_2
                replace p208 := eq_true p208
                replace q208 := eq_true q208
                go_wp2_with (first | ((with_reducible refine gate_dst (N := 6) rfl ?_); refine box_event ?hg (N := 6) ?hd (cs := #[.int .i64 0, .int .i64 0, .int .i64 0]) (t := 49) ?hr ?_; (case hd => rfl); (case hg => rfl); (case hr => first | (go_simp; done) | (go_simp; rfl)); intro gb209 hg w10 hbox hb; have n0_ := Aside0.mk (below_step (by repeat (first | (with_reducible first | exact HB.out | apply below_alloc | apply pw_below_drewN | apply below_drew1) | exact HB.out)) hb); have n1_ := Aside0.mk (hbox); have n2_ := Aside0.mk ((by rw [hg]; exact (below_size (by repeat (first | (with_reducible first | exact HB.out | apply below_alloc | apply pw_below_drewN | apply below_drew1) | exact HB.out))) : w.heap.size ≤ gb209)); have n3_ := Aside0.mk ((by rw [hg]; exact (below_size (by repeat (first | (with_reducible first | exact HB.out | apply below_alloc | apply pw_below_drewN | apply below_drew1) | exact HB.out))) : w.heap.size ≤ gb209)); clear HB; have HB := n0_; have BK209 := n1_; have GW209 := n2_; have GE209 := n3_; clear n0_ n1_ n2_ n3_; clear hb hbox hg; have hcz11_0 : w10.cell? ⟨gb209, 0, none⟩ = some (.int .i64 0) := (blk_cell BK209.out 0).trans rfl; have hcz11_1 : w10.cell? ⟨gb209, 1, none⟩ = some (.int .i64 0) := (blk_cell BK209.out 1).trans rfl; have hcz11_2 : w10.cell? ⟨gb209, 2, none⟩ = some (.int .i64 0) := (blk_cell BK209.out 2).trans rfl; have hfz11_0 := blk_frozen BK209.out 0; have hfz11_1 := blk_frozen BK209.out 1; have hfz11_2 := blk_frozen BK209.out 2))
                go_roundg k1
                case measure => have := HK1.out; omega
                case rel => exact ⟨(wrap64 (x9_1 + 1)), (by first | rfl | (simp; done) | (simp [*]; done)), H', ⟨by have := HK1.out; omega⟩, ⟨by repeat (first | (with_reducible first | exact HB.out | apply below_alloc | apply pw_below_drewN | apply below_drew1 | refine below_set ?_ GE209.out) | exact HB.out)⟩⟩
            · rw [if_neg c6] at H
              have c6b0 : decide (((rd_T49 l0 x9_1).f0) ≤ a1) = false := decide_eq_false c6
              clear c6
              have H' := Aside0.mk H
              clear H
              have p208 : 0 ≤ (x9_1 : Int) := of_decide_eq_true (by first | (with_reducible assumption) | assumption)
              have q208 : x9_1 < (l0.length : Int) := of_decide_eq_true (by first | (with_reducible assumption) | assumption)
              obtain ⟨ad208, e208, hx208_0, hx208_1, hx208_2⟩ := at_T49 HR0.out x9_1 p208 q208
              cases e208
              replace hx208_0 := (HB.out.cell (World.block_lt_of_cell? w _ hx208_0)).trans hx208_0
              replace hx208_1 := (HB.out.cell (World.block_lt_of_cell? w _ hx208_1)).trans hx208_1
              replace hx208_2 := (HB.out.cell (World.block_lt_of_cell? w _ hx208_2)).trans hx208_2
              replace p208 := eq_true p208
              replace q208 := eq_true q208
              go_wp2_with (first | ((with_reducible refine gate_dst (N := 6) rfl ?_); refine box_event ?hg (N := 6) ?hd (cs := #[.int .i64 0, .int .i64 0, .int .i64 0]) (t := 49) ?hr ?_; (case hd => rfl); (case hg => rfl); (case hr => first | (go_simp; done) | (go_simp; rfl)); intro gb209 hg w12 hbox hb; have n0_ := Aside0.mk (below_step (by repeat (first | (with_reducible first | exact HB.out | apply below_alloc | apply pw_below_drewN | apply below_drew1) | exact HB.out)) hb); have n1_ := Aside0.mk (hbox); have n2_ := Aside0.mk ((by rw [hg]; exact (below_size (by repeat (first | (with_reducible first | exact HB.out | apply below_alloc | apply pw_below_drewN | apply below_drew1) | exact HB.out))) : w.heap.size ≤ gb209)); have n3_ := Aside0.mk ((by rw [hg]; exact (below_size (by repeat (first | (with_reducible first | exact HB.out | apply below_alloc | apply pw_below_drewN | apply below_drew1) | exact HB.out))) : w.heap.size ≤ gb209)); clear HB; have HB := n0_; have BK209 := n1_; have GW209 := n2_; have GE209 := n3_; clear n0_ n1_ n2_ n3_; clear hb hbox hg; have hcz13_0 : w12.cell? ⟨gb209, 0, none⟩ = some (.int .i64 0) := (blk_cell BK209.out 0).trans rfl; have hcz13_1 : w12.cell? ⟨gb209, 1, none⟩ = some (.int .i64 0) := (blk_cell BK209.out 1).trans rfl; have hcz13_2 : w12.cell? ⟨gb209, 2, none⟩ = some (.int .i64 0) := (blk_cell BK209.out 2).trans rfl; have hfz13_0 := blk_frozen BK209.out 0; have hfz13_1 := blk_frozen BK209.out 1; have hfz13_2 := blk_frozen BK209.out 2))
              go_roundg k1
              case measure => have := HK1.out; omega
              case rel => exact ⟨(wrap64 (x9_1 + 1)), (by first | rfl | (simp; done) | (simp [*]; done)), H', ⟨by have := HK1.out; omega⟩, ⟨by repeat (first | (with_reducible first | exact HB.out | apply below_alloc | apply pw_below_drewN | apply below_drew1 | refine below_set ?_ GE209.out) | exact HB.out)⟩⟩
          · rw [if_neg c5] at H
            exact absurd H (by simp)
        · rw [if_neg c4] at H
          exact absurd H (by simp)
      · rw [if_neg c3] at H
        have c3b0 : decide (x9_1 < (l0.length : Int)) = false := decide_eq_false c3
        clear c3
        obtain rfl := Option.some.inj H
        go_wp2
        go_ret
        exact ⟨by first | rfl | (simp [errW_none, errW_some] <;> rfl) | (simp [*, errW_none, errW_some] <;> rfl), by repeat (first | (with_reducible first | exact HB.out | apply below_alloc | apply pw_below_drewN | apply below_drew1) | exact HB.out)⟩

/-! ### api_Classes: function 80 -/
def api_Classes.f  : Option ((List (S49))) := some (([(⟨768, 788, 230⟩ : S49), (⟨789, 789, 232⟩ : S49), (⟨790, 793, 220⟩ : S49), (⟨795, 795, 216⟩ : S49), (⟨796, 800, 220⟩ : S49), (⟨801, 802, 202⟩ : S49), (⟨803, 806, 220⟩ : S49), (⟨807, 808, 202⟩ : S49), (⟨809, 819, 220⟩ : S49), (⟨820, 824, 1⟩ : S49), (⟨825, 828, 220⟩ : S49), (⟨829, 836, 230⟩ : S49), (⟨837, 837, 240⟩ : S49), (⟨838, 838, 230⟩ : S49), (⟨839, 841, 220⟩ : S49), (⟨1456, 1456, 10⟩ : S49), (⟨1457, 1457, 11⟩ : S49), (⟨1460, 1460, 14⟩ : S49), (⟨1468, 1468, 21⟩ : S49), (⟨1473, 1473, 24⟩ : S49), (⟨1474, 1474, 25⟩ : S49), (⟨2364, 2364, 7⟩ : S49), (⟨2381, 2381, 9⟩ : S49), (⟨8400, 8401, 230⟩ : S49), (⟨12441, 12442, 8⟩ : S49), (⟨65056, 65059, 230⟩ : S49)] : List (S49)))
set_option maxHeartbeats 8000000 in
set_option maxRecDepth 100000 in
theorem api_Classes.calls  (r : List (S49)) (w : World) (h : api_Classes.f  = some r) :
    Calls Try.prog 80 #[] w fun e w' => ∃ v0_ : Value, e = .returned (v0_) ∧ Kd.R k49 49 w' w.heap.size (fun _ => True) v0_ r ∧ Below w.heap.size w w' := by
  have hu49 := Try.underlying49
  have HB := Aside0.mk (Below.refl w.heap.size w)
  have H : (some (([(⟨768, 788, 230⟩ : S49), (⟨789, 789, 232⟩ : S49), (⟨790, 793, 220⟩ : S49), (⟨795, 795, 216⟩ : S49), (⟨796, 800, 220⟩ : S49), (⟨801, 802, 202⟩ : S49), (⟨803, 806, 220⟩ : S49), (⟨807, 808, 202⟩ : S49), (⟨809, 819, 220⟩ : S49), (⟨820, 824, 1⟩ : S49), (⟨825, 828, 220⟩ : S49), (⟨829, 836, 230⟩ : S49), (⟨837, 837, 240⟩ : S49), (⟨838, 838, 230⟩ : S49), (⟨839, 841, 220⟩ : S49), (⟨1456, 1456, 10⟩ : S49), (⟨1457, 1457, 11⟩ : S49), (⟨1460, 1460, 14⟩ : S49), (⟨1468, 1468, 21⟩ : S49), (⟨1473, 1473, 24⟩ : S49), (⟨1474, 1474, 25⟩ : S49), (⟨2364, 2364, 7⟩ : S49), (⟨2381, 2381, 9⟩ : S49), (⟨8400, 8401, 230⟩ : S49), (⟨12441, 12442, 8⟩ : S49), (⟨65056, 65059, 230⟩ : S49)] : List (S49)))) = some r := h
  clear h
  obtain ⟨y210, hy210⟩ : ∃ y_ : List (S49), y_ = (([(⟨768, 788, 230⟩ : S49), (⟨789, 789, 232⟩ : S49), (⟨790, 793, 220⟩ : S49), (⟨795, 795, 216⟩ : S49), (⟨796, 800, 220⟩ : S49), (⟨801, 802, 202⟩ : S49), (⟨803, 806, 220⟩ : S49), (⟨807, 808, 202⟩ : S49), (⟨809, 819, 220⟩ : S49), (⟨820, 824, 1⟩ : S49), (⟨825, 828, 220⟩ : S49), (⟨829, 836, 230⟩ : S49), (⟨837, 837, 240⟩ : S49), (⟨838, 838, 230⟩ : S49), (⟨839, 841, 220⟩ : S49), (⟨1456, 1456, 10⟩ : S49), (⟨1457, 1457, 11⟩ : S49), (⟨1460, 1460, 14⟩ : S49), (⟨1468, 1468, 21⟩ : S49), (⟨1473, 1473, 24⟩ : S49), (⟨1474, 1474, 25⟩ : S49), (⟨2364, 2364, 7⟩ : S49), (⟨2381, 2381, 9⟩ : S49), (⟨8400, 8401, 230⟩ : S49), (⟨12441, 12442, 8⟩ : S49), (⟨65056, 65059, 230⟩ : S49)] : List (S49))) := ⟨_, rfl⟩
  replace H : (some y210) = some r := by first | (rw [hy210]; with_reducible exact H) | (have H2_ := (Option.bind_some _ _).symm.trans H; rw [hy210]; with_reducible exact H2_) | (have H2_ := (Option.bind_some _ _).symm.trans H; with_reducible exact H2_) | with_reducible exact H | (rw [hy210]; exact H) | exact H
  have Ny210 := Aside0.mk hy210
  clear hy210
  obtain rfl := Option.some.inj H
  go_enter Try.func80, Try.ntmps80
  go_wp2_with (first | ((with_reducible refine gate_dst (N := 27) rfl ?_); refine Kd.R_lit k49 _ 49 ?hg (N := 27) ?hd (xs := ([(⟨768, 788, 230⟩ : S49), (⟨789, 789, 232⟩ : S49), (⟨790, 793, 220⟩ : S49), (⟨795, 795, 216⟩ : S49), (⟨796, 800, 220⟩ : S49), (⟨801, 802, 202⟩ : S49), (⟨803, 806, 220⟩ : S49), (⟨807, 808, 202⟩ : S49), (⟨809, 819, 220⟩ : S49), (⟨820, 824, 1⟩ : S49), (⟨825, 828, 220⟩ : S49), (⟨829, 836, 230⟩ : S49), (⟨837, 837, 240⟩ : S49), (⟨838, 838, 230⟩ : S49), (⟨839, 841, 220⟩ : S49), (⟨1456, 1456, 10⟩ : S49), (⟨1457, 1457, 11⟩ : S49), (⟨1460, 1460, 14⟩ : S49), (⟨1468, 1468, 21⟩ : S49), (⟨1473, 1473, 24⟩ : S49), (⟨1474, 1474, 25⟩ : S49), (⟨2364, 2364, 7⟩ : S49), (⟨2381, 2381, 9⟩ : S49), (⟨8400, 8401, 230⟩ : S49), (⟨12441, 12442, 8⟩ : S49), (⟨65056, 65059, 230⟩ : S49)] : List (S49))) (inner := [.int .i64 768, .int .i64 788, .int .i64 230, .int .i64 789, .int .i64 789, .int .i64 232, .int .i64 790, .int .i64 793, .int .i64 220, .int .i64 795, .int .i64 795, .int .i64 216, .int .i64 796, .int .i64 800, .int .i64 220, .int .i64 801, .int .i64 802, .int .i64 202, .int .i64 803, .int .i64 806, .int .i64 220, .int .i64 807, .int .i64 808, .int .i64 202, .int .i64 809, .int .i64 819, .int .i64 220, .int .i64 820, .int .i64 824, .int .i64 1, .int .i64 825, .int .i64 828, .int .i64 220, .int .i64 829, .int .i64 836, .int .i64 230, .int .i64 837, .int .i64 837, .int .i64 240, .int .i64 838, .int .i64 838, .int .i64 230, .int .i64 839, .int .i64 841, .int .i64 220, .int .i64 1456, .int .i64 1456, .int .i64 10, .int .i64 1457, .int .i64 1457, .int .i64 11, .int .i64 1460, .int .i64 1460, .int .i64 14, .int .i64 1468, .int .i64 1468, .int .i64 21, .int .i64 1473, .int .i64 1473, .int .i64 24, .int .i64 1474, .int .i64 1474, .int .i64 25, .int .i64 2364, .int .i64 2364, .int .i64 7, .int .i64 2381, .int .i64 2381, .int .i64 9, .int .i64 8400, .int .i64 8401, .int .i64 230, .int .i64 12441, .int .i64 12442, .int .i64 8, .int .i64 65056, .int .i64 65059, .int .i64 230]) (ok := fun _ => True) (okp := fun _ => True) ?hr ?hp (fun _ hk => hk) trivial (Below.refl _ _) (Nat.le_refl _) (by simp) ?_; (case hd => rfl); (case hg => rfl); (case hr => first | (go_simp; done) | (go_simp; rfl)); (case hp => exact (Reps.c3 (show Kd.M k49 _ _ _ (⟨768, 788, 230⟩ : S49) [.int .i64 768, .int .i64 788, .int .i64 230] from (k49_mkM _ _ _ (⟨768, 788, 230⟩ : S49) )) (Reps.c3 (show Kd.M k49 _ _ _ (⟨789, 789, 232⟩ : S49) [.int .i64 789, .int .i64 789, .int .i64 232] from (k49_mkM _ _ _ (⟨789, 789, 232⟩ : S49) )) (Reps.c3 (show Kd.M k49 _ _ _ (⟨790, 793, 220⟩ : S49) [.int .i64 790, .int .i64 793, .int .i64 220] from (k49_mkM _ _ _ (⟨790, 793, 220⟩ : S49) )) (Reps.c3 (show Kd.M k49 _ _ _ (⟨795, 795, 216⟩ : S49) [.int .i64 795, .int .i64 795, .int .i64 216] from (k49_mkM _ _ _ (⟨795, 795, 216⟩ : S49) )) (Reps.c3 (show Kd.M k49 _ _ _ (⟨796, 800, 220⟩ : S49) [.int .i64 796, .int .i64 800, .int .i64 220] from (k49_mkM _ _ _ (⟨796, 800, 220⟩ : S49) )) (Reps.c3 (show Kd.M k49 _ _ _ (⟨801, 802, 202⟩ : S49) [.int .i64 801, .int .i64 802, .int .i64 202] from (k49_mkM _ _ _ (⟨801, 802, 202⟩ : S49) )) (Reps.c3 (show Kd.M k49 _ _ _ (⟨803, 806, 220⟩ : S49) [.int .i64 803, .int .i64 806, .int .i64 220] from (k49_mkM _ _ _ (⟨803, 806, 220⟩ : S49) )) (Reps.c3 (show Kd.M k49 _ _ _ (⟨807, 808, 202⟩ : S49) [.int .i64 807, .int .i64 808, .int .i64 202] from (k49_mkM _ _ _ (⟨807, 808, 202⟩ : S49) )) (Reps.c3 (show Kd.M k49 _ _ _ (⟨809, 819, 220⟩ : S49) [.int .i64 809, .int .i64 819, .int .i64 220] from (k49_mkM _ _ _ (⟨809, 819, 220⟩ : S49) )) (Reps.c3 (show Kd.M k49 _ _ _ (⟨820, 824, 1⟩ : S49) [.int .i64 820, .int .i64 824, .int .i64 1] from (k49_mkM _ _ _ (⟨820, 824, 1⟩ : S49) )) (Reps.c3 (show Kd.M k49 _ _ _ (⟨825, 828, 220⟩ : S49) [.int .i64 825, .int .i64 828, .int .i64 220] from (k49_mkM _ _ _ (⟨825, 828, 220⟩ : S49) )) (Reps.c3 (show Kd.M k49 _ _ _ (⟨829, 836, 230⟩ : S49) [.int .i64 829, .int .i64 836, .int .i64 230] from (k49_mkM _ _ _ (⟨829, 836, 230⟩ : S49) )) (Reps.c3 (show Kd.M k49 _ _ _ (⟨837, 837, 240⟩ : S49) [.int .i64 837, .int .i64 837, .int .i64 240] from (k49_mkM _ _ _ (⟨837, 837, 240⟩ : S49) )) (Reps.c3 (show Kd.M k49 _ _ _ (⟨838, 838, 230⟩ : S49) [.int .i64 838, .int .i64 838, .int .i64 230] from (k49_mkM _ _ _ (⟨838, 838, 230⟩ : S49) )) (Reps.c3 (show Kd.M k49 _ _ _ (⟨839, 841, 220⟩ : S49) [.int .i64 839, .int .i64 841, .int .i64 220] from (k49_mkM _ _ _ (⟨839, 841, 220⟩ : S49) )) (Reps.c3 (show Kd.M k49 _ _ _ (⟨1456, 1456, 10⟩ : S49) [.int .i64 1456, .int .i64 1456, .int .i64 10] from (k49_mkM _ _ _ (⟨1456, 1456, 10⟩ : S49) )) (Reps.c3 (show Kd.M k49 _ _ _ (⟨1457, 1457, 11⟩ : S49) [.int .i64 1457, .int .i64 1457, .int .i64 11] from (k49_mkM _ _ _ (⟨1457, 1457, 11⟩ : S49) )) (Reps.c3 (show Kd.M k49 _ _ _ (⟨1460, 1460, 14⟩ : S49) [.int .i64 1460, .int .i64 1460, .int .i64 14] from (k49_mkM _ _ _ (⟨1460, 1460, 14⟩ : S49) )) (Reps.c3 (show Kd.M k49 _ _ _ (⟨1468, 1468, 21⟩ : S49) [.int .i64 1468, .int .i64 1468, .int .i64 21] from (k49_mkM _ _ _ (⟨1468, 1468, 21⟩ : S49) )) (Reps.c3 (show Kd.M k49 _ _ _ (⟨1473, 1473, 24⟩ : S49) [.int .i64 1473, .int .i64 1473, .int .i64 24] from (k49_mkM _ _ _ (⟨1473, 1473, 24⟩ : S49) )) (Reps.c3 (show Kd.M k49 _ _ _ (⟨1474, 1474, 25⟩ : S49) [.int .i64 1474, .int .i64 1474, .int .i64 25] from (k49_mkM _ _ _ (⟨1474, 1474, 25⟩ : S49) )) (Reps.c3 (show Kd.M k49 _ _ _ (⟨2364, 2364, 7⟩ : S49) [.int .i64 2364, .int .i64 2364, .int .i64 7] from (k49_mkM _ _ _ (⟨2364, 2364, 7⟩ : S49) )) (Reps.c3 (show Kd.M k49 _ _ _ (⟨2381, 2381, 9⟩ : S49) [.int .i64 2381, .int .i64 2381, .int .i64 9] from (k49_mkM _ _ _ (⟨2381, 2381, 9⟩ : S49) )) (Reps.c3 (show Kd.M k49 _ _ _ (⟨8400, 8401, 230⟩ : S49) [.int .i64 8400, .int .i64 8401, .int .i64 230] from (k49_mkM _ _ _ (⟨8400, 8401, 230⟩ : S49) )) (Reps.c3 (show Kd.M k49 _ _ _ (⟨12441, 12442, 8⟩ : S49) [.int .i64 12441, .int .i64 12442, .int .i64 8] from (k49_mkM _ _ _ (⟨12441, 12442, 8⟩ : S49) )) (Reps.c3 (show Kd.M k49 _ _ _ (⟨65056, 65059, 230⟩ : S49) [.int .i64 65056, .int .i64 65059, .int .i64 230] from (k49_mkM _ _ _ (⟨65056, 65059, 230⟩ : S49) )) (Reps.none _ _)))))))))))))))))))))))))))); intro v211 w1 ho2 hb hg_ hnew_; clear hg_ hnew_; (first | rw [← Ny210.out] at ho2 | (simp only [Int.reduceToNat] at ho2; rw [← Ny210.out] at ho2)); have n0_ := Aside0.mk (Kd.R_lower ho2 (below_size (by repeat (first | (with_reducible first | exact HB.out | apply below_alloc | apply pw_below_drewN | apply below_drew1) | exact HB.out)))); have n1_ := Aside0.mk (below_step (by repeat (first | (with_reducible first | exact HB.out | apply below_alloc | apply pw_below_drewN | apply below_drew1) | exact HB.out)) hb); clear HB; have HO212 := n0_; have HB := n1_; clear n0_ n1_; clear hb ho2))
  go_ret
  exact ⟨_, by first | rfl | (simp [errW_none, errW_some] <;> rfl) | (simp [*, errW_none, errW_some] <;> rfl), by (with_reducible repeat (first | apply Kd.R_alloc | apply Kd.R_drewN | apply Kd.R_drew)); exact HO212.out, by repeat (first | (with_reducible first | exact HB.out | apply below_alloc | apply pw_below_drewN | apply below_drew1) | exact HB.out)⟩

end Go.Proofs.Ytjolmhokeceljaa.Ba
