-- Written by a program of this session out of the translation (a printer). Lean checks it.
import Derived.Test.YtjolmhokeceljaaBa0
import Derived.Test.YtjolmhokeceljaaBa5
import Derived.Test.YtjolmhokeceljaaBa7
namespace Go.Proofs.Ytjolmhokeceljaa.Ba
open Go.RowKit Go.Proofs.Ytjolmhokeceljaa.Own Go.Proofs.YtjolmhokeceljaaW.PrintWords Go.Proofs.YtjolmhokeceljaaW.PrintLast Go.Proofs.YtjolmhokeceljaaW.PrintMore
attribute [local go_sem] max2_int min2_int max_two min_two max_three min_three max_four min_four   -- for this text's walks alone
set_option linter.unusedVariables false
set_option linter.unusedSimpArgs false

/-! ### ucd_Class: function 37 -/
def ucd_Class.f (k : Nat) (a0 : Int) : Option (Int) := (ucd_Scalar.f a0).bind fun t237 => (if t237 = true then ((api_Classes.f).bind fun t238 => ((ranges_Flat.f k t238 a0).bind fun t241 => (some t241))) else (some 0))
theorem ucd_Class.mono : ∀ a0 k, LeO (ucd_Class.f k a0) (ucd_Class.f (k + 1) a0) := by
  intro a0 k
  unfold ucd_Class.f
  repeat' first
      | (with_reducible exact ranges_Flat.mono _ _ _)
      | (with_reducible exact LeO.refl _)
      | (with_reducible exact LeO.none _)
      | (with_reducible refine LeO.ite ?_ ?_)
      | (with_reducible refine LeO.bind ?_ (fun _ => ?_))
      | exact ranges_Flat.mono _ _ _
      | exact LeO.none _
      | refine LeO.ite ?_ ?_
      | refine LeO.bind ?_ (fun _ => ?_)
set_option maxHeartbeats 8000000 in
set_option maxRecDepth 100000 in
theorem ucd_Class.calls (k : Nat) (a0 : Int) (r : Int) (w : World) (h : ucd_Class.f k a0 = some r) :
    Calls Try.prog 37 #[.int .i64 a0] w fun e w' => e = .returned (.int .i64 r) ∧ Below w.heap.size w w' := by
  have HB := Aside0.mk (Below.refl w.heap.size w)
  have H : ((ucd_Scalar.f a0).bind fun t237 => (if t237 = true then ((api_Classes.f).bind fun t238 => ((ranges_Flat.f k t238 a0).bind fun t241 => (some t241))) else (some 0))) = some r := h
  clear h
  replace H := Option.bind_eq_some_iff.mp H
  obtain ⟨t237, A20, H⟩ := H
  replace H : (if t237 = true then ((api_Classes.f).bind fun t238 => ((ranges_Flat.f k t238 a0).bind fun t241 => (some t241))) else (some 0)) = some r := H
  have A2 := Aside0.mk A20
  clear A20
  by_cases c3 : t237 = true
  · subst c3
    have H1 : ((api_Classes.f).bind fun t238 => ((ranges_Flat.f k t238 a0).bind fun t241 => (some t241))) = some r := by rw [if_pos rfl] at H; exact H
    clear H
    have H := H1
    clear H1
    replace H := Option.bind_eq_some_iff.mp H
    obtain ⟨t238, A40, H⟩ := H
    replace H : ((ranges_Flat.f k t238 a0).bind fun t241 => (some t241)) = some r := H
    have A4 := Aside0.mk A40
    clear A40
    replace H := Option.bind_eq_some_iff.mp H
    obtain ⟨t241, A50, H⟩ := H
    replace H : (some t241) = some r := H
    have A5 := Aside0.mk A50
    clear A50
    obtain rfl := Option.some.inj H
    go_enter Try.func37, Try.ntmps37
    go_wp2_with (first | ((with_reducible refine gate_callee (f := 81) rfl ?_); refine goesL_ (some 4) rfl rfl Try.func81 (by kernel_rfl) rfl #[.int .i64 a0] rfl (by (try simp only [List.map_toArray, List.map_cons, List.map_nil]); first | done | rfl | (simp only [List.length_drop, List.length_take]; rfl)) ?_; (with_reducible refine (ucd_Scalar.calls a0 true _ A2.out).mono ?_); rintro e w' ⟨rfl, ⟨nd, rfl⟩⟩; refine ⟨_, rfl, ?_⟩) | ((with_reducible refine gate_callee (f := 80) rfl ?_); refine goesL_ (some 6) rfl rfl Try.func80 (by kernel_rfl) rfl #[] rfl (by (try simp only [List.map_toArray, List.map_cons, List.map_nil]); first | done | rfl | (simp only [List.length_drop, List.length_take]; rfl)) ?_; (with_reducible refine (api_Classes.calls  t238 _ A4.out).mono ?_); rintro e w6 ⟨v239, rfl, ho0, hb⟩; refine ⟨_, rfl, ?_⟩; have n0_ := Aside0.mk (Kd.R_lower ho0 (below_size (by repeat (first | (with_reducible first | exact HB.out | apply below_alloc | apply pw_below_drewN | apply below_drew1) | exact HB.out)))); have n1_ := Aside0.mk (below_step (by repeat (first | (with_reducible first | exact HB.out | apply below_alloc | apply pw_below_drewN | apply below_drew1) | exact HB.out)) hb); clear HB; have HO240 := n0_; have HB := n1_; clear n0_ n1_; (try clear hb); (try clear hb2); (try clear hk); (try clear hi); (try clear ho0); obtain ⟨Ao7, co7, eo7⟩ := Kd.R_slice HO240.out; subst eo7) | ((with_reducible refine gate_callee (f := 79) rfl ?_); refine goesL_ (some 8) rfl rfl Try.func79 (by kernel_rfl) rfl #[.slice Ao7 t238.length co7, .int .i64 a0] rfl (by (try simp only [List.map_toArray, List.map_cons, List.map_nil]); first | done | rfl | (simp only [List.length_drop, List.length_take]; rfl)) ?_; (with_reducible refine (ranges_Flat.calls k _ _ t238 a0 t241 _ ?side1 ?side2 A5.out).mono ?_); (case side1 => repeat (first | exact (Kd.R_reads' HO240.out).2.2 | (with_reducible refine Kd.C_alloc ?_ _) | (with_reducible refine Kd.C_drewN ?_ _) | (with_reducible refine Kd.C_drew ?_))); (case side2 => exact (Kd.R_reads' HO240.out).2.1); rintro e w8 ⟨rfl, hb⟩; refine ⟨_, rfl, ?_⟩; have n0_ := Aside0.mk (Kd.R_below (by (with_reducible repeat (first | apply Kd.R_alloc | apply Kd.R_drewN | apply Kd.R_drew)); exact HO240.out) hb); have n1_ := Aside0.mk (below_step (by repeat (first | (with_reducible first | exact HB.out | apply below_alloc | apply pw_below_drewN | apply below_drew1) | exact HB.out)) hb); clear HO240; clear HB; have HO240 := n0_; have HB := n1_; clear n0_ n1_; (try clear hb); (try clear hb2); (try clear hk); (try clear hi)))
    go_ret
    exact ⟨by first | rfl | (simp [errW_none, errW_some] <;> rfl) | (simp [*, errW_none, errW_some] <;> rfl), by repeat (first | (with_reducible first | exact HB.out | apply below_alloc | apply pw_below_drewN | apply below_drew1) | exact HB.out)⟩
  · replace c3 := Bool.eq_false_iff.mpr c3
    subst c3
    have H1 : (some 0) = some r := by rw [if_neg (show ¬ (false = true) by decide)] at H; exact H
    clear H
    have H := H1
    clear H1
    obtain rfl := Option.some.inj H
    go_enter Try.func37, Try.ntmps37
    go_wp2_with (first | ((with_reducible refine gate_callee (f := 81) rfl ?_); refine goesL_ (some 4) rfl rfl Try.func81 (by kernel_rfl) rfl #[.int .i64 a0] rfl (by (try simp only [List.map_toArray, List.map_cons, List.map_nil]); first | done | rfl | (simp only [List.length_drop, List.length_take]; rfl)) ?_; (with_reducible refine (ucd_Scalar.calls a0 false _ A2.out).mono ?_); rintro e w' ⟨rfl, ⟨nd, rfl⟩⟩; refine ⟨_, rfl, ?_⟩))
    go_ret
    exact ⟨by first | rfl | (simp [errW_none, errW_some] <;> rfl) | (simp [*, errW_none, errW_some] <;> rfl), by repeat (first | (with_reducible first | exact HB.out | apply below_alloc | apply pw_below_drewN | apply below_drew1) | exact HB.out)⟩

/-! ### api_Nothing: function 66 -/
def api_Nothing.f  : Option ((List (S49))) := some (([(⟨0, 8, 1⟩ : S49), (⟨14, 31, 1⟩ : S49), (⟨127, 132, 1⟩ : S49), (⟨134, 159, 1⟩ : S49), (⟨173, 173, 1⟩ : S49), (⟨847, 847, 1⟩ : S49), (⟨1757, 1757, 1⟩ : S49), (⟨1807, 1807, 1⟩ : S49), (⟨6150, 6150, 1⟩ : S49), (⟨6155, 6158, 1⟩ : S49), (⟨8203, 8207, 1⟩ : S49), (⟨8234, 8238, 1⟩ : S49), (⟨8288, 8291, 1⟩ : S49), (⟨8298, 8303, 1⟩ : S49), (⟨65024, 65039, 1⟩ : S49), (⟨65279, 65279, 1⟩ : S49), (⟨65529, 65532, 1⟩ : S49), (⟨119155, 119162, 1⟩ : S49), (⟨917505, 917505, 1⟩ : S49), (⟨917536, 917631, 1⟩ : S49)] : List (S49)))
set_option maxHeartbeats 8000000 in
set_option maxRecDepth 100000 in
theorem api_Nothing.calls  (r : List (S49)) (w : World) (h : api_Nothing.f  = some r) :
    Calls Try.prog 66 #[] w fun e w' => ∃ v0_ : Value, e = .returned (v0_) ∧ Kd.R k49 49 w' w.heap.size (fun _ => True) v0_ r ∧ Below w.heap.size w w' := by
  have hu49 := Try.underlying49
  have HB := Aside0.mk (Below.refl w.heap.size w)
  have H : (some (([(⟨0, 8, 1⟩ : S49), (⟨14, 31, 1⟩ : S49), (⟨127, 132, 1⟩ : S49), (⟨134, 159, 1⟩ : S49), (⟨173, 173, 1⟩ : S49), (⟨847, 847, 1⟩ : S49), (⟨1757, 1757, 1⟩ : S49), (⟨1807, 1807, 1⟩ : S49), (⟨6150, 6150, 1⟩ : S49), (⟨6155, 6158, 1⟩ : S49), (⟨8203, 8207, 1⟩ : S49), (⟨8234, 8238, 1⟩ : S49), (⟨8288, 8291, 1⟩ : S49), (⟨8298, 8303, 1⟩ : S49), (⟨65024, 65039, 1⟩ : S49), (⟨65279, 65279, 1⟩ : S49), (⟨65529, 65532, 1⟩ : S49), (⟨119155, 119162, 1⟩ : S49), (⟨917505, 917505, 1⟩ : S49), (⟨917536, 917631, 1⟩ : S49)] : List (S49)))) = some r := h
  clear h
  obtain ⟨y242, hy242⟩ : ∃ y_ : List (S49), y_ = (([(⟨0, 8, 1⟩ : S49), (⟨14, 31, 1⟩ : S49), (⟨127, 132, 1⟩ : S49), (⟨134, 159, 1⟩ : S49), (⟨173, 173, 1⟩ : S49), (⟨847, 847, 1⟩ : S49), (⟨1757, 1757, 1⟩ : S49), (⟨1807, 1807, 1⟩ : S49), (⟨6150, 6150, 1⟩ : S49), (⟨6155, 6158, 1⟩ : S49), (⟨8203, 8207, 1⟩ : S49), (⟨8234, 8238, 1⟩ : S49), (⟨8288, 8291, 1⟩ : S49), (⟨8298, 8303, 1⟩ : S49), (⟨65024, 65039, 1⟩ : S49), (⟨65279, 65279, 1⟩ : S49), (⟨65529, 65532, 1⟩ : S49), (⟨119155, 119162, 1⟩ : S49), (⟨917505, 917505, 1⟩ : S49), (⟨917536, 917631, 1⟩ : S49)] : List (S49))) := ⟨_, rfl⟩
  replace H : (some y242) = some r := by first | (rw [hy242]; with_reducible exact H) | (have H2_ := (Option.bind_some _ _).symm.trans H; rw [hy242]; with_reducible exact H2_) | (have H2_ := (Option.bind_some _ _).symm.trans H; with_reducible exact H2_) | with_reducible exact H | (rw [hy242]; exact H) | exact H
  have Ny242 := Aside0.mk hy242
  clear hy242
  obtain rfl := Option.some.inj H
  go_enter Try.func66, Try.ntmps66
  go_wp2_with (first | ((with_reducible refine gate_dst (N := 21) rfl ?_); refine Kd.R_lit k49 _ 49 ?hg (N := 21) ?hd (xs := ([(⟨0, 8, 1⟩ : S49), (⟨14, 31, 1⟩ : S49), (⟨127, 132, 1⟩ : S49), (⟨134, 159, 1⟩ : S49), (⟨173, 173, 1⟩ : S49), (⟨847, 847, 1⟩ : S49), (⟨1757, 1757, 1⟩ : S49), (⟨1807, 1807, 1⟩ : S49), (⟨6150, 6150, 1⟩ : S49), (⟨6155, 6158, 1⟩ : S49), (⟨8203, 8207, 1⟩ : S49), (⟨8234, 8238, 1⟩ : S49), (⟨8288, 8291, 1⟩ : S49), (⟨8298, 8303, 1⟩ : S49), (⟨65024, 65039, 1⟩ : S49), (⟨65279, 65279, 1⟩ : S49), (⟨65529, 65532, 1⟩ : S49), (⟨119155, 119162, 1⟩ : S49), (⟨917505, 917505, 1⟩ : S49), (⟨917536, 917631, 1⟩ : S49)] : List (S49))) (inner := [.int .i64 0, .int .i64 8, .int .i64 1, .int .i64 14, .int .i64 31, .int .i64 1, .int .i64 127, .int .i64 132, .int .i64 1, .int .i64 134, .int .i64 159, .int .i64 1, .int .i64 173, .int .i64 173, .int .i64 1, .int .i64 847, .int .i64 847, .int .i64 1, .int .i64 1757, .int .i64 1757, .int .i64 1, .int .i64 1807, .int .i64 1807, .int .i64 1, .int .i64 6150, .int .i64 6150, .int .i64 1, .int .i64 6155, .int .i64 6158, .int .i64 1, .int .i64 8203, .int .i64 8207, .int .i64 1, .int .i64 8234, .int .i64 8238, .int .i64 1, .int .i64 8288, .int .i64 8291, .int .i64 1, .int .i64 8298, .int .i64 8303, .int .i64 1, .int .i64 65024, .int .i64 65039, .int .i64 1, .int .i64 65279, .int .i64 65279, .int .i64 1, .int .i64 65529, .int .i64 65532, .int .i64 1, .int .i64 119155, .int .i64 119162, .int .i64 1, .int .i64 917505, .int .i64 917505, .int .i64 1, .int .i64 917536, .int .i64 917631, .int .i64 1]) (ok := fun _ => True) (okp := fun _ => True) ?hr ?hp (fun _ hk => hk) trivial (Below.refl _ _) (Nat.le_refl _) (by simp) ?_; (case hd => rfl); (case hg => rfl); (case hr => first | (go_simp; done) | (go_simp; rfl)); (case hp => exact (Reps.c3 (show Kd.M k49 _ _ _ (⟨0, 8, 1⟩ : S49) [.int .i64 0, .int .i64 8, .int .i64 1] from (k49_mkM _ _ _ (⟨0, 8, 1⟩ : S49) )) (Reps.c3 (show Kd.M k49 _ _ _ (⟨14, 31, 1⟩ : S49) [.int .i64 14, .int .i64 31, .int .i64 1] from (k49_mkM _ _ _ (⟨14, 31, 1⟩ : S49) )) (Reps.c3 (show Kd.M k49 _ _ _ (⟨127, 132, 1⟩ : S49) [.int .i64 127, .int .i64 132, .int .i64 1] from (k49_mkM _ _ _ (⟨127, 132, 1⟩ : S49) )) (Reps.c3 (show Kd.M k49 _ _ _ (⟨134, 159, 1⟩ : S49) [.int .i64 134, .int .i64 159, .int .i64 1] from (k49_mkM _ _ _ (⟨134, 159, 1⟩ : S49) )) (Reps.c3 (show Kd.M k49 _ _ _ (⟨173, 173, 1⟩ : S49) [.int .i64 173, .int .i64 173, .int .i64 1] from (k49_mkM _ _ _ (⟨173, 173, 1⟩ : S49) )) (Reps.c3 (show Kd.M k49 _ _ _ (⟨847, 847, 1⟩ : S49) [.int .i64 847, .int .i64 847, .int .i64 1] from (k49_mkM _ _ _ (⟨847, 847, 1⟩ : S49) )) (Reps.c3 (show Kd.M k49 _ _ _ (⟨1757, 1757, 1⟩ : S49) [.int .i64 1757, .int .i64 1757, .int .i64 1] from (k49_mkM _ _ _ (⟨1757, 1757, 1⟩ : S49) )) (Reps.c3 (show Kd.M k49 _ _ _ (⟨1807, 1807, 1⟩ : S49) [.int .i64 1807, .int .i64 1807, .int .i64 1] from (k49_mkM _ _ _ (⟨1807, 1807, 1⟩ : S49) )) (Reps.c3 (show Kd.M k49 _ _ _ (⟨6150, 6150, 1⟩ : S49) [.int .i64 6150, .int .i64 6150, .int .i64 1] from (k49_mkM _ _ _ (⟨6150, 6150, 1⟩ : S49) )) (Reps.c3 (show Kd.M k49 _ _ _ (⟨6155, 6158, 1⟩ : S49) [.int .i64 6155, .int .i64 6158, .int .i64 1] from (k49_mkM _ _ _ (⟨6155, 6158, 1⟩ : S49) )) (Reps.c3 (show Kd.M k49 _ _ _ (⟨8203, 8207, 1⟩ : S49) [.int .i64 8203, .int .i64 8207, .int .i64 1] from (k49_mkM _ _ _ (⟨8203, 8207, 1⟩ : S49) )) (Reps.c3 (show Kd.M k49 _ _ _ (⟨8234, 8238, 1⟩ : S49) [.int .i64 8234, .int .i64 8238, .int .i64 1] from (k49_mkM _ _ _ (⟨8234, 8238, 1⟩ : S49) )) (Reps.c3 (show Kd.M k49 _ _ _ (⟨8288, 8291, 1⟩ : S49) [.int .i64 8288, .int .i64 8291, .int .i64 1] from (k49_mkM _ _ _ (⟨8288, 8291, 1⟩ : S49) )) (Reps.c3 (show Kd.M k49 _ _ _ (⟨8298, 8303, 1⟩ : S49) [.int .i64 8298, .int .i64 8303, .int .i64 1] from (k49_mkM _ _ _ (⟨8298, 8303, 1⟩ : S49) )) (Reps.c3 (show Kd.M k49 _ _ _ (⟨65024, 65039, 1⟩ : S49) [.int .i64 65024, .int .i64 65039, .int .i64 1] from (k49_mkM _ _ _ (⟨65024, 65039, 1⟩ : S49) )) (Reps.c3 (show Kd.M k49 _ _ _ (⟨65279, 65279, 1⟩ : S49) [.int .i64 65279, .int .i64 65279, .int .i64 1] from (k49_mkM _ _ _ (⟨65279, 65279, 1⟩ : S49) )) (Reps.c3 (show Kd.M k49 _ _ _ (⟨65529, 65532, 1⟩ : S49) [.int .i64 65529, .int .i64 65532, .int .i64 1] from (k49_mkM _ _ _ (⟨65529, 65532, 1⟩ : S49) )) (Reps.c3 (show Kd.M k49 _ _ _ (⟨119155, 119162, 1⟩ : S49) [.int .i64 119155, .int .i64 119162, .int .i64 1] from (k49_mkM _ _ _ (⟨119155, 119162, 1⟩ : S49) )) (Reps.c3 (show Kd.M k49 _ _ _ (⟨917505, 917505, 1⟩ : S49) [.int .i64 917505, .int .i64 917505, .int .i64 1] from (k49_mkM _ _ _ (⟨917505, 917505, 1⟩ : S49) )) (Reps.c3 (show Kd.M k49 _ _ _ (⟨917536, 917631, 1⟩ : S49) [.int .i64 917536, .int .i64 917631, .int .i64 1] from (k49_mkM _ _ _ (⟨917536, 917631, 1⟩ : S49) )) (Reps.none _ _)))))))))))))))))))))); intro v243 w1 ho2 hb hg_ hnew_; clear hg_ hnew_; (first | rw [← Ny242.out] at ho2 | (simp only [Int.reduceToNat] at ho2; rw [← Ny242.out] at ho2)); have n0_ := Aside0.mk (Kd.R_lower ho2 (below_size (by repeat (first | (with_reducible first | exact HB.out | apply below_alloc | apply pw_below_drewN | apply below_drew1) | exact HB.out)))); have n1_ := Aside0.mk (below_step (by repeat (first | (with_reducible first | exact HB.out | apply below_alloc | apply pw_below_drewN | apply below_drew1) | exact HB.out)) hb); clear HB; have HO244 := n0_; have HB := n1_; clear n0_ n1_; clear hb ho2))
  go_ret
  exact ⟨_, by first | rfl | (simp [errW_none, errW_some] <;> rfl) | (simp [*, errW_none, errW_some] <;> rfl), by (with_reducible repeat (first | apply Kd.R_alloc | apply Kd.R_drewN | apply Kd.R_drew)); exact HO244.out, by repeat (first | (with_reducible first | exact HB.out | apply below_alloc | apply pw_below_drewN | apply below_drew1) | exact HB.out)⟩

/-! ### ucd_Nothing: function 100 -/
def ucd_Nothing.f (k : Nat) (a0 : Int) : Option (Bool) := (ucd_Scalar.f a0).bind fun t245 => (if t245 = true then ((api_Nothing.f).bind fun t246 => ((ranges_Flat.f k t246 a0).bind fun t249 => (some (decide (t249 > 0))))) else (some false))
theorem ucd_Nothing.mono : ∀ a0 k, LeO (ucd_Nothing.f k a0) (ucd_Nothing.f (k + 1) a0) := by
  intro a0 k
  unfold ucd_Nothing.f
  repeat' first
      | (with_reducible exact ranges_Flat.mono _ _ _)
      | (with_reducible exact LeO.refl _)
      | (with_reducible exact LeO.none _)
      | (with_reducible refine LeO.ite ?_ ?_)
      | (with_reducible refine LeO.bind ?_ (fun _ => ?_))
      | exact ranges_Flat.mono _ _ _
      | exact LeO.none _
      | refine LeO.ite ?_ ?_
      | refine LeO.bind ?_ (fun _ => ?_)
set_option maxHeartbeats 8000000 in
set_option maxRecDepth 100000 in
theorem ucd_Nothing.calls (k : Nat) (a0 : Int) (r : Bool) (w : World) (h : ucd_Nothing.f k a0 = some r) :
    Calls Try.prog 100 #[.int .i64 a0] w fun e w' => e = .returned (.bool r) ∧ Below w.heap.size w w' := by
  have HB := Aside0.mk (Below.refl w.heap.size w)
  have H : ((ucd_Scalar.f a0).bind fun t245 => (if t245 = true then ((api_Nothing.f).bind fun t246 => ((ranges_Flat.f k t246 a0).bind fun t249 => (some (decide (t249 > 0))))) else (some false))) = some r := h
  clear h
  replace H := Option.bind_eq_some_iff.mp H
  obtain ⟨t245, A20, H⟩ := H
  replace H : (if t245 = true then ((api_Nothing.f).bind fun t246 => ((ranges_Flat.f k t246 a0).bind fun t249 => (some (decide (t249 > 0))))) else (some false)) = some r := H
  have A2 := Aside0.mk A20
  clear A20
  by_cases c3 : t245 = true
  · subst c3
    have H1 : ((api_Nothing.f).bind fun t246 => ((ranges_Flat.f k t246 a0).bind fun t249 => (some (decide (t249 > 0))))) = some r := by rw [if_pos rfl] at H; exact H
    clear H
    have H := H1
    clear H1
    replace H := Option.bind_eq_some_iff.mp H
    obtain ⟨t246, A40, H⟩ := H
    replace H : ((ranges_Flat.f k t246 a0).bind fun t249 => (some (decide (t249 > 0)))) = some r := H
    have A4 := Aside0.mk A40
    clear A40
    replace H := Option.bind_eq_some_iff.mp H
    obtain ⟨t249, A50, H⟩ := H
    replace H : (some (decide (t249 > 0))) = some r := H
    have A5 := Aside0.mk A50
    clear A50
    obtain rfl := Option.some.inj H
    go_enter Try.func100, Try.ntmps100
    go_wp2_with (first | ((with_reducible refine gate_callee (f := 81) rfl ?_); refine goesL_ (some 4) rfl rfl Try.func81 (by kernel_rfl) rfl #[.int .i64 a0] rfl (by (try simp only [List.map_toArray, List.map_cons, List.map_nil]); first | done | rfl | (simp only [List.length_drop, List.length_take]; rfl)) ?_; (with_reducible refine (ucd_Scalar.calls a0 true _ A2.out).mono ?_); rintro e w' ⟨rfl, ⟨nd, rfl⟩⟩; refine ⟨_, rfl, ?_⟩) | (go_at_call 66; (with_reducible refine (api_Nothing.calls  t246 _ A4.out).mono ?_); rintro e w6 ⟨v247, rfl, ho0, hb⟩; have n0_ := Aside0.mk (Kd.R_lower ho0 (below_size (by repeat (first | (with_reducible first | exact HB.out | apply below_alloc | apply pw_below_drewN | apply below_drew1) | exact HB.out)))); have n1_ := Aside0.mk (below_step (by repeat (first | (with_reducible first | exact HB.out | apply below_alloc | apply pw_below_drewN | apply below_drew1) | exact HB.out)) hb); clear HB; have HO248 := n0_; have HB := n1_; clear n0_ n1_; (try clear hb); (try clear hb2); (try clear hk); (try clear hi); (try clear ho0); obtain ⟨Ao7, co7, eo7⟩ := Kd.R_slice HO248.out; subst eo7) | (go_at_call 79; (with_reducible refine (ranges_Flat.calls k _ _ t246 a0 t249 _ ?side1 ?side2 A5.out).mono ?_); (case side1 => repeat (first | exact (Kd.R_reads' HO248.out).2.2 | (with_reducible refine Kd.C_alloc ?_ _) | (with_reducible refine Kd.C_drewN ?_ _) | (with_reducible refine Kd.C_drew ?_))); (case side2 => exact (Kd.R_reads' HO248.out).2.1); rintro e w8 ⟨rfl, hb⟩; have n0_ := Aside0.mk (Kd.R_below (by (with_reducible repeat (first | apply Kd.R_alloc | apply Kd.R_drewN | apply Kd.R_drew)); exact HO248.out) hb); have n1_ := Aside0.mk (below_step (by repeat (first | (with_reducible first | exact HB.out | apply below_alloc | apply pw_below_drewN | apply below_drew1) | exact HB.out)) hb); clear HO248; clear HB; have HO248 := n0_; have HB := n1_; clear n0_ n1_; (try clear hb); (try clear hb2); (try clear hk); (try clear hi)))
    go_ret
    exact ⟨by first | rfl | (simp [errW_none, errW_some] <;> rfl) | (simp [*, errW_none, errW_some] <;> rfl), by repeat (first | (with_reducible first | exact HB.out | apply below_alloc | apply pw_below_drewN | apply below_drew1) | exact HB.out)⟩
  · replace c3 := Bool.eq_false_iff.mpr c3
    subst c3
    have H1 : (some false) = some r := by rw [if_neg (show ¬ (false = true) by decide)] at H; exact H
    clear H
    have H := H1
    clear H1
    obtain rfl := Option.some.inj H
    go_enter Try.func100, Try.ntmps100
    go_wp2_with (first | ((with_reducible refine gate_callee (f := 81) rfl ?_); refine goesL_ (some 4) rfl rfl Try.func81 (by kernel_rfl) rfl #[.int .i64 a0] rfl (by (try simp only [List.map_toArray, List.map_cons, List.map_nil]); first | done | rfl | (simp only [List.length_drop, List.length_take]; rfl)) ?_; (with_reducible refine (ucd_Scalar.calls a0 false _ A2.out).mono ?_); rintro e w' ⟨rfl, ⟨nd, rfl⟩⟩; refine ⟨_, rfl, ?_⟩))
    go_ret
    exact ⟨by first | rfl | (simp [errW_none, errW_some] <;> rfl) | (simp [*, errW_none, errW_some] <;> rfl), by repeat (first | (with_reducible first | exact HB.out | apply below_alloc | apply pw_below_drewN | apply below_drew1) | exact HB.out)⟩

/-- THE ONE PURE STATEMENT of ucd_Nothing: yours. -/
def ucd_Nothing.Pure : Prop := ∀ (a0 : Int), (Lit.int .i64 a0).wf = true → ∃ k, ucd_Nothing.f k a0 = some true
theorem ucd_Nothing.walk (P : ucd_Nothing.Pure) (a0 : Int) (w : World) (w0 : (Lit.int .i64 a0).wf = true) :
    Calls Try.prog 100 #[.int .i64 a0] w fun e w' => e = .returned (.bool true) ∧ Below w.heap.size w w' := by
  obtain ⟨k, h⟩ := P a0 w0
  refine (ucd_Nothing.calls k a0 true w h).mono ?_
  rintro e w' ⟨rfl, hd⟩
  exact ⟨rfl, hd⟩

/-! ### api_Spaces: function 67 -/
def api_Spaces.f  : Option ((List (S49))) := some (([(⟨9, 13, 1⟩ : S49), (⟨133, 133, 1⟩ : S49), (⟨160, 160, 1⟩ : S49), (⟨5760, 5760, 1⟩ : S49), (⟨8192, 8202, 1⟩ : S49), (⟨8232, 8233, 1⟩ : S49), (⟨8239, 8239, 1⟩ : S49), (⟨8287, 8287, 1⟩ : S49), (⟨12288, 12288, 1⟩ : S49)] : List (S49)))
set_option maxHeartbeats 8000000 in
set_option maxRecDepth 100000 in
theorem api_Spaces.calls  (r : List (S49)) (w : World) (h : api_Spaces.f  = some r) :
    Calls Try.prog 67 #[] w fun e w' => ∃ v0_ : Value, e = .returned (v0_) ∧ Kd.R k49 49 w' w.heap.size (fun _ => True) v0_ r ∧ Below w.heap.size w w' := by
  have hu49 := Try.underlying49
  have HB := Aside0.mk (Below.refl w.heap.size w)
  have H : (some (([(⟨9, 13, 1⟩ : S49), (⟨133, 133, 1⟩ : S49), (⟨160, 160, 1⟩ : S49), (⟨5760, 5760, 1⟩ : S49), (⟨8192, 8202, 1⟩ : S49), (⟨8232, 8233, 1⟩ : S49), (⟨8239, 8239, 1⟩ : S49), (⟨8287, 8287, 1⟩ : S49), (⟨12288, 12288, 1⟩ : S49)] : List (S49)))) = some r := h
  clear h
  obtain ⟨y250, hy250⟩ : ∃ y_ : List (S49), y_ = (([(⟨9, 13, 1⟩ : S49), (⟨133, 133, 1⟩ : S49), (⟨160, 160, 1⟩ : S49), (⟨5760, 5760, 1⟩ : S49), (⟨8192, 8202, 1⟩ : S49), (⟨8232, 8233, 1⟩ : S49), (⟨8239, 8239, 1⟩ : S49), (⟨8287, 8287, 1⟩ : S49), (⟨12288, 12288, 1⟩ : S49)] : List (S49))) := ⟨_, rfl⟩
  replace H : (some y250) = some r := by first | (rw [hy250]; with_reducible exact H) | (have H2_ := (Option.bind_some _ _).symm.trans H; rw [hy250]; with_reducible exact H2_) | (have H2_ := (Option.bind_some _ _).symm.trans H; with_reducible exact H2_) | with_reducible exact H | (rw [hy250]; exact H) | exact H
  have Ny250 := Aside0.mk hy250
  clear hy250
  obtain rfl := Option.some.inj H
  go_enter Try.func67, Try.ntmps67
  go_wp2_with (first | ((with_reducible refine gate_dst (N := 10) rfl ?_); refine Kd.R_lit k49 _ 49 ?hg (N := 10) ?hd (xs := ([(⟨9, 13, 1⟩ : S49), (⟨133, 133, 1⟩ : S49), (⟨160, 160, 1⟩ : S49), (⟨5760, 5760, 1⟩ : S49), (⟨8192, 8202, 1⟩ : S49), (⟨8232, 8233, 1⟩ : S49), (⟨8239, 8239, 1⟩ : S49), (⟨8287, 8287, 1⟩ : S49), (⟨12288, 12288, 1⟩ : S49)] : List (S49))) (inner := [.int .i64 9, .int .i64 13, .int .i64 1, .int .i64 133, .int .i64 133, .int .i64 1, .int .i64 160, .int .i64 160, .int .i64 1, .int .i64 5760, .int .i64 5760, .int .i64 1, .int .i64 8192, .int .i64 8202, .int .i64 1, .int .i64 8232, .int .i64 8233, .int .i64 1, .int .i64 8239, .int .i64 8239, .int .i64 1, .int .i64 8287, .int .i64 8287, .int .i64 1, .int .i64 12288, .int .i64 12288, .int .i64 1]) (ok := fun _ => True) (okp := fun _ => True) ?hr ?hp (fun _ hk => hk) trivial (Below.refl _ _) (Nat.le_refl _) (by simp) ?_; (case hd => rfl); (case hg => rfl); (case hr => first | (go_simp; done) | (go_simp; rfl)); (case hp => exact (Reps.c3 (show Kd.M k49 _ _ _ (⟨9, 13, 1⟩ : S49) [.int .i64 9, .int .i64 13, .int .i64 1] from (k49_mkM _ _ _ (⟨9, 13, 1⟩ : S49) )) (Reps.c3 (show Kd.M k49 _ _ _ (⟨133, 133, 1⟩ : S49) [.int .i64 133, .int .i64 133, .int .i64 1] from (k49_mkM _ _ _ (⟨133, 133, 1⟩ : S49) )) (Reps.c3 (show Kd.M k49 _ _ _ (⟨160, 160, 1⟩ : S49) [.int .i64 160, .int .i64 160, .int .i64 1] from (k49_mkM _ _ _ (⟨160, 160, 1⟩ : S49) )) (Reps.c3 (show Kd.M k49 _ _ _ (⟨5760, 5760, 1⟩ : S49) [.int .i64 5760, .int .i64 5760, .int .i64 1] from (k49_mkM _ _ _ (⟨5760, 5760, 1⟩ : S49) )) (Reps.c3 (show Kd.M k49 _ _ _ (⟨8192, 8202, 1⟩ : S49) [.int .i64 8192, .int .i64 8202, .int .i64 1] from (k49_mkM _ _ _ (⟨8192, 8202, 1⟩ : S49) )) (Reps.c3 (show Kd.M k49 _ _ _ (⟨8232, 8233, 1⟩ : S49) [.int .i64 8232, .int .i64 8233, .int .i64 1] from (k49_mkM _ _ _ (⟨8232, 8233, 1⟩ : S49) )) (Reps.c3 (show Kd.M k49 _ _ _ (⟨8239, 8239, 1⟩ : S49) [.int .i64 8239, .int .i64 8239, .int .i64 1] from (k49_mkM _ _ _ (⟨8239, 8239, 1⟩ : S49) )) (Reps.c3 (show Kd.M k49 _ _ _ (⟨8287, 8287, 1⟩ : S49) [.int .i64 8287, .int .i64 8287, .int .i64 1] from (k49_mkM _ _ _ (⟨8287, 8287, 1⟩ : S49) )) (Reps.c3 (show Kd.M k49 _ _ _ (⟨12288, 12288, 1⟩ : S49) [.int .i64 12288, .int .i64 12288, .int .i64 1] from (k49_mkM _ _ _ (⟨12288, 12288, 1⟩ : S49) )) (Reps.none _ _))))))))))); intro v251 w1 ho2 hb hg_ hnew_; clear hg_ hnew_; (first | rw [← Ny250.out] at ho2 | (simp only [Int.reduceToNat] at ho2; rw [← Ny250.out] at ho2)); have n0_ := Aside0.mk (Kd.R_lower ho2 (below_size (by repeat (first | (with_reducible first | exact HB.out | apply below_alloc | apply pw_below_drewN | apply below_drew1) | exact HB.out)))); have n1_ := Aside0.mk (below_step (by repeat (first | (with_reducible first | exact HB.out | apply below_alloc | apply pw_below_drewN | apply below_drew1) | exact HB.out)) hb); clear HB; have HO252 := n0_; have HB := n1_; clear n0_ n1_; clear hb ho2))
  go_ret
  exact ⟨_, by first | rfl | (simp [errW_none, errW_some] <;> rfl) | (simp [*, errW_none, errW_some] <;> rfl), by (with_reducible repeat (first | apply Kd.R_alloc | apply Kd.R_drewN | apply Kd.R_drew)); exact HO252.out, by repeat (first | (with_reducible first | exact HB.out | apply below_alloc | apply pw_below_drewN | apply below_drew1) | exact HB.out)⟩

/-! ### ucd_Space: function 101 -/
def ucd_Space.f (k : Nat) (a0 : Int) : Option (Bool) := (ucd_Scalar.f a0).bind fun t253 => (if t253 = true then ((api_Spaces.f).bind fun t254 => ((ranges_Flat.f k t254 a0).bind fun t257 => (some (decide (t257 > 0))))) else (some false))
theorem ucd_Space.mono : ∀ a0 k, LeO (ucd_Space.f k a0) (ucd_Space.f (k + 1) a0) := by
  intro a0 k
  unfold ucd_Space.f
  repeat' first
      | (with_reducible exact ranges_Flat.mono _ _ _)
      | (with_reducible exact LeO.refl _)
      | (with_reducible exact LeO.none _)
      | (with_reducible refine LeO.ite ?_ ?_)
      | (with_reducible refine LeO.bind ?_ (fun _ => ?_))
      | exact ranges_Flat.mono _ _ _
      | exact LeO.none _
      | refine LeO.ite ?_ ?_
      | refine LeO.bind ?_ (fun _ => ?_)
set_option maxHeartbeats 8000000 in
set_option maxRecDepth 100000 in
theorem ucd_Space.calls (k : Nat) (a0 : Int) (r : Bool) (w : World) (h : ucd_Space.f k a0 = some r) :
    Calls Try.prog 101 #[.int .i64 a0] w fun e w' => e = .returned (.bool r) ∧ Below w.heap.size w w' := by
  have HB := Aside0.mk (Below.refl w.heap.size w)
  have H : ((ucd_Scalar.f a0).bind fun t253 => (if t253 = true then ((api_Spaces.f).bind fun t254 => ((ranges_Flat.f k t254 a0).bind fun t257 => (some (decide (t257 > 0))))) else (some false))) = some r := h
  clear h
  replace H := Option.bind_eq_some_iff.mp H
  obtain ⟨t253, A20, H⟩ := H
  replace H : (if t253 = true then ((api_Spaces.f).bind fun t254 => ((ranges_Flat.f k t254 a0).bind fun t257 => (some (decide (t257 > 0))))) else (some false)) = some r := H
  have A2 := Aside0.mk A20
  clear A20
  by_cases c3 : t253 = true
  · subst c3
    have H1 : ((api_Spaces.f).bind fun t254 => ((ranges_Flat.f k t254 a0).bind fun t257 => (some (decide (t257 > 0))))) = some r := by rw [if_pos rfl] at H; exact H
    clear H
    have H := H1
    clear H1
    replace H := Option.bind_eq_some_iff.mp H
    obtain ⟨t254, A40, H⟩ := H
    replace H : ((ranges_Flat.f k t254 a0).bind fun t257 => (some (decide (t257 > 0)))) = some r := H
    have A4 := Aside0.mk A40
    clear A40
    replace H := Option.bind_eq_some_iff.mp H
    obtain ⟨t257, A50, H⟩ := H
    replace H : (some (decide (t257 > 0))) = some r := H
    have A5 := Aside0.mk A50
    clear A50
    obtain rfl := Option.some.inj H
    go_enter Try.func101, Try.ntmps101
    go_wp2_with (first | ((with_reducible refine gate_callee (f := 81) rfl ?_); refine goesL_ (some 4) rfl rfl Try.func81 (by kernel_rfl) rfl #[.int .i64 a0] rfl (by (try simp only [List.map_toArray, List.map_cons, List.map_nil]); first | done | rfl | (simp only [List.length_drop, List.length_take]; rfl)) ?_; (with_reducible refine (ucd_Scalar.calls a0 true _ A2.out).mono ?_); rintro e w' ⟨rfl, ⟨nd, rfl⟩⟩; refine ⟨_, rfl, ?_⟩) | (go_at_call 67; (with_reducible refine (api_Spaces.calls  t254 _ A4.out).mono ?_); rintro e w6 ⟨v255, rfl, ho0, hb⟩; have n0_ := Aside0.mk (Kd.R_lower ho0 (below_size (by repeat (first | (with_reducible first | exact HB.out | apply below_alloc | apply pw_below_drewN | apply below_drew1) | exact HB.out)))); have n1_ := Aside0.mk (below_step (by repeat (first | (with_reducible first | exact HB.out | apply below_alloc | apply pw_below_drewN | apply below_drew1) | exact HB.out)) hb); clear HB; have HO256 := n0_; have HB := n1_; clear n0_ n1_; (try clear hb); (try clear hb2); (try clear hk); (try clear hi); (try clear ho0); obtain ⟨Ao7, co7, eo7⟩ := Kd.R_slice HO256.out; subst eo7) | (go_at_call 79; (with_reducible refine (ranges_Flat.calls k _ _ t254 a0 t257 _ ?side1 ?side2 A5.out).mono ?_); (case side1 => repeat (first | exact (Kd.R_reads' HO256.out).2.2 | (with_reducible refine Kd.C_alloc ?_ _) | (with_reducible refine Kd.C_drewN ?_ _) | (with_reducible refine Kd.C_drew ?_))); (case side2 => exact (Kd.R_reads' HO256.out).2.1); rintro e w8 ⟨rfl, hb⟩; have n0_ := Aside0.mk (Kd.R_below (by (with_reducible repeat (first | apply Kd.R_alloc | apply Kd.R_drewN | apply Kd.R_drew)); exact HO256.out) hb); have n1_ := Aside0.mk (below_step (by repeat (first | (with_reducible first | exact HB.out | apply below_alloc | apply pw_below_drewN | apply below_drew1) | exact HB.out)) hb); clear HO256; clear HB; have HO256 := n0_; have HB := n1_; clear n0_ n1_; (try clear hb); (try clear hb2); (try clear hk); (try clear hi)))
    go_ret
    exact ⟨by first | rfl | (simp [errW_none, errW_some] <;> rfl) | (simp [*, errW_none, errW_some] <;> rfl), by repeat (first | (with_reducible first | exact HB.out | apply below_alloc | apply pw_below_drewN | apply below_drew1) | exact HB.out)⟩
  · replace c3 := Bool.eq_false_iff.mpr c3
    subst c3
    have H1 : (some false) = some r := by rw [if_neg (show ¬ (false = true) by decide)] at H; exact H
    clear H
    have H := H1
    clear H1
    obtain rfl := Option.some.inj H
    go_enter Try.func101, Try.ntmps101
    go_wp2_with (first | ((with_reducible refine gate_callee (f := 81) rfl ?_); refine goesL_ (some 4) rfl rfl Try.func81 (by kernel_rfl) rfl #[.int .i64 a0] rfl (by (try simp only [List.map_toArray, List.map_cons, List.map_nil]); first | done | rfl | (simp only [List.length_drop, List.length_take]; rfl)) ?_; (with_reducible refine (ucd_Scalar.calls a0 false _ A2.out).mono ?_); rintro e w' ⟨rfl, ⟨nd, rfl⟩⟩; refine ⟨_, rfl, ?_⟩))
    go_ret
    exact ⟨by first | rfl | (simp [errW_none, errW_some] <;> rfl) | (simp [*, errW_none, errW_some] <;> rfl), by repeat (first | (with_reducible first | exact HB.out | apply below_alloc | apply pw_below_drewN | apply below_drew1) | exact HB.out)⟩

/-- THE ONE PURE STATEMENT of ucd_Space: yours. -/
def ucd_Space.Pure : Prop := ∀ (a0 : Int), (Lit.int .i64 a0).wf = true → ∃ k, ucd_Space.f k a0 = some true
theorem ucd_Space.walk (P : ucd_Space.Pure) (a0 : Int) (w : World) (w0 : (Lit.int .i64 a0).wf = true) :
    Calls Try.prog 101 #[.int .i64 a0] w fun e w' => e = .returned (.bool true) ∧ Below w.heap.size w w' := by
  obtain ⟨k, h⟩ := P a0 w0
  refine (ucd_Space.calls k a0 true w h).mono ?_
  rintro e w' ⟨rfl, hd⟩
  exact ⟨rfl, hd⟩

/-! ### api_Prohibited: function 65 -/
def api_Prohibited.f  : Option ((List (S49))) := some (([(⟨832, 833, 1⟩ : S49), (⟨57344, 63743, 1⟩ : S49), (⟨65533, 65533, 1⟩ : S49), (⟨983040, 1048573, 1⟩ : S49), (⟨1048576, 1114109, 1⟩ : S49)] : List (S49)))
set_option maxHeartbeats 8000000 in
set_option maxRecDepth 100000 in
theorem api_Prohibited.calls  (r : List (S49)) (w : World) (h : api_Prohibited.f  = some r) :
    Calls Try.prog 65 #[] w fun e w' => ∃ v0_ : Value, e = .returned (v0_) ∧ Kd.R k49 49 w' w.heap.size (fun _ => True) v0_ r ∧ Below w.heap.size w w' := by
  have hu49 := Try.underlying49
  have HB := Aside0.mk (Below.refl w.heap.size w)
  have H : (some (([(⟨832, 833, 1⟩ : S49), (⟨57344, 63743, 1⟩ : S49), (⟨65533, 65533, 1⟩ : S49), (⟨983040, 1048573, 1⟩ : S49), (⟨1048576, 1114109, 1⟩ : S49)] : List (S49)))) = some r := h
  clear h
  obtain ⟨y258, hy258⟩ : ∃ y_ : List (S49), y_ = (([(⟨832, 833, 1⟩ : S49), (⟨57344, 63743, 1⟩ : S49), (⟨65533, 65533, 1⟩ : S49), (⟨983040, 1048573, 1⟩ : S49), (⟨1048576, 1114109, 1⟩ : S49)] : List (S49))) := ⟨_, rfl⟩
  replace H : (some y258) = some r := by first | (rw [hy258]; with_reducible exact H) | (have H2_ := (Option.bind_some _ _).symm.trans H; rw [hy258]; with_reducible exact H2_) | (have H2_ := (Option.bind_some _ _).symm.trans H; with_reducible exact H2_) | with_reducible exact H | (rw [hy258]; exact H) | exact H
  have Ny258 := Aside0.mk hy258
  clear hy258
  obtain rfl := Option.some.inj H
  go_enter Try.func65, Try.ntmps65
  go_wp2_with (first | ((with_reducible refine gate_dst (N := 6) rfl ?_); refine Kd.R_lit k49 _ 49 ?hg (N := 6) ?hd (xs := ([(⟨832, 833, 1⟩ : S49), (⟨57344, 63743, 1⟩ : S49), (⟨65533, 65533, 1⟩ : S49), (⟨983040, 1048573, 1⟩ : S49), (⟨1048576, 1114109, 1⟩ : S49)] : List (S49))) (inner := [.int .i64 832, .int .i64 833, .int .i64 1, .int .i64 57344, .int .i64 63743, .int .i64 1, .int .i64 65533, .int .i64 65533, .int .i64 1, .int .i64 983040, .int .i64 1048573, .int .i64 1, .int .i64 1048576, .int .i64 1114109, .int .i64 1]) (ok := fun _ => True) (okp := fun _ => True) ?hr ?hp (fun _ hk => hk) trivial (Below.refl _ _) (Nat.le_refl _) (by simp) ?_; (case hd => rfl); (case hg => rfl); (case hr => first | (go_simp; done) | (go_simp; rfl)); (case hp => exact (Reps.c3 (show Kd.M k49 _ _ _ (⟨832, 833, 1⟩ : S49) [.int .i64 832, .int .i64 833, .int .i64 1] from (k49_mkM _ _ _ (⟨832, 833, 1⟩ : S49) )) (Reps.c3 (show Kd.M k49 _ _ _ (⟨57344, 63743, 1⟩ : S49) [.int .i64 57344, .int .i64 63743, .int .i64 1] from (k49_mkM _ _ _ (⟨57344, 63743, 1⟩ : S49) )) (Reps.c3 (show Kd.M k49 _ _ _ (⟨65533, 65533, 1⟩ : S49) [.int .i64 65533, .int .i64 65533, .int .i64 1] from (k49_mkM _ _ _ (⟨65533, 65533, 1⟩ : S49) )) (Reps.c3 (show Kd.M k49 _ _ _ (⟨983040, 1048573, 1⟩ : S49) [.int .i64 983040, .int .i64 1048573, .int .i64 1] from (k49_mkM _ _ _ (⟨983040, 1048573, 1⟩ : S49) )) (Reps.c3 (show Kd.M k49 _ _ _ (⟨1048576, 1114109, 1⟩ : S49) [.int .i64 1048576, .int .i64 1114109, .int .i64 1] from (k49_mkM _ _ _ (⟨1048576, 1114109, 1⟩ : S49) )) (Reps.none _ _))))))); intro v259 w1 ho2 hb hg_ hnew_; clear hg_ hnew_; (first | rw [← Ny258.out] at ho2 | (simp only [Int.reduceToNat] at ho2; rw [← Ny258.out] at ho2)); have n0_ := Aside0.mk (Kd.R_lower ho2 (below_size (by repeat (first | (with_reducible first | exact HB.out | apply below_alloc | apply pw_below_drewN | apply below_drew1) | exact HB.out)))); have n1_ := Aside0.mk (below_step (by repeat (first | (with_reducible first | exact HB.out | apply below_alloc | apply pw_below_drewN | apply below_drew1) | exact HB.out)) hb); clear HB; have HO260 := n0_; have HB := n1_; clear n0_ n1_; clear hb ho2))
  go_ret
  exact ⟨_, by first | rfl | (simp [errW_none, errW_some] <;> rfl) | (simp [*, errW_none, errW_some] <;> rfl), by (with_reducible repeat (first | apply Kd.R_alloc | apply Kd.R_drewN | apply Kd.R_drew)); exact HO260.out, by repeat (first | (with_reducible first | exact HB.out | apply below_alloc | apply pw_below_drewN | apply below_drew1) | exact HB.out)⟩

end Go.Proofs.Ytjolmhokeceljaa.Ba
