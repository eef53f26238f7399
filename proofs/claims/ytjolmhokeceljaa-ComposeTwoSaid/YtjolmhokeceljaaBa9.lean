-- Written by a program of this session out of the translation (a printer). Lean checks it.
import Derived.Test.YtjolmhokeceljaaBa0
import Derived.Test.YtjolmhokeceljaaBa5
import Derived.Test.YtjolmhokeceljaaBa7
import Derived.Test.YtjolmhokeceljaaBa8
namespace Go.Proofs.Ytjolmhokeceljaa.Ba
open Go.RowKit Go.Proofs.Ytjolmhokeceljaa.Own Go.Proofs.YtjolmhokeceljaaW.PrintWords Go.Proofs.YtjolmhokeceljaaW.PrintLast Go.Proofs.YtjolmhokeceljaaW.PrintMore
attribute [local go_sem] max2_int min2_int max_two min_two max_three min_three max_four min_four   -- for this text's walks alone
set_option linter.unusedVariables false
set_option linter.unusedSimpArgs false

/-! ### ucd_Prohibited: function 104 -/
def ucd_Prohibited.f (k : Nat) (a0 : Int) : Option (Bool) := (ucd_Scalar.f a0).bind fun t261 => (if t261 = true then ((api_Prohibited.f).bind fun t262 => ((ranges_Flat.f k t262 a0).bind fun t265 => (some (decide (t265 > 0))))) else (some false))
theorem ucd_Prohibited.mono : ∀ a0 k, LeO (ucd_Prohibited.f k a0) (ucd_Prohibited.f (k + 1) a0) := by
  intro a0 k
  unfold ucd_Prohibited.f
  repeat' first
      | (with_reducible exact ranges_Flat.mono _ _ _)
      | (with_reducible exact LeO.refl _)
      | (with_reducible exact LeO.none _)
      | (with_reducible refine LeO.ite ?_ ?_)
      | (with_reducible refine LeO.bind ?_ (fun _ => ?_))
      | exact ranges_Flat.mono _ _ _
      | exact LeO.none _
      | refine LeO.ite ?_ ?_
      | refine LeO.bind ?_ (fun _ => ?_)
set_option maxHeartbeats 8000000 in
set_option maxRecDepth 100000 in
theorem ucd_Prohibited.calls (k : Nat) (a0 : Int) (r : Bool) (w : World) (h : ucd_Prohibited.f k a0 = some r) :
    Calls Try.prog 104 #[.int .i64 a0] w fun e w' => e = .returned (.bool r) ∧ Below w.heap.size w w' := by
  have HB := Aside0.mk (Below.refl w.heap.size w)
  have H : ((ucd_Scalar.f a0).bind fun t261 => (if t261 = true then ((api_Prohibited.f).bind fun t262 => ((ranges_Flat.f k t262 a0).bind fun t265 => (some (decide (t265 > 0))))) else (some false))) = some r := h
  clear h
  replace H := Option.bind_eq_some_iff.mp H
  obtain ⟨t261, A20, H⟩ := H
  replace H : (if t261 = true then ((api_Prohibited.f).bind fun t262 => ((ranges_Flat.f k t262 a0).bind fun t265 => (some (decide (t265 > 0))))) else (some false)) = some r := H
  have A2 := Aside0.mk A20
  clear A20
  by_cases c3 : t261 = true
  · subst c3
    have H1 : ((api_Prohibited.f).bind fun t262 => ((ranges_Flat.f k t262 a0).bind fun t265 => (some (decide (t265 > 0))))) = some r := by rw [if_pos rfl] at H; exact H
    clear H
    have H := H1
    clear H1
    replace H := Option.bind_eq_some_iff.mp H
    obtain ⟨t262, A40, H⟩ := H
    replace H : ((ranges_Flat.f k t262 a0).bind fun t265 => (some (decide (t265 > 0)))) = some r := H
    have A4 := Aside0.mk A40
    clear A40
    replace H := Option.bind_eq_some_iff.mp H
    obtain ⟨t265, A50, H⟩ := H
    replace H : (some (decide (t265 > 0))) = some r := H
    have A5 := Aside0.mk A50
    clear A50
    obtain rfl := Option.some.inj H
    go_enter Try.func104, Try.ntmps104
    go_wp2_with (first | ((with_reducible refine gate_callee (f := 81) rfl ?_); refine goesL_ (some 4) rfl rfl Try.func81 (by kernel_rfl) rfl #[.int .i64 a0] rfl (by (try simp only [List.map_toArray, List.map_cons, List.map_nil]); first | done | rfl | (simp only [List.length_drop, List.length_take]; rfl)) ?_; (with_reducible refine (ucd_Scalar.calls a0 true _ A2.out).mono ?_); rintro e w' ⟨rfl, ⟨nd, rfl⟩⟩; refine ⟨_, rfl, ?_⟩) | (go_at_call 65; (with_reducible refine (api_Prohibited.calls  t262 _ A4.out).mono ?_); rintro e w6 ⟨v263, rfl, ho0, hb⟩; have n0_ := Aside0.mk (Kd.R_lower ho0 (below_size (by repeat (first | (with_reducible first | exact HB.out | apply below_alloc | apply pw_below_drewN | apply below_drew1) | exact HB.out)))); have n1_ := Aside0.mk (below_step (by repeat (first | (with_reducible first | exact HB.out | apply below_alloc | apply pw_below_drewN | apply below_drew1) | exact HB.out)) hb); clear HB; have HO264 := n0_; have HB := n1_; clear n0_ n1_; (try clear hb); (try clear hb2); (try clear hk); (try clear hi); (try clear ho0); obtain ⟨Ao7, co7, eo7⟩ := Kd.R_slice HO264.out; subst eo7) | (go_at_call 79; (with_reducible refine (ranges_Flat.calls k _ _ t262 a0 t265 _ ?side1 ?side2 A5.out).mono ?_); (case side1 => repeat (first | exact (Kd.R_reads' HO264.out).2.2 | (with_reducible refine Kd.C_alloc ?_ _) | (with_reducible refine Kd.C_drewN ?_ _) | (with_reducible refine Kd.C_drew ?_))); (case side2 => exact (Kd.R_reads' HO264.out).2.1); rintro e w8 ⟨rfl, hb⟩; have n0_ := Aside0.mk (Kd.R_below (by (with_reducible repeat (first | apply Kd.R_alloc | apply Kd.R_drewN | apply Kd.R_drew)); exact HO264.out) hb); have n1_ := Aside0.mk (below_step (by repeat (first | (with_reducible first | exact HB.out | apply below_alloc | apply pw_below_drewN | apply below_drew1) | exact HB.out)) hb); clear HO264; clear HB; have HO264 := n0_; have HB := n1_; clear n0_ n1_; (try clear hb); (try clear hb2); (try clear hk); (try clear hi)))
    go_ret
    exact ⟨by first | rfl | (simp [errW_none, errW_some] <;> rfl) | (simp [*, errW_none, errW_some] <;> rfl), by repeat (first | (with_reducible first | exact HB.out | apply below_alloc | apply pw_below_drewN | apply below_drew1) | exact HB.out)⟩
  · replace c3 := Bool.eq_false_iff.mpr c3
    subst c3
    have H1 : (some false) = some r := by rw [if_neg (show ¬ (false = true) by decide)] at H; exact H
    clear H
    have H := H1
    clear H1
    obtain rfl := Option.some.inj H
    go_enter Try.func104, Try.ntmps104
    go_wp2_with (first | ((with_reducible refine gate_callee (f := 81) rfl ?_); refine goesL_ (some 4) rfl rfl Try.func81 (by kernel_rfl) rfl #[.int .i64 a0] rfl (by (try simp only [List.map_toArray, List.map_cons, List.map_nil]); first | done | rfl | (simp only [List.length_drop, List.length_take]; rfl)) ?_; (with_reducible refine (ucd_Scalar.calls a0 false _ A2.out).mono ?_); rintro e w' ⟨rfl, ⟨nd, rfl⟩⟩; refine ⟨_, rfl, ?_⟩))
    go_ret
    exact ⟨by first | rfl | (simp [errW_none, errW_some] <;> rfl) | (simp [*, errW_none, errW_some] <;> rfl), by repeat (first | (with_reducible first | exact HB.out | apply below_alloc | apply pw_below_drewN | apply below_drew1) | exact HB.out)⟩

/-- THE ONE PURE STATEMENT of ucd_Prohibited: yours. -/
def ucd_Prohibited.Pure : Prop := ∀ (a0 : Int), (Lit.int .i64 a0).wf = true → ∃ k, ucd_Prohibited.f k a0 = some true
theorem ucd_Prohibited.walk (P : ucd_Prohibited.Pure) (a0 : Int) (w : World) (w0 : (Lit.int .i64 a0).wf = true) :
    Calls Try.prog 104 #[.int .i64 a0] w fun e w' => e = .returned (.bool true) ∧ Below w.heap.size w w' := by
  obtain ⟨k, h⟩ := P a0 w0
  refine (ucd_Prohibited.calls k a0 true w h).mono ?_
  rintro e w' ⟨rfl, hd⟩
  exact ⟨rfl, hd⟩

/-! ### hangul_in: function 75 -/
def hangul_in.f (a0 : Int) (a1 : Int) (a2 : Int) : Option (Bool) := if a0 ≥ a1 then (some (decide (a0 < (wrap64 (a1 + a2))))) else (some false)
set_option maxHeartbeats 8000000 in
set_option maxRecDepth 100000 in
theorem hangul_in.calls (a0 : Int) (a1 : Int) (a2 : Int) (r : Bool) (w : World) (h : hangul_in.f a0 a1 a2 = some r) :
    Calls Try.prog 75 #[.int .i64 a0, .int .i64 a1, .int .i64 a2] w fun e w' => e = .returned (.bool r) ∧ Drawn0 w w' := by
  have H : (if a0 ≥ a1 then (some (decide (a0 < (wrap64 (a1 + a2))))) else (some false)) = some r := h
  clear h
  by_cases c4 : a0 ≥ a1
  · rw [if_pos c4] at H
    have c4b0 : decide (a1 ≤ a0) = true := decide_eq_true c4
    clear c4
    obtain rfl := Option.some.inj H
    go_enter Try.func75, Try.ntmps75
    go_wp2
    go_ret
    exact ⟨by first | rfl | (simp; done) | (simp [*]; done), by repeat (first | exact Drawn0.refl _ | apply Drawn0.step)⟩
  · rw [if_neg c4] at H
    have c4b0 : decide (a1 ≤ a0) = false := decide_eq_false c4
    clear c4
    obtain rfl := Option.some.inj H
    go_enter Try.func75, Try.ntmps75
    go_wp2
    go_ret
    exact ⟨by first | rfl | (simp; done) | (simp [*]; done), by repeat (first | exact Drawn0.refl _ | apply Drawn0.step)⟩

/-! ### hangul_Split: function 56 -/
def hangul_Split.f (a0 : Int) : Option (List Int) := (hangul_in.f a0 44032 11172).bind fun t266 => (if t266 = true then ((some (([wrap64 (4352 + (wrap64 (Int.tdiv (wrap64 (Int.tdiv (wrap64 (a0 - 44032)) 28)) 21))), wrap64 (4449 + (Int.tmod (wrap64 (Int.tdiv (wrap64 (a0 - 44032)) 28)) 21))] : List Int) : List Int)).bind fun y267 => (if (Int.tmod (wrap64 (a0 - 44032)) 28) > 0 then (if y267.length < 17592186044416 then (some (y267 ++ [wrap64 (4519 + (Int.tmod (wrap64 (a0 - 44032)) 28))])) else (none)) else (some y267))) else (some ([] : List Int)))
set_option maxHeartbeats 8000000 in
set_option maxRecDepth 100000 in
theorem hangul_Split.calls (a0 : Int) (r : List Int) (w : World) (h : hangul_Split.f a0 = some r) :
    Calls Try.prog 56 #[.int .i64 a0] w fun e w' => ∃ v0_ : Value, e = .returned (v0_) ∧ Kd.R (Kd.int .i64) 3 w' w.heap.size (fun _ => True) v0_ r ∧ Below w.heap.size w w' := by
  have HB := Aside0.mk (Below.refl w.heap.size w)
  have H : ((hangul_in.f a0 44032 11172).bind fun t266 => (if t266 = true then ((some (([wrap64 (4352 + (wrap64 (Int.tdiv (wrap64 (Int.tdiv (wrap64 (a0 - 44032)) 28)) 21))), wrap64 (4449 + (Int.tmod (wrap64 (Int.tdiv (wrap64 (a0 - 44032)) 28)) 21))] : List Int) : List Int)).bind fun y267 => (if (Int.tmod (wrap64 (a0 - 44032)) 28) > 0 then (if y267.length < 17592186044416 then (some (y267 ++ [wrap64 (4519 + (Int.tmod (wrap64 (a0 - 44032)) 28))])) else (none)) else (some y267))) else (some ([] : List Int)))) = some r := h
  clear h
  replace H := Option.bind_eq_some_iff.mp H
  obtain ⟨t266, A20, H⟩ := H
  replace H : (if t266 = true then ((some (([wrap64 (4352 + (wrap64 (Int.tdiv (wrap64 (Int.tdiv (wrap64 (a0 - 44032)) 28)) 21))), wrap64 (4449 + (Int.tmod (wrap64 (Int.tdiv (wrap64 (a0 - 44032)) 28)) 21))] : List Int) : List Int)).bind fun y267 => (if (Int.tmod (wrap64 (a0 - 44032)) 28) > 0 then (if y267.length < 17592186044416 then (some (y267 ++ [wrap64 (4519 + (Int.tmod (wrap64 (a0 - 44032)) 28))])) else (none)) else (some y267))) else (some ([] : List Int))) = some r := H
  have A2 := Aside0.mk A20
  clear A20
  by_cases c3 : t266 = true
  · subst c3
    have H1 : ((some (([wrap64 (4352 + (wrap64 (Int.tdiv (wrap64 (Int.tdiv (wrap64 (a0 - 44032)) 28)) 21))), wrap64 (4449 + (Int.tmod (wrap64 (Int.tdiv (wrap64 (a0 - 44032)) 28)) 21))] : List Int) : List Int)).bind fun y267 => (if (Int.tmod (wrap64 (a0 - 44032)) 28) > 0 then (if y267.length < 17592186044416 then (some (y267 ++ [wrap64 (4519 + (Int.tmod (wrap64 (a0 - 44032)) 28))])) else (none)) else (some y267))) = some r := by rw [if_pos rfl] at H; exact H
    clear H
    have H := H1
    clear H1
    obtain ⟨y267, hy267⟩ : ∃ y_ : List Int, y_ = (([wrap64 (4352 + (wrap64 (Int.tdiv (wrap64 (Int.tdiv (wrap64 (a0 - 44032)) 28)) 21))), wrap64 (4449 + (Int.tmod (wrap64 (Int.tdiv (wrap64 (a0 - 44032)) 28)) 21))] : List Int)) := ⟨_, rfl⟩
    replace H : (if (Int.tmod (wrap64 (a0 - 44032)) 28) > 0 then (if y267.length < 17592186044416 then (some (y267 ++ [wrap64 (4519 + (Int.tmod (wrap64 (a0 - 44032)) 28))])) else (none)) else (some y267)) = some r := by first | (rw [hy267]; with_reducible exact H) | (have H2_ := (Option.bind_some _ _).symm.trans H; rw [hy267]; with_reducible exact H2_) | (have H2_ := (Option.bind_some _ _).symm.trans H; with_reducible exact H2_) | with_reducible exact H | (rw [hy267]; exact H) | exact H
    have Ny267 := Aside0.mk hy267
    clear hy267
    by_cases c4 : (Int.tmod (wrap64 (a0 - 44032)) 28) > 0
    · rw [if_pos c4] at H
      have c4b0 : decide (0 < (Int.tmod (wrap64 (a0 - 44032)) 28)) = true := decide_eq_true c4
      clear c4
      by_cases c5 : y267.length < 17592186044416
      · rw [if_pos c5] at H
        have LMc5 := Aside0.mk c5
        clear c5
        obtain ⟨y270, hy270⟩ : ∃ y_ : List Int, y_ = (y267 ++ [wrap64 (4519 + (Int.tmod (wrap64 (a0 - 44032)) 28))]) := ⟨_, rfl⟩
        replace H : (some y270) = some r := by first | (rw [hy270]; with_reducible exact H) | (have H2_ := (Option.bind_some _ _).symm.trans H; rw [hy270]; with_reducible exact H2_) | (have H2_ := (Option.bind_some _ _).symm.trans H; with_reducible exact H2_) | with_reducible exact H | (rw [hy270]; exact H) | exact H
        have Ny270 := Aside0.mk hy270
        clear hy270
        obtain rfl := Option.some.inj H
        go_enter Try.func56, Try.ntmps56
        go_wp2_with (first | ((with_reducible refine gate_callee (f := 75) rfl ?_); refine goesL_ (some 7) rfl rfl Try.func75 (by kernel_rfl) rfl #[.int .i64 a0, .int .i64 44032, .int .i64 11172] rfl (by (try simp only [List.map_toArray, List.map_cons, List.map_nil]); first | done | rfl | (simp only [List.length_drop, List.length_take]; rfl)) ?_; (with_reducible refine (hangul_in.calls a0 44032 11172 true _ A2.out).mono ?_); rintro e w' ⟨rfl, ⟨nd, rfl⟩⟩; refine ⟨_, rfl, ?_⟩) | ((with_reducible refine gate_dst (N := 19) rfl ?_); refine Kd.R_lit (Kd.int .i64) _ 3 ?hg (N := 19) ?hd (xs := ([wrap64 (4352 + (wrap64 (Int.tdiv (wrap64 (Int.tdiv (wrap64 (a0 - 44032)) 28)) 21))), wrap64 (4449 + (Int.tmod (wrap64 (Int.tdiv (wrap64 (a0 - 44032)) 28)) 21))] : List Int)) (inner := [.int .i64 (wrap64 (4352 + (wrap64 (Int.tdiv (wrap64 (Int.tdiv (wrap64 (a0 - 44032)) 28)) 21)))), .int .i64 (wrap64 (4449 + (Int.tmod (wrap64 (Int.tdiv (wrap64 (a0 - 44032)) 28)) 21)))]) (ok := fun _ => True) (okp := fun _ => True) ?hr ?hp (fun _ hk => hk) trivial (Below.refl _ _) (Nat.le_refl _) (by simp) ?_; (case hd => rfl); (case hg => rfl); (case hr => first | (go_simp; done) | (go_simp; rfl)); (case hp => exact (Reps.one (show Kd.M (Kd.int .i64) _ _ _ (wrap64 (4352 + (wrap64 (Int.tdiv (wrap64 (Int.tdiv (wrap64 (a0 - 44032)) 28)) 21)))) [.int .i64 (wrap64 (4352 + (wrap64 (Int.tdiv (wrap64 (Int.tdiv (wrap64 (a0 - 44032)) 28)) 21))))] from rfl) (Reps.one (show Kd.M (Kd.int .i64) _ _ _ (wrap64 (4449 + (Int.tmod (wrap64 (Int.tdiv (wrap64 (a0 - 44032)) 28)) 21))) [.int .i64 (wrap64 (4449 + (Int.tmod (wrap64 (Int.tdiv (wrap64 (a0 - 44032)) 28)) 21)))] from rfl) (Reps.none _ _)))); intro v268 w6 ho7 hb hg_ hnew_; clear hg_ hnew_; (first | rw [← Ny267.out] at ho7 | (simp only [Int.reduceToNat] at ho7; rw [← Ny267.out] at ho7)); have n0_ := Aside0.mk (Kd.R_lower ho7 (below_size (by repeat (first | (with_reducible first | exact HB.out | apply below_alloc | apply pw_below_drewN | apply below_drew1) | exact HB.out)))); have n1_ := Aside0.mk (below_step (by repeat (first | (with_reducible first | exact HB.out | apply below_alloc | apply pw_below_drewN | apply below_drew1) | exact HB.out)) hb); clear HB; have HO269 := n0_; have HB := n1_; clear n0_ n1_; clear hb ho7) | ((with_reducible refine gate_builtin (b := .append) (xs := #[.tmp 24, .tmp 27]) rfl ?_); at_builtin; refine Kd.R_append (Kd.int .i64) (w0 := w) w.heap.size rfl (.tmp 24) (.tmp 27) 22 3 (.int .i64 0) 8 rfl Try.underlying22 info3 rfl (by decide) (by omega) v268 y267 (wrap64 (4519 + (Int.tmod (wrap64 (a0 - 44032)) 28))) [.int .i64 (wrap64 (4519 + (Int.tmod (wrap64 (a0 - 44032)) 28)))] (fun _ => True) (fun _ => False) rfl rfl ?aP (fun _ hk => hk.elim) ?aF ?aO ?aB ?aS ?aL ?_; (case aP => exact rfl); (case aB => exact (by repeat (first | (with_reducible first | exact HB.out | apply below_alloc | apply pw_below_drewN | apply below_drew1) | exact HB.out))); (case aF => exact (fun _ _ => trivial)); (case aO => exact (by (with_reducible repeat (first | apply Kd.R_alloc | apply Kd.R_drewN | apply Kd.R_drew)); exact HO269.out)); (case aS => exact (below_size (by repeat (first | (with_reducible first | exact HB.out | apply below_alloc | apply pw_below_drewN | apply below_drew1) | exact HB.out)))); (case aL => have := LMc5.out; omega); intro v271 w8 ho hb hg hat; rw [← Ny270.out] at ho; have n0_ := Aside0.mk (hb); have n1_ := Aside0.mk (ho); clear HB; clear HO269; have HB := n0_; have HO272 := n1_; clear n0_ n1_; clear ho hb hg hat))
        go_ret
        exact ⟨_, by first | rfl | (simp [errW_none, errW_some] <;> rfl) | (simp [*, errW_none, errW_some] <;> rfl), by (with_reducible repeat (first | apply Kd.R_alloc | apply Kd.R_drewN | apply Kd.R_drew)); exact HO272.out, by repeat (first | (with_reducible first | exact HB.out | apply below_alloc | apply pw_below_drewN | apply below_drew1) | exact HB.out)⟩
      · rw [if_neg c5] at H
        exact absurd H (by simp)
    · rw [if_neg c4] at H
      have c4b0 : decide (0 < (Int.tmod (wrap64 (a0 - 44032)) 28)) = false := decide_eq_false c4
      clear c4
      obtain rfl := Option.some.inj H
      go_enter Try.func56, Try.ntmps56
      go_wp2_with (first | ((with_reducible refine gate_callee (f := 75) rfl ?_); refine goesL_ (some 7) rfl rfl Try.func75 (by kernel_rfl) rfl #[.int .i64 a0, .int .i64 44032, .int .i64 11172] rfl (by (try simp only [List.map_toArray, List.map_cons, List.map_nil]); first | done | rfl | (simp only [List.length_drop, List.length_take]; rfl)) ?_; (with_reducible refine (hangul_in.calls a0 44032 11172 true _ A2.out).mono ?_); rintro e w' ⟨rfl, ⟨nd, rfl⟩⟩; refine ⟨_, rfl, ?_⟩) | ((with_reducible refine gate_dst (N := 19) rfl ?_); refine Kd.R_lit (Kd.int .i64) _ 3 ?hg (N := 19) ?hd (xs := ([wrap64 (4352 + (wrap64 (Int.tdiv (wrap64 (Int.tdiv (wrap64 (a0 - 44032)) 28)) 21))), wrap64 (4449 + (Int.tmod (wrap64 (Int.tdiv (wrap64 (a0 - 44032)) 28)) 21))] : List Int)) (inner := [.int .i64 (wrap64 (4352 + (wrap64 (Int.tdiv (wrap64 (Int.tdiv (wrap64 (a0 - 44032)) 28)) 21)))), .int .i64 (wrap64 (4449 + (Int.tmod (wrap64 (Int.tdiv (wrap64 (a0 - 44032)) 28)) 21)))]) (ok := fun _ => True) (okp := fun _ => True) ?hr ?hp (fun _ hk => hk) trivial (Below.refl _ _) (Nat.le_refl _) (by simp) ?_; (case hd => rfl); (case hg => rfl); (case hr => first | (go_simp; done) | (go_simp; rfl)); (case hp => exact (Reps.one (show Kd.M (Kd.int .i64) _ _ _ (wrap64 (4352 + (wrap64 (Int.tdiv (wrap64 (Int.tdiv (wrap64 (a0 - 44032)) 28)) 21)))) [.int .i64 (wrap64 (4352 + (wrap64 (Int.tdiv (wrap64 (Int.tdiv (wrap64 (a0 - 44032)) 28)) 21))))] from rfl) (Reps.one (show Kd.M (Kd.int .i64) _ _ _ (wrap64 (4449 + (Int.tmod (wrap64 (Int.tdiv (wrap64 (a0 - 44032)) 28)) 21))) [.int .i64 (wrap64 (4449 + (Int.tmod (wrap64 (Int.tdiv (wrap64 (a0 - 44032)) 28)) 21)))] from rfl) (Reps.none _ _)))); intro v268 w9 ho10 hb hg_ hnew_; clear hg_ hnew_; (first | rw [← Ny267.out] at ho10 | (simp only [Int.reduceToNat] at ho10; rw [← Ny267.out] at ho10)); have n0_ := Aside0.mk (Kd.R_lower ho10 (below_size (by repeat (first | (with_reducible first | exact HB.out | apply below_alloc | apply pw_below_drewN | apply below_drew1) | exact HB.out)))); have n1_ := Aside0.mk (below_step (by repeat (first | (with_reducible first | exact HB.out | apply below_alloc | apply pw_below_drewN | apply below_drew1) | exact HB.out)) hb); clear HB; have HO269 := n0_; have HB := n1_; clear n0_ n1_; clear hb ho10))
      go_ret
      exact ⟨_, by first | rfl | (simp [errW_none, errW_some] <;> rfl) | (simp [*, errW_none, errW_some] <;> rfl), by (with_reducible repeat (first | apply Kd.R_alloc | apply Kd.R_drewN | apply Kd.R_drew)); exact HO269.out, by repeat (first | (with_reducible first | exact HB.out | apply below_alloc | apply pw_below_drewN | apply below_drew1) | exact HB.out)⟩
  · replace c3 := Bool.eq_false_iff.mpr c3
    subst c3
    have H1 : (some ([] : List Int)) = some r := by rw [if_neg (show ¬ (false = true) by decide)] at H; exact H
    clear H
    have H := H1
    clear H1
    obtain rfl := Option.some.inj H
    go_enter Try.func56, Try.ntmps56
    go_wp2_with (first | ((with_reducible refine gate_callee (f := 75) rfl ?_); refine goesL_ (some 7) rfl rfl Try.func75 (by kernel_rfl) rfl #[.int .i64 a0, .int .i64 44032, .int .i64 11172] rfl (by (try simp only [List.map_toArray, List.map_cons, List.map_nil]); first | done | rfl | (simp only [List.length_drop, List.length_take]; rfl)) ?_; (with_reducible refine (hangul_in.calls a0 44032 11172 false _ A2.out).mono ?_); rintro e w' ⟨rfl, ⟨nd, rfl⟩⟩; refine ⟨_, rfl, ?_⟩))
    go_ret
    exact ⟨_, by first | rfl | (simp [errW_none, errW_some] <;> rfl) | (simp [*, errW_none, errW_some] <;> rfl), by first | exact Kd.R_nil _ _ _ _ _ | exact Kd.N_nil _ _ _ _ _ | exact Kd.V_nil _ _ _ _ _ | exact Kd.Q_nil _ _ _ _ _ | exact Kd.S_nil _ _ _ _ _, by repeat (first | (with_reducible first | exact HB.out | apply below_alloc | apply pw_below_drewN | apply below_drew1) | exact HB.out)⟩

end Go.Proofs.Ytjolmhokeceljaa.Ba
