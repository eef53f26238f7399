/-
  The contracts of 'api.Compat' and 'ucd.Compat': the compatibility decomposition of the table, or nothing.
-/
import Derived.Test.YtjolmhokeceljaaCls
namespace Go.Proofs.Ytjolmhokeceljaa.Own
open Go.RowKit Go.Proofs.YtjolmhokeceljaaW.PrintWords Go.Proofs.YtjolmhokeceljaaW.PrintLast Go.Proofs.Ytjolmhokeceljaa.Ba
set_option linter.unusedVariables false

def toM (x : Int × List Int) : S60 := ⟨x.1, x.2⟩
/-- A literal of maps: a block for each one's numbers. -/
def litW (w : World) : List (Int × List Int) → World
  | [] => w
  | (_, l) :: r => litW (w.alloc (.cells (encs (Value.int .i64) l).toArray 3)) r
def litC (w : World) : List (Int × List Int) → List Value
  | [] => []
  | (f, l) :: r => .int .i64 f :: .slice (some ⟨w.heap.size, 0, none⟩) l.length l.length :: litC (w.alloc (.cells (encs (Value.int .i64) l).toArray 3)) r
theorem R_new (W : World) (base : Nat) (xs : List Int) (ok : Nat → Prop) (hb : base ≤ W.heap.size) (hm : xs.length ≤ 9223372036854775807) (hok : ok W.heap.size) :
    Kd.R (Kd.int .i64) 3 (W.alloc (.cells (encs (Value.int .i64) xs).toArray 3)) base ok (.slice (some ⟨W.heap.size, 0, none⟩) xs.length xs.length) xs :=
  Kd.R_of_own (RI.lit W base xs hb hm).own (fun k hk => by
    have : W.heap.size = k := by simpa [Value.ownBlock] using hk
    subst this
    exact hok)
theorem litW_below (L : List (Int × List Int)) : ∀ w : World, Below w.heap.size w (litW w L) := by
  induction L with
  | nil => intro w; exact Below.refl _ _
  | cons x r ih =>
    intro w
    obtain ⟨f, l⟩ := x
    have h := ih (w.alloc (.cells (encs (Value.int .i64) l).toArray 3))
    exact below_then ((Below.refl _ w).alloc (Nat.le_refl _) _) (by simp) h
theorem Reps_cons {α : Type} {R : α → List Value → Prop} {size : Nat} {ps : List α} {cs c : List Value} {p : α} (hp : R p c) (hc : c.length = size) (h : Reps R size ps cs) : Reps R size (p :: ps) (c ++ cs) := by
  have h1 : Reps R size [p] c := by
    have := Reps.snoc (Reps.none R size) hp hc
    simpa using this
  have := Kd.reps_append h1 h
  simpa using this
theorem lit_reps (base : Nat) (L : List (Int × List Int)) (hm : ∀ x ∈ L, x.2.length ≤ 1000) : ∀ w : World, base ≤ w.heap.size →
    Reps (k60.M (litW w L) base (fun k => base ≤ k)) 2 (L.map toM) (litC w L) := by
  induction L with
  | nil => intro w _; exact Reps.none _ _
  | cons x r ih =>
    intro w hb
    obtain ⟨f, l⟩ := x
    have h1 := ih (fun y hy => hm y (List.mem_cons_of_mem _ hy)) (w.alloc (.cells (encs (Value.int .i64) l).toArray 3)) (by simp; omega)
    have h2 := R_new w base l (fun k => base ≤ k) hb (by have := hm (f, l) List.mem_cons_self; simp only at this; omega) hb
    have h3 := Kd.R_below h2 (litW_below r _)
    exact Reps_cons (k60_mkM _ base (fun k => base ≤ k) (toM (f, l)) h3) rfl h1

def comLit : List (Int × List Int) := Sob.compatT.take 52
def comA (j : Nat) : List S60 := (List.range j).map (fun i : Nat => (⟨65281 + (i : Int), [65281 + (i : Int) - 65248]⟩ : S60))
def comB (j : Nat) : List S60 := (List.range j).map (fun i : Nat => (⟨9312 + (i : Int), [9312 + (i : Int) - 9312 + 49]⟩ : S60))
theorem comA_succ (j : Nat) : comA (j + 1) = comA j ++ [(⟨65281 + (j : Int), [65281 + (j : Int) - 65248]⟩ : S60)] := by simp [comA, List.range_succ]
theorem comB_succ (j : Nat) : comB (j + 1) = comB j ++ [(⟨9312 + (j : Int), [9312 + (j : Int) - 9312 + 49]⟩ : S60)] := by simp [comB, List.range_succ]
theorem com_lenA (j : Nat) : (comLit.map toM ++ comA j).length = 52 + j := by
  rw [List.length_append, List.length_map, show comLit.length = 52 from by decide +kernel]
  simp [comA]
theorem com_lenB (j : Nat) : (comLit.map toM ++ comA 94 ++ comB j).length = 146 + j := by
  rw [List.length_append, com_lenA]
  simp [comB]
def compatS : List S60 := Sob.compatT.map toM
theorem compatS_eq : comLit.map toM ++ comA 94 ++ comB 9 = compatS := by kernel_rfl

def litV (w : World) (l : List Int) : Value := .slice (some ⟨w.heap.size, 0, none⟩) l.length l.length
def litS (w : World) (k : Nat) : Value := if k % 2 = 0 then litV (litW w (comLit.take (k / 2))) (comLit.getD (k / 2) (0, [])).2 else .agg #[.int .i64 (comLit.getD (k / 2) (0, [])).1, litV (litW w (comLit.take (k / 2))) (comLit.getD (k / 2) (0, [])).2]
theorem lit_all (w : World) (L : List (Int × List Int)) (hm : ∀ x ∈ L, x.2.length ≤ 1000) (hl : L.length ≤ 1000) :
    Kd.N k60 60 ((litW w L).alloc (.cells (litC w L).toArray 60)) w.heap.size (fun k => w.heap.size ≤ k) (.slice (some ⟨(litW w L).heap.size, 0, none⟩) L.length L.length) (L.map toM) ∧
    Below w.heap.size w ((litW w L).alloc (.cells (litC w L).toArray 60)) := by
  have hb := litW_below L w
  have hr := lit_reps w.heap.size L hm w (Nat.le_refl _)
  refine ⟨Kd.R_N ⟨fun k hk => ?_, litC w L, ?_, ?_⟩, hb.alloc hb.size _⟩
  · have : (litW w L).heap.size = k := by simpa [Value.ownBlock] using hk
    subst this
    exact hb.size
  · have h2 := World.ownsRow_lit (base := w.heap.size) (e := 60) (size := 2) (litW w L) (litC w L).toArray L.length hb.size (by simp [maxLen]; omega) (by have := hr.1; rw [List.length_map] at this; simpa using this)
    have h3 : (L.map toM).length = L.length := List.length_map ..
    rw [h3]
    have h4 : ((litW w L).alloc (.cells (litC w L).toArray 60)).ownsRow w.heap.size 60 2 (.slice (some ⟨(litW w L).heap.size, 0, none⟩) L.length L.length) L.length (litC w L) := by simpa using h2
    exact h4
  · refine hr.imp_ (fun p c hp => k60.M_mono (fun k hk => ⟨hk.1, fun he => ?_⟩) (Kd.M_below (k60.M_bound hp) (below_alloc (Below.refl _ _) _)))
    have h3 : k = (litW w L).heap.size := by simpa [Value.ownBlock] using he
    have := hk.2.2.1
    omega

/-- A new map behind the others. -/
theorem map_new {W : World} {base : Nat} {v : Value} {L : List S60} (HN : Kd.N k60 60 W base (fun k => base ≤ k) v L) (hb : base ≤ W.heap.size) (f : Int) (l : List Int) (hm : l.length ≤ 1000) :
    Kd.FK k60 (W.alloc (.cells (encs (Value.int .i64) l).toArray 3)) (fun k => base ≤ k ∧ some k ≠ v.ownBlock) (⟨f, l⟩ : S60) [.int .i64 f, .slice (some ⟨W.heap.size, 0, none⟩) l.length l.length] := by
  refine k60_mkF _ _ (⟨f, l⟩ : S60) (Nat.le_refl _) (Kd.R_F (R_new W base l (fun k => base ≤ k ∧ some k ≠ v.ownBlock) hb (by omega) ⟨hb, fun e => ?_⟩))
  have := Kd.N_lt HN _ e.symm
  omega

theorem map_new1 {W : World} {base : Nat} {v : Value} {L : List S60} (HN : Kd.N k60 60 W base (fun k => base ≤ k) v L) (hb : base ≤ W.heap.size) (f x : Int) :
    Kd.FK k60 (W.alloc (.cells #[.int .i64 x] 3)) (fun k => base ≤ k ∧ some k ≠ v.ownBlock) (⟨f, [x]⟩ : S60) [.int .i64 f, .slice (some ⟨W.heap.size, 0, none⟩) 1 1] := map_new HN hb f [x] (by simp)

set_option maxRecDepth 100000 in
set_option maxHeartbeats 16000000 in
theorem compat_any (w : World) :
    Calls Try.prog 82 #[] w fun e w' => ∃ v, e = .returned v ∧ Kd.N k60 60 w' w.heap.size (fun k => w.heap.size ≤ k) v compatS ∧ Below w.heap.size w w' := by
  obtain ⟨HN0, HB0⟩ := lit_all w comLit (by decide +kernel) (by decide +kernel)
  obtain ⟨B0, hB0⟩ : ∃ B, B = (litW w comLit).heap.size := ⟨_, rfl⟩
  rw [show comLit.length = 52 from by decide +kernel, ← hB0] at HN0
  go_enter Try.func82, Try.ntmps82
  go_upto_region 1 with (fail)
  obtain ⟨z, hz⟩ : ∃ z : Nat → Value, z = litS w := ⟨_, rfl⟩
  refine wp_region_run (a' := { tmps := #[.slice none 0 0, .slice (some ⟨(litW w comLit).heap.size, 0, none⟩) 52 52, undef, undef, z 0, z 1, z 2, z 3, z 4, z 5, z 6, z 7, z 8, z 9, z 10, z 11, z 12, z 13, z 14, z 15, z 16, z 17, z 18, z 19, z 20, z 21, z 22, z 23, z 24, z 25, z 26, z 27, z 28, z 29, z 30, z 31, z 32, z 33, z 34, z 35, z 36, z 37, z 38, z 39, z 40, z 41, z 42, z 43, z 44, z 45, z 46, z 47, z 48, z 49, z 50, z 51, z 52, z 53, z 54, z 55, z 56, z 57, z 58, z 59, z 60, z 61, z 62, z 63, z 64, z 65, z 66, z 67, z 68, z 69, z 70, z 71, z 72, z 73, z 74, z 75, z 76, z 77, z 78, z 79, z 80, z 81, z 82, z 83, z 84, z 85, z 86, z 87, z 88, z 89, z 90, z 91, z 92, z 93, z 94, z 95, z 96, z 97, z 98, z 99, z 100, z 101, z 102, z 103, .slice (some ⟨(litW w comLit).heap.size, 0, none⟩) 52 52, undef, undef, undef, undef, undef, undef, undef, undef, undef, undef, undef, undef, undef, undef, undef, undef, undef, undef, undef, undef, undef, undef, undef, undef, undef, undef], defers := [] }) (w' := (litW w comLit).alloc (.cells (litC w comLit).toArray 60)) (by rw [hz]; kernel_rfl) ?_
  clear hz
  rw [← hB0]
  generalize (litW w comLit).alloc (.cells (litC w comLit).toArray 60) = W0 at HN0 HB0 ⊢
  have HN := Aside0.mk HN0
  have HB := Aside0.mk HB0
  clear HN0 HB0 hB0
  go_wp2
  go_loopw [1, 2] (fun v1 v2 wr => ∃ j : Nat, j ≤ 94 ∧ v2 = .int .i64 (65281 + (j : Int)) ∧ Aside0 (Kd.N k60 60 wr w.heap.size (fun k => w.heap.size ≤ k) v1 (comLit.map toM ++ comA j)) ∧ Aside0 (Below w.heap.size w wr))
    (fun _ v2 _ => (65376 - intOf v2).toNat)
  case atStart => exact ⟨0, Nat.zero_le _, rfl, ⟨by simpa [comA] using HN.out⟩, HB⟩
  case round =>
    obtain ⟨j, hj, rfl, HO, HQ⟩ := hrel
    by_cases hlt : j < 94
    · have hl := com_lenA j
      clear HN HB
      go_wp2_with (at_builtin; refine Kd.N_append k60 (w0 := w) w.heap.size rfl (.tmp 113) (.tmp 119) 61 60 (.agg #[(.int .i64 0), (.slice none 0 0)]) 32 rfl Try.underlying61 info60 rfl ?a1 ?a2 u1 (comLit.map toM ++ comA j) (⟨65281 + (j : Int), [65281 + (j : Int) - 65248]⟩ : S60) [.int .i64 (65281 + (j : Int)), .slice (some ⟨wr.heap.size, 0, none⟩) 1 1] (fun k => w.heap.size ≤ k) (fun k => w.heap.size ≤ k ∧ some k ≠ u1.ownBlock) rfl ?aX ?aP (fun _ hk => hk) ?aF (Kd.N_alloc HO.out _) (HQ.out.alloc HQ.out.size _) ?aB ?aL ?_; (case a1 => decide); (case a2 => omega); (case aP => exact map_new1 HO.out HQ.out.size _ _); (case aX => rw [World.size_alloc]; rfl); (case aF => intro k hk; rw [World.size_alloc] at hk; have := HQ.out.size; omega); (case aB => rw [World.size_alloc]; have := HQ.out.size; omega); (case aL => rw [hl]; omega); intro v1 w1 hn1 hb1 _ _; replace hn1 := Aside0.mk hn1; replace hb1 := Aside0.mk hb1)
      go_roundw
      case rel => exact ⟨j + 1, by omega, by go_num, ⟨by rw [comA_succ, ← List.append_assoc]; exact hn1.out⟩, hb1⟩
      case measure => simp [intOf]; omega
    · obtain rfl : j = 94 := by omega
      have HO2 := HO.out
      rw [show comLit.map toM ++ comA 94 = comLit.map toM ++ comA 94 ++ comB 0 from by simp [comB]] at HO2
      have HN2 := Aside0.mk HO2
      clear HO HN HB HO2
      go_wp2
      go_loopw [1, 3] (fun v1 v2 wr => ∃ j : Nat, j ≤ 9 ∧ v2 = .int .i64 (9312 + (j : Int)) ∧ Aside0 (Kd.N k60 60 wr w.heap.size (fun k => w.heap.size ≤ k) v1 (comLit.map toM ++ comA 94 ++ comB j)) ∧ Aside0 (Below w.heap.size w wr))
        (fun _ v2 _ => (9322 - intOf v2).toNat)
      case atStart => exact ⟨0, Nat.zero_le _, rfl, HN2, HQ⟩
      case round =>
        clear HN2 HQ
        obtain ⟨j, hj, rfl, HO, HQ⟩ := hrel
        by_cases hlt : j < 9
        · have hl := com_lenB j
          go_wp2_with (at_builtin; refine Kd.N_append k60 (w0 := w) w.heap.size rfl (.tmp 125) (.tmp 132) 61 60 (.agg #[(.int .i64 0), (.slice none 0 0)]) 32 rfl Try.underlying61 info60 rfl ?a1 ?a2 u1 (comLit.map toM ++ comA 94 ++ comB j) (⟨9312 + (j : Int), [9312 + (j : Int) - 9312 + 49]⟩ : S60) [.int .i64 (9312 + (j : Int)), .slice (some ⟨wr.heap.size, 0, none⟩) 1 1] (fun k => w.heap.size ≤ k) (fun k => w.heap.size ≤ k ∧ some k ≠ u1.ownBlock) rfl ?aX ?aP (fun _ hk => hk) ?aF (Kd.N_alloc HO.out _) (HQ.out.alloc HQ.out.size _) ?aB ?aL ?_; (case a1 => decide); (case a2 => omega); (case aP => exact map_new1 HO.out HQ.out.size _ _); (case aX => rw [World.size_alloc]; rfl); (case aF => intro k hk; rw [World.size_alloc] at hk; have := HQ.out.size; omega); (case aB => rw [World.size_alloc]; have := HQ.out.size; omega); (case aL => rw [hl]; omega); intro v1 w1 hn1 hb1 _ _; replace hn1 := Aside0.mk hn1; replace hb1 := Aside0.mk hb1)
          go_roundw
          case rel => (repeat apply Exists.intro); exact ⟨⟨j + 1, by omega, by go_num, ⟨by rw [comB_succ, ← List.append_assoc]; exact hn1.out⟩, hb1⟩, rfl⟩
          case measure => simp [intOf]; omega
        · obtain rfl : j = 9 := by omega
          have HO2 := HO.out
          rw [compatS_eq] at HO2
          have HN3 := Aside0.mk HO2
          clear HO HO2
          go_wp2
          go_ret
          exact ⟨_, rfl, HN3.out, HQ.out⟩

theorem lookS_mapM (L : List (Int × List Int)) (c : Int) : lookS (L.map toM) c = Sob.lookM L c := by
  induction L with
  | nil => rfl
  | cons x r ih =>
    obtain ⟨f, l⟩ := x
    simp only [List.map_cons, lookS, Sob.lookM, ih, toM]
theorem lookM_len_ (n : Nat) (L : List (Int × List Int)) (h : L.all (fun x => decide (x.2.length ≤ n)) = true) (c : Int) : (Sob.lookM L c).length ≤ n := by
  induction L with
  | nil => simp [Sob.lookM]
  | cons x r ih =>
    obtain ⟨f, l⟩ := x
    simp only [List.all_cons, Bool.and_eq_true, decide_eq_true_eq] at h
    simp only [Sob.lookM]
    split
    · exact h.1
    · exact ih h.2
theorem compat_len (c : Int) : (Sob.compat c).length ≤ 8 := lookM_len_ 8 _ (by decide +kernel) c

def ucd_Compat.f (a0 : Int) : Option (List Int) := some (Sob.compat a0)

set_option maxRecDepth 100000 in
set_option maxHeartbeats 2000000 in
theorem ucd_Compat.calls (a0 : Int) (r : List Int) (w : World) (h : ucd_Compat.f a0 = some r) :
    Calls Try.prog 129 #[.int .i64 a0] w fun e w' => ∃ v0_ : Value, e = .returned (v0_) ∧ Kd.R (Kd.int .i64) 3 w' w.heap.size (fun _ => True) v0_ r ∧ Below w.heap.size w w' := by
  obtain rfl := Option.some.inj h
  clear h
  have hl := compat_len a0
  go_enter Try.func129, Try.ntmps129
  go_wp2_with (go_at_call 82; refine (compat_any _).mono ?_; rintro e w1 ⟨v0, rfl, HR, hb1⟩; obtain ⟨A, c, rfl, hlc, HC⟩ := Kd.N_reads HR; clear HR; replace HC := Aside0.mk HC; replace hb1 := Aside0.mk hb1)
  go_wp2_with (go_at_call 72; refine (found_maps compatS A c a0 w1 HC.out).mono ?_; rintro e w2 ⟨A2, n2, c2, rfl, HC2, hn2, hb2⟩; have hn := Kd.C_len HC2; subst hn; replace HC2 := Aside0.mk HC2; replace hb2 := Aside0.mk hb2)
  go_wp2_with (go_at_call 71; refine (clone_any (lookS compatS a0) A2 c2 w2 HC2.out (by rw [show lookS compatS a0 = Sob.compat a0 from lookS_mapM _ _]; omega)).mono ?_; rintro e w3 ⟨v3, rfl, HR3, hb3⟩; replace HR3 := Aside0.mk HR3; replace hb3 := Aside0.mk hb3)
  go_ret
  have hb : Below w.heap.size w w3 := below_then (below_then hb1.out hb1.out.size hb2.out) (Nat.le_trans hb1.out.size hb2.out.size) hb3.out
  exact ⟨v3, rfl, by rw [show Sob.compat a0 = lookS compatS a0 from (lookS_mapM _ _).symm]; exact Kd.R_lower HR3.out (Nat.le_trans hb1.out.size hb2.out.size), hb⟩

end Go.Proofs.Ytjolmhokeceljaa.Own
