/-
  The contracts of 'slices.Equal' of ints, of 'slices.IndexFunc' and 'slices.ContainsFunc' of ints and of triples for any predicate; of 'norm.second', 'norm.quick', 'norm.Quick' and 'norm.Same'.
-/
import Derived.Test.YtjolmhokeceljaaNorm
namespace Go.Proofs.Ytjolmhokeceljaa.Sob

/-- Is it the second one of a pair? -/
def second (c : Int) : Bool := canonT.any (fun e => (pair e.2.1 e.2.2).isSome && decide (e.2.2 = c))
def jam (c : Int) : Bool := (decide (4449 ≤ c) && decide (c ≤ 4469)) || (decide (4520 ≤ c) && decide (c ≤ 4546))
def quick1 (k : Bool) (c : Int) : Bool := !(jam c || decide (cls c ≠ 0)) && (decide (dec k c = [c]) && !second c)
def quick (k : Bool) (s : List Int) : Bool := s.all (quick1 k)

end Go.Proofs.Ytjolmhokeceljaa.Sob
namespace Go.Proofs.Ytjolmhokeceljaa.Own
open Go.RowKit Go.Proofs.YtjolmhokeceljaaW.PrintWords Go.Proofs.YtjolmhokeceljaaW.PrintLast Go.Proofs.Ytjolmhokeceljaa.Ba
set_option linter.unusedVariables false

theorem take_eq_next {xs ys : List Int} {k : Nat} (h1 : k < xs.length) (h2 : k < ys.length) (h : xs.take k = ys.take k) (e : rd xs (k : Int) = rd ys (k : Int)) : xs.take (k + 1) = ys.take (k + 1) := by
  rw [rd_nat xs k h1, rd_nat ys k h2] at e
  rw [List.take_succ_eq_append_getElem h1, List.take_succ_eq_append_getElem h2, h, e]

set_option maxRecDepth 100000 in
set_option maxHeartbeats 4000000 in
theorem equal_any (xs ys : List Int) (A B : Option Addr) (c d : Nat) (w : World) (hA : CI w A xs.length xs) (hB : CI w B ys.length ys) :
    Calls Try.prog 94 #[.slice A xs.length c, .slice B ys.length d] w fun e w' => e = .returned (.bool (decide (xs = ys))) ∧ Below w.heap.size w w' := by
  have hm := Kd.C_max hA
  by_cases hl : xs.length = ys.length
  · have HA := Aside0.mk hA
    have HB := Aside0.mk hB
    obtain ⟨n, hn⟩ : ∃ n, n = ys.length := ⟨_, rfl⟩
    have HN := Aside0.mk (And.intro hl hn)
    rw [hl, ← hn] at hm ⊢
    clear hA hB hl hn
    go_enter Try.func94, Try.ntmps94
    go_wp2
    go_loopw [13] (fun v wr => ∃ k : Nat, k ≤ n ∧ v = .int .i64 k ∧ Aside0 (xs.take k = ys.take k) ∧ Aside0 (Below w.heap.size w wr)) (fun v _ => n - (intOf v).toNat)
    case atStart => exact ⟨0, Nat.zero_le _, rfl, ⟨rfl⟩, ⟨Below.refl _ _⟩⟩
    case round =>
      obtain ⟨k, hk, rfl, HT, HW⟩ := hrel
      by_cases hlt : k < n
      · obtain ⟨h1, h2⟩ := HN.out
        obtain ⟨a1, rfl, hc1⟩ := Kd.at_int HA.out (k : Int) (by omega) (by omega)
        obtain ⟨a2, rfl, hc2⟩ := Kd.at_int HB.out (k : Int) (by omega) (by omega)
        replace hc1 := (HW.out.cell (World.block_lt_of_cell? w _ hc1)).trans hc1
        replace hc2 := (HW.out.cell (World.block_lt_of_cell? w _ hc2)).trans hc2
        rw [Int.toNat_natCast] at hc1 hc2
        have hx1 : k < xs.length := by omega
        have hx2 : k < ys.length := by omega
        have HNX := Aside0.mk (fun e => take_eq_next hx1 hx2 HT.out e)
        have HNE : Aside0 (rd xs (k : Int) ≠ rd ys (k : Int) → xs ≠ ys) := ⟨fun q e => q (by rw [e])⟩
        obtain ⟨x, hx⟩ : ∃ x, x = rd xs (k : Int) := ⟨_, rfl⟩
        obtain ⟨y, hy⟩ : ∃ y, y = rd ys (k : Int) := ⟨_, rfl⟩
        rw [← hx] at hc1 HNX HNE
        rw [← hy] at hc2 HNX HNE
        clear h1 h2 hx1 hx2 hx hy
        by_cases hxy : x = y
        · have HX := Aside0.mk (HNX.out hxy)
          subst hxy
          go_wp2
          go_region
          all_goals go_wp2
          go_roundw
          case rel => exact ⟨k + 1, by omega, by go_num, HX, ⟨below_drew1 HW.out⟩⟩
          case measure => simp [intOf]; omega
        · have HX := Aside0.mk (HNE.out hxy)
          have hb : (x != y) = true := by simpa using hxy
          clear hxy
          go_wp2
          go_region
          all_goals go_wp2
          go_ret
          exact ⟨by rw [decide_eq_false HX.out]; rfl, below_drew1 HW.out⟩
      · have e : xs = ys := by
          have h := HT.out
          obtain ⟨h1, h2⟩ := HN.out
          rwa [List.take_of_length_le (by omega), List.take_of_length_le (by omega)] at h
        have HE := Aside0.mk e
        clear e
        go_wp2
        go_ret
        exact ⟨by rw [decide_eq_true HE.out]; rfl, HW.out⟩
  · have e : ¬ xs = ys := fun e => hl (by rw [e])
    have hb : ((xs.length : Int) != (ys.length : Int)) = true := by simp; omega
    have HE := Aside0.mk e
    clear e hl hA hB
    go_enter Try.func94, Try.ntmps94
    go_wp2
    go_ret
    exact ⟨by rw [decide_eq_false HE.out]; rfl, Below.refl _ _⟩

/-- A predicate on ints, called in whatever later world. -/
def PredI (g : Nat) (lb : Array Value) (p : Int → Bool) (w : World) : Prop :=
  ∀ (W : World) (x : Int), Below w.heap.size w W → Calls Try.prog g (#[Value.int .i64 x] ++ lb) W fun e w' => e = .returned (.bool (p x)) ∧ Below w.heap.size w w'

set_option maxRecDepth 100000 in
set_option maxHeartbeats 4000000 in
theorem index_any (xs : List Int) (A : Option Addr) (c : Nat) (g : Nat) (lb : Array Value) (eg : ∀ args w, (callFunc g args).run Try.prog w = .ok (.enter g args) w) (p : Int → Bool) (w : World) (hC : CI w A xs.length xs) (hp : PredI g lb p w) :
    Calls Try.prog 118 #[.slice A xs.length c, .func (.func g) #[] lb] w fun e w' => ∃ r : Int, e = .returned (.int .i64 r) ∧ decide (0 ≤ r) = xs.any p ∧ Below w.heap.size w w' := by
  have hm := Kd.C_max hC
  have HC := Aside0.mk hC
  have HP := Aside0.mk hp
  obtain ⟨n, hn⟩ : ∃ n, n = xs.length := ⟨_, rfl⟩
  have HN := Aside0.mk hn
  rw [← hn] at hm ⊢
  clear hC hp hn
  go_enter Try.func118, Try.ntmps118
  go_wp2
  go_loopw [8] (fun v wr => ∃ k : Nat, k ≤ n ∧ v = .int .i64 k ∧ Aside0 (∀ y ∈ xs.take k, p y = false) ∧ Aside0 (Below w.heap.size w wr)) (fun v _ => n - (intOf v).toNat)
  case atStart => exact ⟨0, Nat.zero_le _, rfl, ⟨fun y hy => by simp at hy⟩, ⟨Below.refl _ _⟩⟩
  case round =>
    obtain ⟨k, hk, rfl, HT, HW⟩ := hrel
    by_cases hlt : k < n
    · have hx1 : k < xs.length := by have := HN.out; omega
      obtain ⟨a1, rfl, hc1⟩ := Kd.at_int HC.out (k : Int) (by omega) (by omega)
      replace hc1 := (HW.out.cell (World.block_lt_of_cell? w _ hc1)).trans hc1
      rw [Int.toNat_natCast, rd_nat xs k hx1] at hc1
      obtain ⟨x, hx⟩ : ∃ x, x = xs[k] := ⟨_, rfl⟩
      rw [← hx] at hc1
      have HX := Aside0.mk (show x ∈ xs ∧ xs.take (k + 1) = xs.take k ++ [x] from ⟨by rw [hx]; exact List.getElem_mem hx1, by rw [List.take_succ_eq_append_getElem hx1, hx]⟩)
      have hcall := HP.out wr x HW.out
      clear hx hx1
      cases hq : p x with
      | true =>
        have HQ := Aside0.mk hq
        rw [hq] at hcall
        clear hq
        go_wp2_with (go_at_fn g; refine hcall.mono ?_; rintro e w' ⟨rfl, hb'⟩; replace hb' := Aside0.mk hb')
        go_ret
        refine ⟨_, rfl, ?_, hb'.out⟩
        rw [decide_eq_true (by omega), eq_comm, List.any_eq_true]
        exact ⟨x, HX.out.1, HQ.out⟩
      | false =>
        have HQ := Aside0.mk hq
        rw [hq] at hcall
        clear hq
        go_wp2_with (go_at_fn g; refine hcall.mono ?_; rintro e w' ⟨rfl, hb'⟩; replace hb' := Aside0.mk hb')
        go_roundw
        case rel =>
          refine ⟨k + 1, by omega, by go_num, ⟨fun y hy => ?_⟩, hb'⟩
          rw [HX.out.2] at hy
          rcases List.mem_append.1 hy with hy | hy
          · exact HT.out y hy
          · rw [List.mem_singleton.1 hy]; exact HQ.out
        case measure => simp [intOf]; omega
    · have e : xs.any p = false := by
        rw [List.any_eq_false]
        intro y hy
        have := HT.out y (by rw [List.take_of_length_le (by have := HN.out; omega)]; exact hy)
        simp [this]
      have HE := Aside0.mk e
      clear e
      go_wp2
      go_ret
      exact ⟨_, rfl, by rw [HE.out]; rfl, HW.out⟩
theorem contains_any (xs : List Int) (A : Option Addr) (c : Nat) (g : Nat) (lb : Array Value) (eg : ∀ args w, (callFunc g args).run Try.prog w = .ok (.enter g args) w) (p : Int → Bool) (w : World) (hC : CI w A xs.length xs) (hp : PredI g lb p w) :
    Calls Try.prog 91 #[.slice A xs.length c, .func (.func g) #[] lb] w fun e w' => e = .returned (.bool (xs.any p)) ∧ Below w.heap.size w w' := by
  have H := Aside0.mk (index_any xs A c g lb eg p w hC hp)
  clear hC hp
  go_enter Try.func91, Try.ntmps91
  go_wp2_with (go_at_call 118; refine H.out.mono ?_; rintro e w' ⟨r, rfl, hr, hb'⟩; replace hr := Aside0.mk hr; replace hb' := Aside0.mk hb')
  go_ret
  exact ⟨by rw [← hr.out]; rfl, hb'.out⟩

def secP (c : Int) (e : S67) : Bool := (Sob.pair e.f1 e.f2).isSome && decide (e.f2 = c)
theorem sec_any (c : Int) : canS.any (secP c) = Sob.second c := by
  unfold canS Sob.second
  rw [List.any_map]
  rfl

set_option maxRecDepth 100000 in
set_option maxHeartbeats 4000000 in
theorem second1_any (Bc : Nat) (c x y z : Int) (w : World) (hB : Bc < w.heap.size) (hc : w.cell? ⟨Bc, 0, none⟩ = some (.int .i64 c)) :
    Calls Try.prog 131 #[.agg #[.int .i64 x, .int .i64 y, .int .i64 z], .pointer (some ⟨Bc, 0, none⟩)] w fun e w' => e = .returned (.bool (secP c ⟨x, y, z⟩)) ∧ Below w.heap.size w w' := by
  have hu := Try.underlying67
  have hb1 := (Below.refl w.heap.size w).alloc (Nat.le_refl _) (.cells #[.int .i64 x, .int .i64 y, .int .i64 z] 67)
  have hcc := fun (W : World) (hb : Below (w.alloc (.cells #[.int .i64 x, .int .i64 y, .int .i64 z] 67)).heap.size (w.alloc (.cells #[.int .i64 x, .int .i64 y, .int .i64 z] 67)) W) => (below_then hb1 (by simp) hb)
  cases hp : Sob.pair y z with
  | none =>
    have P := fun W : World => ucd_Pair.calls y z 0 false W (by unfold ucd_Pair.f; rw [hp]; rfl)
    have HR := Aside0.mk (show secP c ⟨x, y, z⟩ = false by unfold secP; rw [hp]; rfl)
    clear hp
    go_enter Try.func131, Try.ntmps131
    go_wp2_with (go_at_call 35; refine (P _).mono ?_; rintro e w2 ⟨rfl, hb2⟩; replace hb2 := Aside0.mk (hcc _ hb2))
    go_ret
    exact ⟨by rw [HR.out]; rfl, hb2.out⟩
  | some n =>
    have P := fun W : World => ucd_Pair.calls y z n true W (by unfold ucd_Pair.f; rw [hp]; rfl)
    have HR := Aside0.mk (show secP c ⟨x, y, z⟩ = decide (z = c) by unfold secP; rw [hp]; rfl)
    clear hp
    have hcw : ∀ W, Below (w.alloc (.cells #[.int .i64 x, .int .i64 y, .int .i64 z] 67)).heap.size (w.alloc (.cells #[.int .i64 x, .int .i64 y, .int .i64 z] 67)) W → W.cell? ⟨Bc, 0, none⟩ = some (.int .i64 c) ∧ W.cell? ⟨w.heap.size, 2, none⟩ = some (.int .i64 z) := fun W hb =>
      ⟨((hcc W hb).cell (p := ⟨Bc, 0, none⟩) hB).trans hc, (hb.cell (p := ⟨w.heap.size, 2, none⟩) (by simp)).trans (by simp)⟩
    go_enter Try.func131, Try.ntmps131
    go_wp2_with (go_at_call 35; refine (P _).mono ?_; rintro e w2 ⟨rfl, hb2⟩; obtain ⟨hz1, hz2⟩ := hcw _ hb2; replace hb2 := Aside0.mk (hcc _ hb2))
    go_ret
    exact ⟨by rw [HR.out]; rfl, hb2.out⟩

set_option maxRecDepth 100000 in
set_option maxHeartbeats 4000000 in
theorem index_second (L : List S67) (A : Option Addr) (cp Bc : Nat) (c : Int) (w : World) (hC : Kd.C k67 w A L.length L) (hB : Bc < w.heap.size) (hc : w.cell? ⟨Bc, 0, none⟩ = some (.int .i64 c)) :
    Calls Try.prog 133 #[.slice A L.length cp, .func (.func 131) #[] #[.pointer (some ⟨Bc, 0, none⟩)]] w fun e w' => ∃ r : Int, e = .returned (.int .i64 r) ∧ decide (0 ≤ r) = L.any (secP c) ∧ Below w.heap.size w w' := by
  have hm := Kd.C_max hC
  have HC := Aside0.mk hC
  obtain ⟨n, hn⟩ : ∃ n, n = L.length := ⟨_, rfl⟩
  have HN := Aside0.mk hn
  rw [← hn] at hm ⊢
  have HCC := fun (W : World) (hb : Below w.heap.size w W) => (hb.cell (p := ⟨Bc, 0, none⟩) hB).trans hc
  replace HCC := Aside0.mk HCC
  clear hC hn hc
  have hu := Try.underlying67
  go_enter Try.func133, Try.ntmps133
  go_wp2
  go_loopw [8] (fun v wr => ∃ k : Nat, k ≤ n ∧ v = .int .i64 k ∧ Aside0 (∀ y ∈ L.take k, secP c y = false) ∧ Aside0 (Below w.heap.size w wr)) (fun v _ => n - (intOf v).toNat)
  case atStart => exact ⟨0, Nat.zero_le _, rfl, ⟨fun y hy => by simp at hy⟩, ⟨Below.refl _ _⟩⟩
  case round =>
    obtain ⟨k, hk, rfl, HT, HW⟩ := hrel
    by_cases hlt : k < n
    · have hx1 : k < L.length := by have := HN.out; omega
      obtain ⟨ad, rfl, hc0, hc1, hc2⟩ := at_T67 HC.out (k : Int) (by omega) (by omega)
      have hc0' := (HW.out.cell (World.block_lt_of_cell? w _ hc0)).trans hc0
      have hc1' := (HW.out.cell (World.block_lt_of_cell? w _ hc1)).trans hc1
      have hc2' := (HW.out.cell (World.block_lt_of_cell? w _ hc2)).trans hc2
      rw [Int.toNat_natCast, rd_ent L k hx1] at hc0' hc1' hc2'
      obtain ⟨x, hx⟩ : ∃ x, x = L[k] := ⟨_, rfl⟩
      rw [← hx] at hc0' hc1' hc2'
      have HX := Aside0.mk (show x ∈ L ∧ L.take (k + 1) = L.take k ++ [x] from ⟨by rw [hx]; exact List.getElem_mem hx1, by rw [List.take_succ_eq_append_getElem hx1, hx]⟩)
      have hs := HW.out.size
      have hcall := second1_any Bc c x.f0 x.f1 x.f2 wr (by omega) (HCC.out wr HW.out)
      clear hx hx1 hc0 hc1 hc2
      cases hq : secP c x with
      | true =>
        have HQ := Aside0.mk hq
        rw [show (⟨x.f0, x.f1, x.f2⟩ : S67) = x from rfl, hq] at hcall
        clear hq
        go_wp2_with (go_at_call 131; refine hcall.mono ?_; rintro e w' ⟨rfl, hb'⟩; replace hb' := Aside0.mk (below_then HW.out hs hb'))
        go_ret
        refine ⟨_, rfl, ?_, hb'.out⟩
        rw [decide_eq_true (by omega), eq_comm, List.any_eq_true]
        exact ⟨x, HX.out.1, HQ.out⟩
      | false =>
        have HQ := Aside0.mk hq
        rw [show (⟨x.f0, x.f1, x.f2⟩ : S67) = x from rfl, hq] at hcall
        clear hq
        go_wp2_with (go_at_call 131; refine hcall.mono ?_; rintro e w' ⟨rfl, hb'⟩; replace hb' := Aside0.mk (below_then HW.out hs hb'))
        go_roundw
        case rel =>
          refine ⟨k + 1, by omega, by go_num, ⟨fun y hy => ?_⟩, hb'⟩
          rw [HX.out.2] at hy
          rcases List.mem_append.1 hy with hy | hy
          · exact HT.out y hy
          · rw [List.mem_singleton.1 hy]; exact HQ.out
        case measure => simp [intOf]; omega
    · have e : L.any (secP c) = false := by
        rw [List.any_eq_false]
        intro y hy
        have := HT.out y (by rw [List.take_of_length_le (by have := HN.out; omega)]; exact hy)
        simp [this]
      have HE := Aside0.mk e
      clear e
      go_wp2
      go_ret
      exact ⟨_, rfl, by rw [HE.out]; rfl, HW.out⟩

set_option maxRecDepth 100000 in
theorem second_any (c : Int) (w : World) : Calls Try.prog 120 #[.int .i64 c] w fun e w' => e = .returned (.bool (Sob.second c)) ∧ Below w.heap.size w w' := by
  have hb0 := (Below.refl w.heap.size w).alloc (Nat.le_refl _) (.cells #[.int .i64 c] 3)
  have hbx := Boxed.new w 3 (.int .i64 c)
  have K := fun (W : World) (hb : Below (w.alloc (.cells #[.int .i64 c] 3)).heap.size (w.alloc (.cells #[.int .i64 c] 3)) W) => And.intro (below_then hb0 (by simp) hb) (And.intro (show w.heap.size < W.heap.size by have := hb.size; simp at this; omega) ((hb.cell (p := ⟨w.heap.size, 0, none⟩) hbx.lt).trans hbx.cell))
  replace K := Aside0.mk K
  clear hbx hb0
  have H := fun (A : Option Addr) (cp : Nat) (W : World) (hC : Kd.C k67 W A canS.length canS) (hB : w.heap.size < W.heap.size) (hc : W.cell? ⟨w.heap.size, 0, none⟩ = some (.int .i64 c)) =>
    show Calls Try.prog 130 #[.slice A canS.length cp, .func (.func 131) #[] #[.pointer (some ⟨w.heap.size, 0, none⟩)]] W fun e w' => e = .returned (.bool (Sob.second c)) ∧ Below W.heap.size W w' from by
      have I := Aside0.mk (index_second canS A cp w.heap.size c W hC hB hc)
      clear hC hB hc
      go_enter Try.func130, Try.ntmps130
      go_wp2_with (go_at_call 133; refine I.out.mono ?_; rintro e w' ⟨r, rfl, hr, hb'⟩; replace hr := Aside0.mk hr; replace hb' := Aside0.mk hb')
      go_ret
      exact ⟨by rw [← sec_any, ← hr.out]; rfl, hb'.out⟩
  replace H := Aside0.mk H
  go_enter Try.func120, Try.ntmps120
  go_wp2_with (first | (go_at_call 76; refine (api_Canon.calls 600 canS _ canS_eq).mono ?_; rintro e w1 ⟨v0, rfl, HR, hb1⟩; obtain ⟨A, cp, rfl, hlc, HC⟩ := Kd.R_reads HR; clear HR; replace HC := Aside0.mk HC; have hk := K.out _ hb1; obtain ⟨hk1, hk2, hk3⟩ := hk; replace hk1 := Aside0.mk hk1; replace hk3 := Aside0.mk hk3) | (go_at_call 130; refine (H.out A cp w1 HC.out hk2 hk3.out).mono ?_; rintro e w2 ⟨rfl, hb2⟩; replace hb2 := Aside0.mk (below_then hk1.out hk1.out.size hb2)))
  go_ret
  exact ⟨rfl, hb2.out⟩

end Go.Proofs.Ytjolmhokeceljaa.Own
