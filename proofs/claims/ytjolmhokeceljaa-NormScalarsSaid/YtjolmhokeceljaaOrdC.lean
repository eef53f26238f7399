/-
  The contracts of 'slices.stableCmpFunc' and 'slices.SortStableFunc' of ints by their classes: a part of a row is sorted in place, stably.
  The contract of 'order.Put': a new list, the numbers in canonical order, for at most 1000000 numbers.
-/
import Derived.Test.YtjolmhokeceljaaOrdB
import Derived.Test.YtjolmhokeceljaaSob
import Derived.Test.YtjolmhokeceljaaCls
import Derived.RangeFuncBox
namespace Go.Proofs.Ytjolmhokeceljaa.Own
open Go.RowKit Go.Proofs.YtjolmhokeceljaaW.PrintWords Go.Proofs.YtjolmhokeceljaaW.PrintLast
set_option linter.unusedVariables false

set_option maxRecDepth 100000 in
set_option maxHeartbeats 16000000 in
theorem stable {w0 w : World} {g cap : Nat} (p s q : List Int) (o n c : Nat) (hp : p.length = o) (hn : n = s.length) (hbig : n ≤ 100000000)
    (h : Row w0 w g cap (p ++ (s ++ q))) :
    Calls Try.prog 114 #[.slice (some ⟨g, o, none⟩) n c, .int .i64 n, .func (.func 88) #[] #[]] w fun e w' => e = .returned (.tuple #[]) ∧ Row w0 w' g cap (p ++ (Sob.srt s ++ q)) := by
  have hH := Aside0.mk h
  have HP := Aside0.mk (And.intro hp hn)
  clear h hp hn
  go_enter Try.func114, Try.ntmps114
  go_wp2
  go_loopw [7, 8] (fun va vb wr => ∃ (a b : Nat) (D s2 : List Int), va = .int .i64 a ∧ vb = .int .i64 b ∧ b = a + 20 ∧ a ≤ n ∧ Aside0 (D.length = a ∧ a + s2.length = s.length ∧ D ++ Sob.chs 20 s2 = Sob.chs 20 s) ∧ Aside0 (Row w0 wr g cap (p ++ (D ++ (s2 ++ q)))))
    (fun va _ _ => n + 1 - (intOf va).toNat)
  case atStart => exact ⟨0, 20, [], s, rfl, rfl, rfl, Nat.zero_le _, ⟨rfl, by omega, rfl⟩, by simpa using hH⟩
  case round =>
    obtain ⟨a, b, D, s2, rfl, rfl, hab, han, HS, HR⟩ := hrel
    obtain ⟨l1, l2, l3⟩ := HS.out
    obtain ⟨hp, hn⟩ := HP.out
    have HAB := Aside0.mk hab
    by_cases hbn : b ≤ n
    · have lt1 : (s2.take 20).length = 20 := by rw [List.length_take]; omega
      have INS := Aside0.mk (insertion (p ++ D) (s2.take 20) (s2.drop 20 ++ q) o n c a b (by rw [List.length_append]; omega) (by omega) hbn hbig (w0 := w0) (w := wr) (g := g) (cap := cap) (by
        have e : p ++ (D ++ (s2 ++ q)) = (p ++ D) ++ (s2.take 20 ++ (s2.drop 20 ++ q)) := by rw [← List.append_assoc (s2.take 20), List.take_append_drop, List.append_assoc]
        rw [← e]
        exact HR.out))
      have ld : (s2.drop 20).length = s2.length - 20 := List.length_drop ..
      have NX := Aside0.mk (show (D ++ Sob.srt (s2.take 20)).length = b ∧ b + (s2.drop 20).length = s.length ∧ (D ++ Sob.srt (s2.take 20)) ++ Sob.chs 20 (s2.drop 20) = Sob.chs 20 s from ⟨by rw [List.length_append, Sob.srt_len]; omega, by omega, by rw [← l3, Sob.chs_step (b := 20) (by omega) s2, List.append_assoc]⟩)
      clear l1 l2 l3 hp hn lt1 ld HR hab
      go_wp2_with (go_at_call 127; refine INS.out.mono ?_; rintro e w5 ⟨rfl, h5⟩; replace h5 := Aside0.mk h5)
      go_roundw
      case rel => exact ⟨b, b + 20, _, _, rfl, by go_num, rfl, hbn, NX, ⟨by simpa using h5.out⟩⟩
      case measure => have := HAB.out; simp [intOf]; omega
    · have INS := Aside0.mk (insertion (p ++ D) s2 q o n c a n (by rw [List.length_append]; omega) (by omega) (Nat.le_refl _) hbig (w0 := w0) (w := wr) (g := g) (cap := cap) (by simpa using HR.out))
      have F := Aside0.mk (show D ++ Sob.srt s2 = Sob.chs 20 s by rw [← l3, Sob.chs_short (by omega) (by omega)])
      clear l1 l2 l3 hp hn HR hab
      go_wp2_with (go_at_call 127; refine INS.out.mono ?_; rintro e w5 ⟨rfl, h5⟩; replace h5 := Aside0.mk h5)
      have HR2 : Row w0 w5 g cap (p ++ (Sob.chs 20 s ++ q)) := by
        rw [← F.out]
        simpa using h5.out
      replace HR2 := Aside0.mk HR2
      clear INS F h5 HS
      go_loopw [6] (fun vB wr => ∃ B : Nat, vB = .int .i64 B ∧ 20 ≤ B ∧ B ≤ 2 * n + 20 ∧ Aside0 (Row w0 wr g cap (p ++ (Sob.chs B s ++ q))))
        (fun vB _ => 2 * n + 21 - (intOf vB).toNat)
      case atStart => exact ⟨20, rfl, by omega, by omega, HR2⟩
      case round =>
        obtain ⟨B, rfl, hB1, hB2, HW⟩ := hrel
        by_cases hBn : B < n
        · obtain ⟨B2, hB3⟩ : ∃ B2, B2 = 2 * B := ⟨_, rfl⟩
          have w1 : IntKind.i64.wrap (2 * (B : Int)) = (B2 : Int) := wrap_nat _ _ (by omega) (by omega)
          have w2 : IntKind.i64.wrap ((B : Int) * 2) = (B2 : Int) := wrap_nat _ _ (by omega) (by omega)
          have w3 : 2 * (B : Int) = (B2 : Int) := by omega
          have w4 : (B : Int) * 2 = (B2 : Int) := by omega
          have HB3 := Aside0.mk hB3
          clear hB3
          go_wp2
          go_loopw [7, 8] (fun va vb wr2 => ∃ (a b : Nat) (D s2 : List Int), va = .int .i64 a ∧ vb = .int .i64 b ∧ b = a + B2 ∧ a ≤ n ∧ Aside0 (D.length = a ∧ a + s2.length = s.length ∧ D ++ Sob.chs B2 s2 = Sob.chs B2 s) ∧ Aside0 (Row w0 wr2 g cap (p ++ (D ++ (Sob.chs B s2 ++ q)))))
            (fun va _ _ => n + 1 - (intOf va).toNat)
          case atStart => exact ⟨0, B2, [], s, rfl, rfl, by omega, Nat.zero_le _, ⟨rfl, by omega, rfl⟩, by simpa using HW⟩
          case round =>
            obtain ⟨a2, b2, D2, s3, rfl, rfl, hab2, han2, HS2, HR3⟩ := hrel
            obtain ⟨l1, l2, l3⟩ := HS2.out
            obtain ⟨hp, hn⟩ := HP.out
            have hB3 := HB3.out
            have HAB2 := Aside0.mk hab2
            obtain ⟨m, hm⟩ : ∃ m, m = a2 + B := ⟨_, rfl⟩
            have wm : (a2 : Int) + B = (m : Int) := by omega
            by_cases hbn2 : b2 ≤ n
            · have lt1 : (s3.take B).length = B := by rw [List.length_take]; omega
              have ld1 : (s3.drop B).length = s3.length - B := List.length_drop ..
              have lt2 : ((s3.drop B).take B).length = B := by rw [List.length_take]; omega
              have ld2 : (s3.drop B2).length = s3.length - B2 := List.length_drop ..
              have hBp : 0 < B := by omega
              have hB2p : 0 < B2 := by omega
              have e0 : (s3.drop B).drop B = s3.drop B2 := by rw [List.drop_drop, show B + B = B2 by omega]
              have e1 : Sob.chs B s3 = Sob.srt (s3.take B) ++ (Sob.srt ((s3.drop B).take B) ++ Sob.chs B (s3.drop B2)) := by
                rw [Sob.chs_step hBp s3, Sob.chs_step hBp (s3.drop B), e0]
              have e2 : Sob.srt (Sob.srt (s3.take B) ++ Sob.srt ((s3.drop B).take B)) = Sob.srt (s3.take B2) := by rw [Sob.srt_merge, ← hB3]
              have SYM := sym_merge (b2 - a2) (p ++ D2) (Sob.srt (s3.take B)) (Sob.srt ((s3.drop B).take B)) (Sob.chs B (s3.drop B2) ++ q) o n c a2 m b2 (Nat.le_refl _) (by rw [List.length_append]; omega) (by rw [Sob.srt_len]; omega) (by rw [Sob.srt_len]; omega) hbn2 hbig
                (fun z => by have := congrArg List.length z; rw [Sob.srt_len, lt1, List.length_nil] at this; omega) (fun z => by have := congrArg List.length z; rw [Sob.srt_len, lt2, List.length_nil] at this; omega) (Sob.srt_ord _) (Sob.srt_ord _) (w0 := w0) (w := wr) (g := g) (cap := cap) (by
                have := HR3.out
                rw [e1] at this
                simpa using this)
              rw [e2] at SYM
              have SYM2 := Aside0.mk SYM
              have NX := Aside0.mk (show (D2 ++ Sob.srt (s3.take B2)).length = b2 ∧ b2 + (s3.drop B2).length = s.length ∧ (D2 ++ Sob.srt (s3.take B2)) ++ Sob.chs B2 (s3.drop B2) = Sob.chs B2 s from ⟨by rw [List.length_append, Sob.srt_len, List.length_take]; omega, by omega, by rw [← l3, Sob.chs_step hB2p s3, List.append_assoc]⟩)
              clear l1 l2 l3 hp hn hB3 hab2 lt1 ld1 lt2 ld2 e0 e1 e2 SYM HR3 hm
              go_wp2_with (go_at_call 128; refine SYM2.out.mono ?_; rintro e w6 ⟨rfl, h6⟩; replace h6 := Aside0.mk h6)
              go_roundw
              case rel => exact ⟨b2, b2 + B2, _, _, rfl, by go_num, rfl, hbn2, NX, ⟨by simpa using h6.out⟩⟩
              case measure => have := HAB2.out; simp [intOf]; omega
            · have out : ∀ W, Row w0 W g cap (p ++ (D2 ++ (Sob.srt s3 ++ q))) → Row w0 W g cap (p ++ (Sob.chs B2 s ++ q)) := fun W hW => by
                rw [← l3, Sob.chs_short (b := B2) (by omega) (by omega)]
                simpa using hW
              have OUT := Aside0.mk out
              clear out
              by_cases hmn : m < n
              · have lt1 : (s3.take B).length = B := by rw [List.length_take]; omega
                have ld1 : (s3.drop B).length = s3.length - B := List.length_drop ..
                have hBp : 0 < B := by omega
                have e1 : Sob.chs B s3 = Sob.srt (s3.take B) ++ Sob.srt (s3.drop B) := by
                  rw [Sob.chs_step hBp s3, Sob.chs_short hBp (by omega)]
                have e2 : Sob.srt (Sob.srt (s3.take B) ++ Sob.srt (s3.drop B)) = Sob.srt s3 := Sob.srt_merge_rest (by omega)
                have SYM := sym_merge (n - a2) (p ++ D2) (Sob.srt (s3.take B)) (Sob.srt (s3.drop B)) q o n c a2 m n (Nat.le_refl _) (by rw [List.length_append]; omega) (by rw [Sob.srt_len]; omega) (by rw [Sob.srt_len]; omega) (Nat.le_refl _) hbig
                  (fun z => by have := congrArg List.length z; rw [Sob.srt_len, lt1, List.length_nil] at this; omega) (fun z => by have := congrArg List.length z; rw [Sob.srt_len, ld1, List.length_nil] at this; omega) (Sob.srt_ord _) (Sob.srt_ord _) (w0 := w0) (w := wr) (g := g) (cap := cap) (by
                  have := HR3.out
                  rw [e1] at this
                  simpa using this)
                rw [e2] at SYM
                have SYM2 := Aside0.mk SYM
                clear l1 l2 l3 hp hn hB3 hab2 lt1 ld1 e1 e2 SYM HR3 hm
                go_wp2_with (go_at_call 128; refine SYM2.out.mono ?_; rintro e w6 ⟨rfl, h6⟩; replace h6 := Aside0.mk h6)
                go_roundw
                case rel => exact ⟨B2, rfl, by have := HB3.out; omega, by have := HB3.out; omega, ⟨OUT.out _ (by simpa using h6.out)⟩⟩
                case measure => have := HB3.out; simp [intOf]; omega
              · have e1 : Sob.chs B s3 = Sob.srt s3 := Sob.chs_short (by omega) (by omega)
                have hR := HR3.out
                rw [e1] at hR
                have HR4 := Aside0.mk (OUT.out _ hR)
                clear l1 l2 l3 hp hn hB3 hab2 e1 hR HR3 hm
                go_wp2
                go_roundw
                case rel => exact ⟨B2, rfl, by have := HB3.out; omega, by have := HB3.out; omega, HR4⟩
                case measure => have := HB3.out; simp [intOf]; omega
        · have F := Aside0.mk (show Sob.chs B s = Sob.srt s from Sob.chs_short (by omega) (by have := HP.out.2; omega))
          go_wp2
          go_end0
          exact ⟨rfl, by rw [← F.out]; exact HW.out⟩

end Go.Proofs.Ytjolmhokeceljaa.Own

namespace Go.Proofs.Ytjolmhokeceljaa.Own
open Go.RowKit Go.Proofs.YtjolmhokeceljaaW.PrintWords Go.Proofs.YtjolmhokeceljaaW.PrintLast
set_option linter.unusedVariables false

set_option maxRecDepth 100000 in
set_option maxHeartbeats 4000000 in
theorem sort_stable {w0 w : World} {g cap : Nat} (p s q : List Int) (o n c : Nat) (hp : p.length = o) (hn : n = s.length) (hbig : n ≤ 100000000)
    (h : Row w0 w g cap (p ++ (s ++ q))) :
    Calls Try.prog 87 #[.slice (some ⟨g, o, none⟩) n c, .func (.func 88) #[] #[]] w fun e w' => e = .returned (.tuple #[]) ∧ Row w0 w' g cap (p ++ (Sob.srt s ++ q)) := by
  have ST := Aside0.mk (stable p s q o n c hp hn hbig h)
  clear hp hn h
  go_enter Try.func87, Try.ntmps87
  go_wp2_with (go_at_call 114; refine ST.out.mono ?_; rintro e w5 ⟨rfl, h5⟩; replace h5 := Aside0.mk h5)
  go_end0
  exact ⟨rfl, h5.out⟩

/-- Nothing is sorted. -/
theorem insertion_none (A : Option Addr) (c : Nat) (f : Value) (w : World) :
    Calls Try.prog 127 #[.slice A 0 c, .int .i64 0, .int .i64 0, f] w fun e w' => e = .returned (.tuple #[]) ∧ w' = w := by
  go_enter Try.func127, Try.ntmps127
  go_wp2
  go_loopw [8] (fun vi wr => vi = .int .i64 1 ∧ Hid (wr = w)) (fun vi _ => 0)
  case atStart => exact ⟨rfl, (show _ = _ from rfl)⟩
  case round =>
    obtain ⟨rfl, HW⟩ := hrel
    go_wp2
    go_end0
    exact ⟨rfl, HW.out⟩
theorem stable_none (A : Option Addr) (c : Nat) (f : Value) (w : World) :
    Calls Try.prog 114 #[.slice A 0 c, .int .i64 0, f] w fun e w' => e = .returned (.tuple #[]) ∧ w' = w := by
  have INS := Aside0.mk (insertion_none A c f)
  go_enter Try.func114, Try.ntmps114
  go_wp2
  go_loopw [7, 8] (fun va vb wr => va = .int .i64 0 ∧ vb = .int .i64 20 ∧ Hid (wr = w)) (fun _ _ _ => 0)
  case atStart => exact ⟨rfl, rfl, (show _ = _ from rfl)⟩
  case round =>
    obtain ⟨rfl, rfl, HW⟩ := hrel
    go_wp2_with (go_at_call 127; refine (INS.out _).mono ?_; rintro e w5 ⟨rfl, h5⟩; replace h5 := Aside0.mk h5)
    go_loopw [6] (fun vB wr => vB = .int .i64 20 ∧ Hid (wr = w)) (fun _ _ => 0)
    case atStart => exact ⟨rfl, (show _ = _ from h5.out.trans HW.out)⟩
    case round =>
      obtain ⟨rfl, HX⟩ := hrel
      go_wp2
      go_end0
      exact ⟨rfl, HX.out⟩
theorem sort_none (A : Option Addr) (c : Nat) (f : Value) (w : World) :
    Calls Try.prog 87 #[.slice A 0 c, f] w fun e w' => e = .returned (.tuple #[]) ∧ w' = w := by
  have ST := Aside0.mk (stable_none A c f)
  go_enter Try.func87, Try.ntmps87
  go_wp2_with (go_at_call 114; refine (ST.out _).mono ?_; rintro e w5 ⟨rfl, h5⟩; replace h5 := Aside0.mk h5)
  go_end0
  exact ⟨rfl, h5.out⟩

theorem RI.at_block {w : World} {base : Nat} {v : Value} {xs : List Int} (h : RI w base v xs) (h0 : 0 < xs.length) : ∃ g cap, v = .slice (some ⟨g, 0, none⟩) xs.length cap := by
  obtain ⟨k, hk⟩ : ∃ k, xs.length = k + 1 := ⟨xs.length - 1, by omega⟩
  have := h.own
  rw [hk] at this ⊢
  exact ownsRow_succ this
theorem RI.block_le {w : World} {base g n cap : Nat} {xs : List Int} (h : RI w base (.slice (some ⟨g, 0, none⟩) n cap) xs) : base ≤ g := own_base h.own g rfl

set_option maxRecDepth 100000 in
set_option maxHeartbeats 16000000 in
theorem put_any (xs : List Int) (A : Option Addr) (c : Nat) (w : World) (hC : CI w A xs.length xs) (hlen : xs.length ≤ 1000000) :
    Calls Try.prog 43 #[.slice A xs.length c] w fun e w' => ∃ v, e = .returned v ∧ RI w' w.heap.size v (Sob.put xs) ∧ Below w.heap.size w w' := by
  have CL := Aside0.mk (clone_any xs A c w hC hlen)
  clear hC
  rcases Nat.eq_zero_or_pos xs.length with h0 | h0
  · obtain rfl : xs = [] := List.eq_nil_of_length_eq_zero h0
    clear h0 hlen
    go_enter Try.func43, Try.ntmps43
    go_wp2_with (go_at_call 71; refine CL.out.mono ?_; rintro e w1 ⟨v1, rfl, hr1, hb1⟩; obtain ⟨A1, c1, rfl⟩ := Kd.R_slice hr1; replace hr1 := Aside0.mk hr1; replace hb1 := Aside0.mk hb1)
    have SN := Aside0.mk (sort_none A1)
    go_loopw [4, 11] (fun vf vi wr => ((vf = .int .i64 0 ∧ vi = .int .i64 0) ∨ (vf = .int .i64 1 ∧ vi = .int .i64 1)) ∧ Hid (wr = w1)) (fun _ vi _ => 1 - (intOf vi).toNat)
    case atStart => exact ⟨.inl ⟨rfl, rfl⟩, (show _ = _ from rfl)⟩
    case round =>
      obtain ⟨⟨rfl, rfl⟩ | ⟨rfl, rfl⟩, HW⟩ := hrel
      · go_wp2_with (go_at_call 87; refine (SN.out _ _ _).mono ?_; rintro e w5 ⟨rfl, h5⟩; replace h5 := Aside0.mk h5)
        go_roundw
        case rel => exact ⟨.inr ⟨rfl, rfl⟩, (show _ = _ from h5.out.trans HW.out)⟩
        case measure => simp [intOf]
      · go_wp2
        go_ret
        have e := HW.out
        exact ⟨_, rfl, by rw [e]; exact hr1.out, by rw [e]; exact hb1.out⟩
  · go_enter Try.func43, Try.ntmps43
    go_wp2_with (go_at_call 71; refine CL.out.mono ?_; rintro e w1 ⟨v1, rfl, hr1, hb1⟩; obtain ⟨g, cap, rfl⟩ := RI.at_block hr1 h0; replace hr1 := Aside0.mk hr1; replace hb1 := Aside0.mk hb1)
    have HROW : Row w w1 g cap xs := ⟨hr1.out, hb1.out, RI.block_le hr1.out⟩
    have hcap : xs.length ≤ cap := (Kd.R_reads' hr1.out).2.1
    replace HROW := Aside0.mk HROW
    have hcls := fun (x : Int) (W : World) => ucd_Class.calls x _ W rfl
    go_loopw [4, 11] (fun vf vi wr => ∃ f i : Nat, vf = .int .i64 f ∧ vi = .int .i64 i ∧ (i ≤ xs.length ∨ i = xs.length + 1) ∧
        Aside0 ((∃ D R T : List Int, f + R.length = i ∧ D.length = f ∧ i + T.length = xs.length ∧ (∀ y ∈ R, Sob.cls y ≠ 0) ∧ D ++ Sob.put (R ++ T) = Sob.put xs ∧ Row w wr g cap (D ++ (R ++ T))) ∨ (i = xs.length + 1 ∧ Row w wr g cap (Sob.put xs))))
      (fun _ vi _ => xs.length + 1 - (intOf vi).toNat)
    case atStart => exact ⟨0, 0, rfl, rfl, .inl (Nat.zero_le _), ⟨.inl ⟨[], [], xs, rfl, rfl, by omega, fun _ h => (by cases h), rfl, HROW.out⟩⟩⟩
    case round =>
      obtain ⟨f, i, rfl, rfl, hi, HR⟩ := hrel
      have hxl : xs.length ≤ 1000000 := hlen
      by_cases hin : i = xs.length + 1
      · have hR : Row w wr g cap (Sob.put xs) := by
          rcases HR.out with ⟨D, R, T, _, _, h3, _⟩ | ⟨_, h⟩
          · omega
          · exact h
        have hlt : ¬ (i : Int) < (xs.length : Int) + 1 := by omega
        have HR2 := Aside0.mk hR
        clear hR HR hin hi
        go_wp2
        go_ret
        have hri := HR2.out.ri
        rw [Sob.put_len] at hri
        exact ⟨_, rfl, hri, HR2.out.bl⟩
      · obtain ⟨D, R, T, h1, h2, h3, h4, h5, h6⟩ : ∃ D R T : List Int, f + R.length = i ∧ D.length = f ∧ i + T.length = xs.length ∧ (∀ y ∈ R, Sob.cls y ≠ 0) ∧ D ++ Sob.put (R ++ T) = Sob.put xs ∧ Row w wr g cap (D ++ (R ++ T)) := by
          rcases HR.out with h | ⟨h, _⟩
          · exact h
          · omega
        have hil : i ≤ xs.length := by omega
        have hlt : (i : Int) < (xs.length : Int) + 1 := by omega
        have hfi : f ≤ i := by omega
        have hic : i ≤ cap := by omega
        obtain ⟨r, hr⟩ : ∃ r, r = i - f := ⟨_, rfl⟩
        have hrl : r = R.length := by omega
        have H3 := Aside0.mk (show f + R.length = i ∧ D.length = f ∧ i + T.length = xs.length from ⟨h1, h2, h3⟩)
        have H5 := Aside0.mk (And.intro h4 h5)
        have HQ := Aside0.mk h6
        rcases T with _ | ⟨x, T⟩
        · have hni : ¬ (i : Int) < (xs.length : Int) := by have := H3.out.2.2; simp at this; omega
          have hend : ∀ W, Row w W g cap (D ++ (Sob.srt R ++ [])) → Row w W g cap (Sob.put xs) := fun W hW => by
            rw [← h5, List.append_nil, Sob.put_run_end h4]
            simpa using hW
          have HEND := Aside0.mk hend
          have hixl : xs.length = i := by have := H3.out.2.2; simp at this; omega
          by_cases hcf : cap = f
          · have e0 : i - f = 0 := by omega
            have e1 : cap - f = 0 := by omega
            have hR0 : R = [] := List.eq_nil_of_length_eq_zero (by omega)
            have HR0 := Aside0.mk hR0
            have SN := Aside0.mk (sort_none (some ⟨g, 0, none⟩) 0)
            have HX := Aside0.mk hixl
            clear h1 h2 h3 h4 h5 h6 HR hin hi hrl hr hend hR0 hixl hcf
            go_wp2_with (go_at_call 87; refine (SN.out _ _).mono ?_; rintro e w5 ⟨rfl, h5⟩; replace h5 := Aside0.mk h5)
            go_roundw
            case rel =>
              refine ⟨i + 1, i + 1, by go_num, by go_num, .inr (by rw [HX.out]), ⟨.inr ⟨by rw [HX.out], HEND.out _ ?_⟩⟩⟩
              rw [h5.out, HR0.out]
              have := HQ.out
              rw [HR0.out] at this
              exact this
            case measure => simp [intOf]; omega
          · have hcf2 : f < cap := by omega
            have ST := sort_stable D R [] f (i - f) (cap - f) h2 (by omega) (by omega) h6
            have ST2 := Aside0.mk ST
            have HX := Aside0.mk hixl
            have hne : ¬ cap - f = 0 := by omega
            clear h1 h2 h3 h4 h5 h6 HR hin hi hrl hr hend hixl hcf ST
            go_wp2_with (go_at_call 87; refine ST2.out.mono ?_; rintro e w5 ⟨rfl, h5⟩; replace h5 := Aside0.mk h5)
            go_roundw
            case rel => exact ⟨i + 1, i + 1, by go_num, by go_num, .inr (by rw [HX.out]), ⟨.inr ⟨by rw [HX.out], HEND.out _ h5.out⟩⟩⟩
            case measure => simp [intOf]; omega
        · have hni : (i : Int) < (xs.length : Int) := by have := H3.out.2.2; simp at this; omega
          have hR2 : Row w wr g cap ((D ++ R) ++ x :: T) := by simpa using h6
          obtain ⟨cA, fA⟩ := hR2.at_ (i := i) (by rw [List.length_append]; omega)
          have hi2 : i < xs.length := by omega
          by_cases hx : Sob.cls x = 0
          · have hend : ∀ W, Row w W g cap (D ++ (Sob.srt R ++ x :: T)) → (∃ D' R' T' : List Int, i + 1 + R'.length = i + 1 ∧ D'.length = i + 1 ∧ i + 1 + T'.length = xs.length ∧ (∀ y ∈ R', Sob.cls y ≠ 0) ∧ D' ++ Sob.put (R' ++ T') = Sob.put xs ∧ Row w W g cap (D' ++ (R' ++ T'))) := fun W hW => by
              refine ⟨D ++ (Sob.srt R ++ [x]), [], T, rfl, ?_, ?_, fun _ h => (by cases h), ?_, by simpa using hW⟩
              · simp only [List.length_append, Sob.srt_len, List.length_singleton]; omega
              · have := H3.out.2.2; simp only [List.length_cons] at this; omega
              · rw [← h5, Sob.put_run h4 (fun b hb => by simp at hb; rw [← hb]; exact hx), Sob.put_zero hx]
                simp
            have HEND := Aside0.mk hend
            have hcf2 : f < cap := by omega
            have ST := fun (W : World) (hW : Row w W g cap (D ++ (R ++ x :: T))) => sort_stable D R (x :: T) f (i - f) (cap - f) h2 (by omega) (by omega) hW
            have ST2 := Aside0.mk ST
            have hne : ¬ cap - f = 0 := by omega
            have hcx := hcls x
            rw [hx] at hcx
            clear h1 h2 h3 h4 h5 h6 HR hin hi hrl hr hend ST hR2 hcls
            go_wp2_with (first | (go_at_call 37; refine (hcx _).mono ?_; rintro e w2 ⟨rfl, hb2⟩; replace HQ := Aside0.mk (HQ.out.below hb2); clear hb2) | (go_at_call 87; refine (ST2.out _ HQ.out).mono ?_; rintro e w5 ⟨rfl, h5⟩; replace h5 := Aside0.mk h5))
            go_roundw
            case rel => exact ⟨i + 1, i + 1, by go_num, by go_num, .inl hi2, ⟨.inl (HEND.out _ h5.out)⟩⟩
            case measure => simp [intOf]; omega
          · have hend : ∀ W, Row w W g cap (D ++ (R ++ x :: T)) → (∃ D' R' T' : List Int, f + R'.length = i + 1 ∧ D'.length = f ∧ i + 1 + T'.length = xs.length ∧ (∀ y ∈ R', Sob.cls y ≠ 0) ∧ D' ++ Sob.put (R' ++ T') = Sob.put xs ∧ Row w W g cap (D' ++ (R' ++ T'))) := fun W hW => by
              refine ⟨D, R ++ [x], T, ?_, h2, ?_, fun y hy => ?_, by rw [← h5]; simp, by simpa using hW⟩
              · rw [List.length_append, List.length_singleton]; omega
              · have := H3.out.2.2; simp only [List.length_cons] at this; omega
              · rcases List.mem_append.1 hy with hy | hy
                · exact h4 y hy
                · rw [List.mem_singleton.1 hy]; exact hx
            have HEND := Aside0.mk hend
            have hcx := hcls x
            have hxb : (Sob.cls x != 0) = true := by simpa using hx
            clear h1 h2 h3 h4 h5 h6 HR hin hi hrl hr hend hR2 hcls hx
            go_wp2_with (go_at_call 37; refine (hcx _).mono ?_; rintro e w2 ⟨rfl, hb2⟩; replace HQ := Aside0.mk (HQ.out.below hb2); clear hb2)
            go_roundw
            case rel => exact ⟨f, i + 1, rfl, by go_num, .inl hi2, ⟨.inl (HEND.out _ HQ.out)⟩⟩
            case measure => simp [intOf]; omega

def order_Put.f (l0 : List Int) : Option (List Int) := if l0.length ≤ 1000000 then some (Sob.put l0) else none
theorem order_Put.calls (A0 : Option Addr) (c0 : Nat) (l0 : List Int) (r : List Int) (w : World) (hr0 : Kd.C (Kd.int .i64) w A0 l0.length l0) (_hc0 : l0.length ≤ c0) (h : order_Put.f l0 = some r) :
    Calls Try.prog 43 #[.slice A0 l0.length c0] w fun e w' => ∃ v0_ : Value, e = .returned (v0_) ∧ Kd.R (Kd.int .i64) 3 w' w.heap.size (fun _ => True) v0_ r ∧ Below w.heap.size w w' := by
  unfold order_Put.f at h
  split at h
  · rename_i hs
    obtain rfl := Option.some.inj h
    exact put_any l0 A0 c0 w hr0 hs
  · cases h

end Go.Proofs.Ytjolmhokeceljaa.Own
