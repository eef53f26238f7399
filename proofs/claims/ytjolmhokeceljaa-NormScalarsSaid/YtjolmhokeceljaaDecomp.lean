/-
  The contracts of 'decomp.next', of the iterator 'decomp.parts', of 'decomp.One' and 'decomp.All': a number, all numbers taken apart, in new memory.
-/
import Derived.Test.YtjolmhokeceljaaCompat
import Derived.Test.YtjolmhokeceljaaConcat
import Derived.Test.YtjolmhokeceljaaPair
import Derived.Test.YtjolmhokeceljaaIter
import Derived.Test.YtjolmhokeceljaaSobN
import Derived.Sort.LoopGhostIn
namespace Go.Proofs.Ytjolmhokeceljaa.Sob

/-! ### how much a number comes apart to -/
theorem lookM_le (n : Nat) (L : List (Int × List Int)) (h : L.all (fun x => decide (x.2.length ≤ n)) = true) (c : Int) : (lookM L c).length ≤ n := by
  rcases lookM_cases L c with e | ⟨x, hx, _, e⟩
  · rw [e]; simp
  · rw [e]; exact of_decide_eq_true (List.all_eq_true.1 h x hx)
theorem next_len (k : Bool) (c : Int) : (next k c).length ≤ 8 := by
  rcases next_cases k c with h | ⟨_, e⟩ | ⟨_, e, _, _, h⟩ | ⟨_, _, _, e, he, _, h⟩
  · rw [h]; simp
  · rw [e]; unfold split; split <;> (try split) <;> simp
  · rw [h]; split <;> simp
  · rw [h]; exact of_decide_eq_true (List.all_eq_true.1 (show compatT.all (fun x => decide (x.2.length ≤ 8)) = true by decide +kernel) e he)
theorem flat_le {f : Int → List Int} {m : Nat} {l : List Int} (h : ∀ y ∈ l, (f y).length ≤ m) : (l.flatMap f).length ≤ l.length * m := by
  induction l with
  | nil => simp
  | cons x l ih =>
    have h1 := h x List.mem_cons_self
    have h2 := ih (fun y hy => h y (List.mem_cons_of_mem _ hy))
    rw [List.flatMap_cons, List.length_append, List.length_cons, Nat.add_mul, Nat.one_mul]
    omega
theorem decN_len (k : Bool) (n : Nat) : ∀ c : Int, (decN k n c).length ≤ 8 ^ n := by
  induction n with
  | zero => intro c; simp [decN]
  | succ n ih =>
    intro c
    by_cases h : next k c = []
    · rw [decN_stop k _ h]
      have := Nat.one_le_pow (n + 1) 8 (by omega)
      simpa using this
    · rw [decN_go k n h]
      have h1 := flat_le (f := decN k n) (l := next k c) (m := 8 ^ n) (fun y _ => ih y)
      have h2 := next_len k c
      have h3 : (next k c).length * 8 ^ n ≤ 8 * 8 ^ n := Nat.mul_le_mul_right _ h2
      rw [Nat.pow_succ, Nat.mul_comm]
      omega
theorem dec_len (k : Bool) (c : Int) : (dec k c).length ≤ 512 := decN_len k 3 c
theorem decN_pos (k : Bool) (n : Nat) : ∀ c : Int, 1 ≤ (decN k n c).length := by
  induction n with
  | zero => intro c; simp [decN]
  | succ n ih =>
    intro c
    by_cases h : next k c = []
    · rw [decN_stop k _ h]; simp
    · rw [decN_go k n h]
      cases e : next k c with
      | nil => exact absurd e h
      | cons x l =>
        have := ih x
        rw [List.flatMap_cons, List.length_append]
        omega
theorem decAll_pos (k : Bool) (s : List Int) : s.length ≤ (decAll k s).length := by
  induction s with
  | nil => simp
  | cons c s ih =>
    have : 1 ≤ (dec k c).length := decN_pos k 3 c
    rw [decAll_cons, List.length_append, List.length_cons]
    omega
theorem decAll_len (k : Bool) (s : List Int) : (decAll k s).length ≤ s.length * 512 := flat_le (fun y _ => dec_len k y)
/-- How many steps taking it apart needs. -/
def wtN (k : Bool) : Nat → Int → Nat
  | 0, _ => 1
  | n + 1, c => 1 + ((next k c).map (wtN k n)).sum
def wts (k : Bool) (s : List Int) : Nat := (s.map (wtN k 3)).sum
theorem wtN_stop (k : Bool) (n : Nat) {c : Int} (h : next k c = []) : wtN k n c = 1 := by
  cases n with
  | zero => rfl
  | succ n => simp [wtN, h]
theorem wtN_lev (k : Bool) (n : Nat) : ∀ {c : Int}, lev k n c = true → ∀ m, n ≤ m → wtN k m c = wtN k n c := by
  induction n with
  | zero =>
    intro c h m _
    have h := of_decide_eq_true h
    rw [wtN_stop k m h, wtN_stop k 0 h]
  | succ n ih =>
    intro c h m hm
    obtain ⟨m, rfl⟩ : ∃ m', m = m' + 1 := ⟨m - 1, by omega⟩
    simp only [wtN]
    have : (next k c).map (wtN k m) = (next k c).map (wtN k n) := List.map_congr_left fun y hy => ih (List.all_eq_true.1 h y hy) m (by omega)
    rw [this]
theorem wts_step (k : Bool) (x : Int) (r : List Int) : wts k (next k x ++ r) + 1 = wts k (x :: r) := by
  have : (next k x).map (wtN k 3) = (next k x).map (wtN k 2) := List.map_congr_left fun y hy => wtN_lev k 2 (List.all_eq_true.1 (lev_all k x) y hy) 3 (by omega)
  unfold wts
  rw [List.map_append, List.sum_append, List.map_cons, List.sum_cons, this]
  show _ = 1 + ((next k x).map (wtN k 2)).sum + _
  omega
theorem decAll_step (k : Bool) (x : Int) (r : List Int) (h : next k x ≠ []) : decAll k (x :: r) = decAll k (next k x ++ r) := by
  rw [decAll_cons, decAll_append, dec_go k h]
  rfl

end Go.Proofs.Ytjolmhokeceljaa.Sob
namespace Go.Proofs.Ytjolmhokeceljaa.Own
open Go.RowKit Go.Shelf Go.Proofs.YtjolmhokeceljaaW.PrintWords Go.Proofs.YtjolmhokeceljaaW.PrintLast
attribute [local go_sem] Oper.semAt_some
set_option linter.unusedVariables false

set_option maxRecDepth 100000 in
set_option maxHeartbeats 4000000 in
theorem next_any (c : Int) (k : Bool) (w : World) :
    Calls Try.prog 117 #[.int .i64 c, .bool k] w fun e w' => ∃ v, e = .returned v ∧ RI w' w.heap.size v (Sob.next k c) ∧ Below w.heap.size w w' := by
  have ne {l : List Int} (h : l ≠ []) : ((l.length : Int) == 0) = false := beq_eq_false_iff_ne.2 (fun e => h (List.eq_nil_of_length_eq_zero (by omega)))
  by_cases hs : Sob.split c = []
  · by_cases hc : Sob.canon c = []
    · have HN := Aside0.mk (Sob.next_compat k hs hc)
      have S := fun W : World => hangul_Split.calls c [] W (by rw [← hs]; rfl)
      have C := fun W : World => ucd_Canon.calls c [] W (by rw [← hc]; rfl)
      have K := fun W : World => ucd_Compat.calls c _ W rfl
      clear hs hc ne
      go_enter Try.func117, Try.ntmps117
      cases k with
      | true =>
        go_wp2_with (first | (go_at_call 56; refine (S _).mono ?_; rintro e w1 ⟨v1, rfl, hr1, hb1⟩; obtain ⟨A1, c1, rfl⟩ := Kd.R_slice hr1; clear hr1; replace hb1 := Aside0.mk hb1; simp only [List.length_nil]) | (go_at_call 55; refine (C _).mono ?_; rintro e w2 ⟨v2, rfl, hr2, hb2⟩; obtain ⟨A2, c2, rfl⟩ := Kd.R_slice hr2; clear hr2; replace hb2 := Aside0.mk hb2; simp only [List.length_nil]) | (go_at_call 129; refine (K _).mono ?_; rintro e w3 ⟨v3, rfl, hr3, hb3⟩; replace hr3 := Aside0.mk hr3; replace hb3 := Aside0.mk hb3))
        go_ret
        have h12 := below_then hb1.out hb1.out.size hb2.out
        exact ⟨v3, rfl, by rw [HN.out]; exact Kd.R_lower hr3.out h12.size, below_then h12 h12.size hb3.out⟩
      | false =>
        go_wp2_with (first | (go_at_call 56; refine (S _).mono ?_; rintro e w1 ⟨v1, rfl, hr1, hb1⟩; obtain ⟨A1, c1, rfl⟩ := Kd.R_slice hr1; clear hr1; replace hb1 := Aside0.mk hb1; simp only [List.length_nil]) | (go_at_call 55; refine (C _).mono ?_; rintro e w2 ⟨v2, rfl, hr2, hb2⟩; obtain ⟨A2, c2, rfl⟩ := Kd.R_slice hr2; replace hr2 := Aside0.mk hr2; replace hb2 := Aside0.mk hb2; simp only [List.length_nil]))
        go_ret
        have h12 := below_then hb1.out hb1.out.size hb2.out
        exact ⟨_, rfl, by rw [HN.out]; exact Kd.R_lower hr2.out hb1.out.size, h12⟩
    · have HN := Aside0.mk (Sob.next_canon k hs hc)
      have S := fun W : World => hangul_Split.calls c [] W (by rw [← hs]; rfl)
      have C := fun W : World => ucd_Canon.calls c (Sob.canon c) W rfl
      obtain ⟨l, hl⟩ : ∃ l, l = Sob.canon c := ⟨_, rfl⟩
      rw [← hl] at C HN hc
      have hnb := ne hc
      clear hs hc ne hl
      go_enter Try.func117, Try.ntmps117
      go_wp2_with (first | (go_at_call 56; refine (S _).mono ?_; rintro e w1 ⟨v1, rfl, hr1, hb1⟩; obtain ⟨A1, c1, rfl⟩ := Kd.R_slice hr1; clear hr1; replace hb1 := Aside0.mk hb1; simp only [List.length_nil]) | (go_at_call 55; refine (C _).mono ?_; rintro e w2 ⟨v2, rfl, hr2, hb2⟩; obtain ⟨A2, c2, rfl⟩ := Kd.R_slice hr2; replace hr2 := Aside0.mk hr2; replace hb2 := Aside0.mk hb2))
      go_ret
      have h12 := below_then hb1.out hb1.out.size hb2.out
      exact ⟨_, rfl, by rw [HN.out]; exact Kd.R_lower hr2.out hb1.out.size, h12⟩
  · have HN := Aside0.mk (Sob.next_split k hs)
    have S := fun W : World => hangul_Split.calls c (Sob.split c) W rfl
    obtain ⟨l, hl⟩ : ∃ l, l = Sob.split c := ⟨_, rfl⟩
    rw [← hl] at S HN hs
    have hnb := ne hs
    clear hs ne hl
    go_enter Try.func117, Try.ntmps117
    go_wp2_with (go_at_call 56; refine (S _).mono ?_; rintro e w1 ⟨v1, rfl, hr1, hb1⟩; obtain ⟨A1, c1, rfl⟩ := Kd.R_slice hr1; replace hr1 := Aside0.mk hr1; replace hb1 := Aside0.mk hb1)
    go_ret
    exact ⟨_, rfl, by rw [HN.out]; exact hr1.out, hb1.out⟩

theorem RI.at_block_ {w : World} {base : Nat} {v : Value} {xs : List Int} (h : RI w base v xs) (h0 : 0 < xs.length) : ∃ g cap, v = .slice (some ⟨g, 0, none⟩) xs.length cap := by
  obtain ⟨k, hk⟩ : ∃ k, xs.length = k + 1 := ⟨xs.length - 1, by omega⟩
  have := h.own
  rw [hk] at this ⊢
  exact ownsRow_succ this
/-- A block that no round turns. -/
def Held (b : Nat) (W : World) (i : Nat) (u : Value) (t : TypeId) : Prop := W.heap[i]? = some (.cells #[u] t (0, 0)) ∧ i ≠ b ∧ ob b W ≠ some i
theorem Held.keeps {b i : Nat} {u : Value} {t : TypeId} {A B : World} (h : Held b A i u t) (k : KpO b A B) : Held b B i u t := by
  obtain ⟨h1, h2, h3⟩ := h
  refine ⟨(k.2.2 i _ _ _ h1 h2 h3).trans h1, h2, fun e => ?_⟩
  rcases k.2.1 i e with e1 | e1
  · exact h3 e1
  · have := (Array.getElem?_eq_some_iff.1 h1).1; omega
theorem Held.cell {b i : Nat} {u : Value} {t : TypeId} {W : World} (h : Held b W i u t) : W.cell? ⟨i, 0, none⟩ = some u := by
  unfold World.cell?
  rw [h.1]
  rfl
theorem below_mid {wr w1 w2 : World} {o : Obj} (hb1 : Below wr.heap.size wr w1) (hb2 : Below (w1.alloc o).heap.size (w1.alloc o) w2) : Below wr.heap.size wr w2 := below_then (hb1.alloc hb1.size _) (by have := hb1.size; simp; omega) hb2
theorem RI.mid {wr w1 w2 : World} {o : Obj} {v : Value} {xs : List Int} (hb1 : Below wr.heap.size wr w1) (hr : RI w2 (w1.alloc o).heap.size v xs) : RI w2 wr.heap.size v xs := Kd.R_lower hr (by have := hb1.size; simp; omega)
theorem rows_two {W : World} {A1 A2 : Option Addr} {c1 c2 : Nat} {l1 l2 : List Int} (t : TypeId) (h1 : CI W A1 l1.length l1) (h2 : CI W A2 l2.length l2) :
    RowsAt (W.alloc (.cells #[.slice A1 l1.length c1, .slice A2 l2.length c2] t)) W.heap.size 0 [l1, l2] := by
  intro j hj
  have hb : Below W.heap.size W (W.alloc (.cells #[.slice A1 l1.length c1, .slice A2 l2.length c2] t)) := (Below.refl _ _).alloc (Nat.le_refl _) _
  match j, hj with
  | 0, _ => exact ⟨A1, c1, by simp, Kd.C_below h1 hb⟩
  | 1, _ => exact ⟨A2, c2, by simp, Kd.C_below h2 hb⟩

set_option maxRecDepth 100000 in
theorem parts_in (n : Nat) (c : Int) (k : Bool) (w : World) :
    CallsIn Fence.wide n Try.prog 90 #[.int .i64 c, .bool k] w fun e w' => e = .returned (.func (.func 116) #[] #[.pointer (some ⟨w.heap.size, 0, none⟩), .pointer (some ⟨w.heap.size + 1, 0, none⟩)]) ∧ w' = (w.alloc (.cells #[.int .i64 c] 3)).alloc (.cells #[.bool k] 4) := by
  refine callsIn_of_wp Try.func90 rfl trivial ?_ rfl
  simp only [Try.ntmps90, List.size_toArray, List.length_cons, List.length_nil, Nat.reduceAdd, Nat.reduceSub, Array.replicate_succ, Array.replicate_zero, List.push_toArray, List.append_toArray, List.nil_append, List.cons_append]
  gi_wp2
  go_ret
  exact ⟨rfl, rfl⟩

set_option maxRecDepth 100000 in
set_option maxHeartbeats 8000000 in
theorem parts1_in (n : Nat) (hn : 1 ≤ n) (l Bc Bk Bo : Nat) (w0 : World) (c : Int) (k : Bool) (J Jx : List Int → World → Prop) (W : World) (hJ : AbidesFrom W.heap.size J) (hW : Below w0.heap.size w0 W) (hok : okO Bo W)
    (hY : ∀ pre x W1, J pre W1 → pre.length < 512 → YieldAt Fence.wide (n - 1) Try.prog l #[.int .i64 x] W1 fun e W' =>
      (e = .returned (.bool true) ∧ J (pre ++ [x]) W' ∧ (Below w0.heap.size W1 W' ∧ KpO Bo W1 W')) ∨ (e = .returned (.bool false) ∧ Jx (pre ++ [x]) W'))
    (hBc : W.cell? ⟨Bc, 0, none⟩ = some (.int .i64 c)) (hBk : Held Bo W Bk (.bool k) 4) (h0 : J [] W) :
    CallsIn Fence.wide n Try.prog 116 #[.func (.yield l) #[] #[], .pointer (some ⟨Bc, 0, none⟩), .pointer (some ⟨Bk, 0, none⟩)] W fun e W' => (∃ v, e = .returned v) ∧
      ((∃ ys, ys = Sob.dec k c ∧ J ys W') ∨ (∃ pre : List Int, True ∧ Jx pre W')) := by
  have HB0 := Aside0.mk hBk
  have HW0 := Aside0.mk hW
  have HK0 := Aside0.mk hok
  have HL := Aside0.mk (RI.lit W W.heap.size [c] (Nat.le_refl _) (by simp))
  have HJ0 := Aside0.mk h0
  clear hBk hW hok h0
  refine callsIn_of_wp Try.func116 rfl trivial ?_ rfl
  simp only [Try.ntmps116, List.size_toArray, List.length_cons, List.length_nil, Nat.reduceAdd, Nat.reduceSub, Array.replicate_succ, Array.replicate_zero, List.push_toArray, List.append_toArray, List.nil_append, List.cons_append]
  gi_wp2
  gi_loopg [4] (Sob.wts k [c]) (fun gg v wr => ∃ (pre todo : List Int) (A1 : Option Addr) (cc : Nat), v = .slice A1 todo.length cc ∧ Aside0 (gg = Sob.wts k todo) ∧ Aside0 (J pre wr) ∧ Aside0 (pre ++ Sob.decAll k todo = Sob.dec k c) ∧ Aside0 (RI wr W.heap.size (.slice A1 todo.length cc) todo ∧ Safe Bo wr (.slice A1 todo.length cc)) ∧ Aside0 (Held Bo wr Bk (.bool k) 4) ∧ Aside0 (Below w0.heap.size w0 wr ∧ okO Bo wr ∧ W.heap.size ≤ wr.heap.size))
  case atStart =>
    have hbl : Below W.heap.size W (W.alloc (.cells #[.int .i64 c] 3)) := (Below.refl _ W).alloc (Nat.le_refl _) _
    refine ⟨[], [c], _, 1, rfl, ⟨rfl⟩, ⟨hJ _ _ _ none HJ0.out (grown_of_below hbl none) (fun r e => by cases e)⟩, ⟨by simp [Sob.decAll]⟩, ⟨HL.out, RI.safe HK0.out hbl HL.out⟩, ⟨?_⟩, ⟨below_then HW0.out HW0.out.size hbl, HK0.out.below hbl, hbl.size⟩⟩
    exact HB0.out.keeps (KpO.below HK0.out hbl)
  case round =>
    obtain ⟨pre, todo, A1, cc, rfl, HG, HJ, HD, HR, HBk, HN⟩ := hrel
    rcases todo with _ | ⟨x, rest⟩
    · have e : pre = Sob.dec k c := by have := HD.out; simpa [Sob.decAll] using this
      gi_wp2
      go_end0
      exact ⟨⟨_, rfl⟩, .inl ⟨_, e, HJ.out⟩⟩
    · obtain ⟨g, cap, hvv⟩ := RI.at_block_ HR.out.1 (by simp)
      obtain ⟨rfl, rfl⟩ : A1 = some ⟨g, 0, none⟩ ∧ cc = cap := by cases hvv; exact ⟨rfl, rfl⟩
      clear hvv
      have hci := (Kd.R_reads' HR.out.1).2.2
      have hcc := (Kd.R_reads' HR.out.1).2.1
      obtain ⟨ad, e2, hcx⟩ := Kd.at_int hci 0 (by omega) (by simp only [List.length_cons]; omega)
      cases e2
      have hx : rd (x :: rest) 0 = x := rfl
      rw [hx] at hcx
      have hcx2 : wr.cell? ⟨g, 0, none⟩ = some (.int .i64 x) := by simpa [add_plain] using hcx
      have hck := HBk.out.cell
      have hdl := Sob.dec_len k c
      have hlen : pre.length + (Sob.decAll k (x :: rest)).length ≤ 512 := by rw [← List.length_append, HD.out]; exact hdl
      have hpos := Sob.decAll_pos k (x :: rest)
      have hcons : (x :: rest).length = rest.length + 1 := List.length_cons
      have hC2 := Kd.C_drop (m := 1) (c := cc) hci (by omega) hcc
      rw [show (x :: rest).drop 1 = rest from rfl] at hC2
      have key : (cc - 1 = 0 ∧ CI wr (some ⟨g, 0, none⟩) rest.length rest) ∨ (¬ cc - 1 = 0 ∧ CI wr (some ⟨g, 1, none⟩) rest.length rest) := by
        by_cases q : cc = 1
        · rw [if_pos q] at hC2
          exact .inl ⟨by omega, hC2⟩
        · rw [if_neg q] at hC2
          exact .inr ⟨by omega, hC2⟩
      have hcc1 : 1 ≤ cc := by omega
      have hr1 : rest.length ≤ 512 := by omega
      have hp1 : pre.length < 512 := by omega
      clear hcx hx hci hC2 hlen hdl hpos hcons hcc
      have hni : 0 < (((x :: rest).length : Nat) : Int) := by simp only [List.length_cons]; omega
      have hn1 : 1 ≤ (x :: rest).length := by simp only [List.length_cons]; omega
      have hn2 : (x :: rest).length - 1 = rest.length := by simp only [List.length_cons]; omega
      obtain ⟨N, hN⟩ : ∃ N, N = (x :: rest).length := ⟨_, rfl⟩
      rw [← hN] at hni hn1 hn2
      rw [← hN]
      clear hN
      have hxl : (Sob.next k x).length ≤ 8 := Sob.next_len k x
      have HX8 := Aside0.mk hxl
      have HR512 := Aside0.mk hr1
      have HP1 := Aside0.mk hp1
      clear hxl hr1 hp1
      have JB : ∀ W2, Below wr.heap.size wr W2 → J pre W2 := fun W2 hB => hJ _ _ _ none HJ.out (grown_of_below hB none) (fun r e => by cases e)
      by_cases hnx : Sob.next k x = []
      · have HNX := Aside0.mk hnx
        clear hnx
        rcases key with ⟨hcap, hrest⟩ | ⟨hcap, hrest⟩
        all_goals
          replace hrest := Aside0.mk hrest
          gi_wp2_with (refine ⟨trivial, ?_⟩; first | (gi_at_call 117; refine (callsIn_wide.2 (next_any x k _)).mono ?_; rintro e w1 ⟨v1, rfl, hr1, hb1⟩; rw [HNX.out] at hr1; obtain ⟨A1, c1, rfl⟩ := Kd.R_slice hr1; replace hr1 := Aside0.mk hr1; replace hb1 := Aside0.mk hb1; simp only [List.length_nil]) | (gi_at_call 106; refine (callsIn_wide.2 (concat_any [[], rest] _ 2 _ (.inr ⟨_, 0, rfl, rows_two _ (Kd.R_reads' hr1.out).2.2 (Kd.C_below hrest.out hb1.out)⟩) ?aL ?aF)).mono ?_; (case aL => simp); (case aF => simp; have := HR512.out; omega); rintro e w2 ⟨v2, rfl, hr2, hb2⟩; rw [show [[], rest].flatten = rest from by simp] at hr2; obtain ⟨A2, c2, rfl⟩ := Kd.R_slice hr2; have hri := Aside0.mk (RI.mid hb1.out hr2); have hB := Aside0.mk (below_mid hb1.out hb2); clear hr2 hb2 hr1 hb1; obtain ⟨fn, tmps, assign, body, hy, hR2⟩ := hY pre x _ (JB _ hB.out) HP1.out))
          refine hR2.mono ?_
          rintro e W3 (⟨rfl, hJ3, hk3, hk4⟩ | ⟨rfl, hJx3⟩)
          · have HJ3 := Aside0.mk hJ3
            have H3 := Aside0.mk hk3
            have H4 := Aside0.mk hk4
            clear hJ3 hk3 hk4
            gi_wp2
            gi_roundg (Sob.wts k rest)
            case measure =>
              have := Sob.wts_step k x rest
              rw [HNX.out, List.nil_append] at this
              rw [HG.out]
              omega
            case rel =>
              have hs := RI.safe HN.out.2.1 hB.out hri.out
              have hk := RI.keeps H4.out hs hri.out
              refine ⟨pre ++ [x], rest, A2, c2, rfl, ⟨rfl⟩, HJ3, ⟨?_⟩, ⟨Kd.R_lower hk.1 HN.out.2.2, hk.2⟩, ⟨(HBk.out.keeps (KpO.below HN.out.2.1 hB.out)).keeps H4.out⟩, ⟨(below_then HN.out.1 HN.out.1.size hB.out).trans H3.out, H4.out.ok (HN.out.2.1.below hB.out), Nat.le_trans HN.out.2.2 (Nat.le_trans hB.out.size H4.out.1)⟩⟩
              have := HD.out
              rw [Sob.decAll_cons, Sob.dec_stop k HNX.out] at this
              rw [← this]
              simp
          · have HJx3 := Aside0.mk hJx3
            clear hJx3
            gi_wp2
            refine bodyPost_ret (results_none rfl _ _ _) rfl ?_
            exact ⟨⟨_, rfl⟩, .inr ⟨_, trivial, HJx3.out⟩⟩
      · have hnb : (((Sob.next k x).length : Int) == 0) = false := beq_eq_false_iff_ne.2 (fun e => hnx (List.eq_nil_of_length_eq_zero (by omega)))
        have HST := Aside0.mk (Sob.decAll_step k x rest hnx)
        clear hnx
        obtain ⟨ys, hys⟩ : ∃ ys, ys = Sob.next k x := ⟨_, rfl⟩
        rw [← hys] at hnb HX8 HST
        have HYS := Aside0.mk hys
        clear hys
        rcases key with ⟨hcap, hrest⟩ | ⟨hcap, hrest⟩
        all_goals
          replace hrest := Aside0.mk hrest
          gi_wp2_with (refine ⟨trivial, ?_⟩; first | (gi_at_call 117; refine (callsIn_wide.2 (next_any x k _)).mono ?_; rintro e w1 ⟨v1, rfl, hr1, hb1⟩; rw [← HYS.out] at hr1; obtain ⟨A1, c1, rfl⟩ := Kd.R_slice hr1; replace hr1 := Aside0.mk hr1; replace hb1 := Aside0.mk hb1) | (gi_at_call 106; refine (callsIn_wide.2 (concat_any [ys, rest] _ 2 _ (.inr ⟨_, 0, rfl, rows_two _ (Kd.R_reads' hr1.out).2.2 (Kd.C_below hrest.out hb1.out)⟩) ?aL ?aF)).mono ?_; (case aL => simp); (case aF => simp; have := HR512.out; have := HX8.out; omega); rintro e w2 ⟨v2, rfl, hr2, hb2⟩; rw [show [ys, rest].flatten = ys ++ rest from by simp] at hr2; obtain ⟨A2, c2, rfl⟩ := Kd.R_slice hr2; replace hr2 := Aside0.mk hr2; replace hb2 := Aside0.mk hb2))
          have hB : Below wr.heap.size wr w2 := below_mid hb1.out hb2.out
          have hri : RI w2 wr.heap.size (.slice A2 (ys ++ rest).length c2) (ys ++ rest) := RI.mid hb1.out hr2.out
          refine ⟨fun f h => (by cases h), ?_⟩
          gi_wp2
          gi_roundg (Sob.wts k (ys ++ rest))
          case measure => rw [HG.out, HYS.out]; have := Sob.wts_step k x rest; omega
          case rel => exact ⟨pre, ys ++ rest, A2, c2, by rw [List.length_append], ⟨rfl⟩, ⟨JB _ hB⟩, ⟨by rw [← HST.out]; exact HD.out⟩, ⟨Kd.R_lower hri HN.out.2.2, RI.safe HN.out.2.1 hB hri⟩, ⟨HBk.out.keeps (KpO.below HN.out.2.1 hB)⟩, ⟨below_then HN.out.1 HN.out.1.size hB, HN.out.2.1.below hB, Nat.le_trans HN.out.2.2 hB.size⟩⟩

/-- The iterator that parts hands back, for a loop that collects into box Bo. -/
theorem parts_stops (n : Nat) (hn : 1 ≤ n) (Bc Bk Bo : Nat) (w0 w : World) (c : Int) (k : Bool) (hW0 : Below w0.heap.size w0 w) (hok : okO Bo w)
    (hlt : Bc < w.heap.size) (hBc : w.cell? ⟨Bc, 0, none⟩ = some (.int .i64 c)) (hBk : Held Bo w Bk (.bool k) 4) :
    SeqStopsK Fence.wide n Try.prog 116 #[.pointer (some ⟨Bc, 0, none⟩), .pointer (some ⟨Bk, 0, none⟩)] (fun x : Int => #[Value.int .i64 x]) (fun P Q => Below w0.heap.size P Q ∧ KpO Bo P Q) (fun ys => ys = Sob.dec k c) (fun _ => True) 512 w := fun l J Jx W hW hJ _ hY h0 =>
  parts1_in n hn l Bc Bk Bo w0 c k J Jx W hJ (hW0.trans (hW.mono hW0.size)) (hok.below hW) hY ((hW.cell (p := ⟨Bc, 0, none⟩) hlt).trans hBc) (hBk.keeps (KpO.below hok hW)) h0

set_option maxRecDepth 100000 in
set_option maxHeartbeats 2000000 in
theorem decOne_in (n : Nat) (hn : 6 ≤ n) (c : Int) (k : Bool) (w : World) :
    CallsIn Fence.wide n Try.prog 119 #[.int .i64 c, .bool k] w fun e W' => ∃ v, e = .returned v ∧ RI W' w.heap.size v (Sob.dec k c) ∧ Below w.heap.size w W' := by
  obtain ⟨Wc, hWc⟩ : ∃ Wc : World, Wc = (w.alloc (.cells #[.int .i64 c] 3)).alloc (.cells #[.bool k] 4) := ⟨_, rfl⟩
  have hsz : Wc.heap.size = w.heap.size + 2 := by rw [hWc]; simp
  have hBw : Below w.heap.size w Wc := by rw [hWc]; exact ((Below.refl _ w).alloc (Nat.le_refl _) _).alloc (by simp) _
  have b1 : Boxed Wc w.heap.size 3 (.int .i64 c) := by rw [hWc]; exact (Boxed.new w 3 (.int .i64 c)).alloc _
  have b2 : Boxed Wc (w.heap.size + 1) 4 (.bool k) := by
    have := Boxed.new (w.alloc (.cells #[.int .i64 c] 3)) 4 (.bool k)
    rw [World.size_alloc] at this
    rw [hWc]
    exact this
  have bN := Boxed.new Wc 22 (.slice none 0 0)
  have hB1 : Below Wc.heap.size Wc (Wc.alloc (.cells #[.slice none 0 0] 22)) := (Below.refl _ Wc).alloc (Nat.le_refl _) _
  have HQ := Aside0.mk (parts_stops (n - 1 - 1 - 1) (by omega) w.heap.size (w.heap.size + 1) Wc.heap.size Wc (Wc.alloc (.cells #[.slice none 0 0] 22)) c k hB1 (okO.nil bN) (by simp; omega) (b1.alloc _).cell ⟨b2.alloc _, by omega, by rw [ob_nil bN]; simp⟩)
  have HR := Aside0.mk (collect_in (n - 1) (by omega) 116 #[.pointer (some ⟨w.heap.size, 0, none⟩), .pointer (some ⟨w.heap.size + 1, 0, none⟩)] (enters_of Try.func116 (by kernel_rfl) rfl) (Sob.dec k c) 512 (by omega) Wc HQ.out)
  have HB := Aside0.mk hBw
  have HW := Aside0.mk hWc
  have HS := Aside0.mk hsz
  have h1 : 1 ≤ n := by omega
  clear hWc b1 b2 bN hB1 hBw HQ hsz
  refine callsIn_of_wp Try.func119 rfl trivial ?_ rfl
  simp only [Try.ntmps119, List.size_toArray, List.length_cons, List.length_nil, Nat.reduceAdd, Nat.reduceSub, Array.replicate_succ, Array.replicate_zero, List.push_toArray, List.append_toArray, List.nil_append, List.cons_append]
  gi_wp2_with (refine ⟨trivial, ?_⟩; gi_at_call 90; refine (parts_in _ _ _ _).mono ?_; rintro e w' ⟨rfl, hw⟩; have hw2 : w' = Wc := hw.trans HW.out.symm; clear hw; subst hw2)
  gi_wp2_with (refine ⟨trivial, ?_⟩; gi_at_call 70; refine HR.out.mono ?_; rintro e w' ⟨v, rfl, hr, hb⟩; replace hr := Aside0.mk hr; replace hb := Aside0.mk hb)
  go_ret
  exact ⟨v, rfl, Kd.R_lower hr.out (by have := HS.out; omega), HB.out.trans (hb.out.mono (by have := HS.out; omega))⟩

def decomp_One.f (a0 : Int) (b0 : Bool) : Option (List Int) := some (Sob.dec b0 a0)
theorem decomp_One.calls (a0 : Int) (b1 : Bool) (r : List Int) (w : World) (h : decomp_One.f a0 b1 = some r) :
    Calls Try.prog 119 #[.int .i64 a0, .bool b1] w fun e w' => ∃ v0_ : Value, e = .returned (v0_) ∧ Kd.R (Kd.int .i64) 3 w' w.heap.size (fun _ => True) v0_ r ∧ Below w.heap.size w w' := by
  obtain rfl := Option.some.inj h
  exact callsIn_wide.1 (decOne_in 6 (Nat.le_refl _) a0 b1 w)

end Go.Proofs.Ytjolmhokeceljaa.Own
