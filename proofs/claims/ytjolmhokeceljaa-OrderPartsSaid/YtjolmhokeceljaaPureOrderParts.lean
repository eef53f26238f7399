/-
  The pure statement of OrderParts is proved: for all two lists of at most 200 numbers, the second one empty or beginning with a number of class 0, Put of both side by side is what Put makes of each, side by side.
-/
import Derived.Test.YtjolmhokeceljaaLo3
import Derived.Test.YtjolmhokeceljaaSob
namespace Go.Proofs.Ytjolmhokeceljaa.Pure
open Go.RowKit Go.Proofs.Ytjolmhokeceljaa.Own Go.Proofs.Ytjolmhokeceljaa.Lo Go.Proofs.YtjolmhokeceljaaW.PrintWords Go.Proofs.YtjolmhokeceljaaW.PrintLast

theorem parts_wakes : sobriquetlaw09_wakes.f = some true := by kernel_rfl
theorem parts_put (l : List Int) (h : l.length ≤ 1000000) : order_Put.f l = some (Sob.put l) := if_pos h
theorem parts_skip (k : Nat) (a b : List Int) : sobriquetlaw09_OrderParts.j0 (k + 1) a b true = some true := by
  rw [sobriquetlaw09_OrderParts.j0, if_pos rfl]
theorem parts_go (k : Nat) (a b : List Int) (ha : a.length ≤ 200) (hb : b.length ≤ 200) (h : Sob.Zh b) : sobriquetlaw09_OrderParts.j0 (k + 1) a b false = some true := by
  have e1 : sobriquetkeep_TwinInts.f a = some a := if_pos (by omega)
  have p1 := Sob.put_len a
  have p2 := Sob.put_len b
  rw [sobriquetlaw09_OrderParts.j0, if_neg (by simp), e1, Option.bind_some, if_pos (by omega), parts_put _ (by rw [List.length_append]; omega), Option.bind_some, parts_put a (by omega), Option.bind_some, parts_put b (by omega), Option.bind_some, if_pos (by omega), Sob.put_append h]
  unfold sobriquetkeep_Ints.f
  rw [Option.bind_some, decide_eq_true rfl, if_pos rfl, parts_wakes]
  rfl

theorem OrderParts : sobriquetlaw09_OrderParts.Pure := by
  intro a b _ _ _ _ _ _
  refine ⟨1, ?_⟩
  unfold sobriquetlaw09_OrderParts.f
  by_cases h0 : (a.length : Int) > 200
  · rw [if_pos h0, parts_skip]
  rw [if_neg h0]
  by_cases h1 : (b.length : Int) > 200
  · rw [if_pos h1, parts_skip]
  rw [if_neg h1]
  cases b with
  | nil =>
    rw [if_neg (by simp)]
    exact parts_go 0 a [] (by omega) (by simp) (fun x hx => by cases hx)
  | cons x b =>
    have hl : (0 : Int) < ((x :: b).length : Int) := by simp only [List.length_cons]; omega
    rw [if_pos hl, if_pos hl]
    have e : rd (x :: b) 0 = x := rfl
    rw [e]
    unfold ucd_Class.f
    rw [Option.bind_some]
    by_cases hx : Sob.cls x = 0
    · rw [hx]
      exact parts_go 0 a (x :: b) (by omega) (by omega) (fun y hy => by simp at hy; rw [← hy]; exact hx)
    · rw [show (Sob.cls x != 0) = true by simpa using hx]
      exact parts_skip 0 a _

end Go.Proofs.Ytjolmhokeceljaa.Pure
