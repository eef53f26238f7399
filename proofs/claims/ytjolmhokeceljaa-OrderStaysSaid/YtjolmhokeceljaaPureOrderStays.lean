/-
  The pure statement of OrderStays is proved: for all lists of at most 200 numbers what Put returns is in order and stays, and Is tells just what Put leaves unchanged (longer ones: the law returns true at once).
-/
import Derived.Test.YtjolmhokeceljaaLo1
import Derived.Test.YtjolmhokeceljaaSob
namespace Go.Proofs.Ytjolmhokeceljaa.Pure
open Go.RowKit Go.Proofs.Ytjolmhokeceljaa.Own Go.Proofs.Ytjolmhokeceljaa.Lo Go.Proofs.YtjolmhokeceljaaW.PrintWords Go.Proofs.YtjolmhokeceljaaW.PrintLast

theorem order_wakes : sobriquetlaw09_wakes.f = some true := by kernel_rfl
theorem put_eq (l : List Int) (h : l.length ≤ 1000000) : order_Put.f l = some (Sob.put l) := if_pos h
theorem is_eq_ (l : List Int) (h : l.length ≤ 1000000) : order_Is.f l = some (Sob.inOrder l) := if_pos h
theorem is_put (s : List Int) : Sob.inOrder s = decide (Sob.put s = s) := by
  cases h : Sob.inOrder s with
  | true => rw [Sob.put_id h]; simp
  | false =>
    have : ¬ Sob.put s = s := fun e => by
      have := Sob.put_order s
      rw [e, h] at this
      cases this
    rw [decide_eq_false this]

theorem OrderStays : sobriquetlaw09_OrderStays.Pure := by
  intro l0 _ _ _
  unfold sobriquetlaw09_OrderStays.f
  by_cases h0 : (l0.length : Int) > 200
  · rw [if_pos h0]
  rw [if_neg h0]
  have hp := Sob.put_len l0
  rw [put_eq l0 (by omega), Option.bind_some, is_eq_ _ (by omega), Option.bind_some, Sob.put_order, if_pos rfl, put_eq _ (by omega), Option.bind_some, Sob.put_put]
  unfold sobriquetkeep_Ints.f
  rw [Option.bind_some, decide_eq_true rfl, if_pos rfl, is_eq_ l0 (by omega), Option.bind_some, Option.bind_some, is_put l0, if_pos (by simp), order_wakes]
  rfl

end Go.Proofs.Ytjolmhokeceljaa.Pure
