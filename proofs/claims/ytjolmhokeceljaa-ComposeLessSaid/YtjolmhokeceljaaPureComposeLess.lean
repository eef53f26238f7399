/-
  The pure statement of ComposeLess is proved: for all lists of at most 200 numbers composing them in canonical order gives at most as many, which come apart, in order, to what the others do.
-/
import Derived.Test.YtjolmhokeceljaaLk
namespace Go.Proofs.Ytjolmhokeceljaa.Pure
open Go.RowKit Go.Proofs.Ytjolmhokeceljaa.Own Go.Proofs.Ytjolmhokeceljaa.Lk Go.Proofs.YtjolmhokeceljaaW.PrintWords Go.Proofs.YtjolmhokeceljaaW.PrintLast

theorem less_wakes : sobriquetlaw10_wakes.f = some true := by kernel_rfl
theorem ComposeLess : sobriquetlaw10_ComposeLess.Pure := by
  intro s _ _ _
  unfold sobriquetlaw10_ComposeLess.f
  by_cases h0 : (s.length : Int) > 200
  · rw [if_pos h0]
  rw [if_neg h0]
  have hp := Sob.put_len s
  have hc := Sob.compose_len (Sob.put s)
  have d1 := Sob.decAll_len false (Sob.compose (Sob.put s))
  have d2 := Sob.decAll_len false (Sob.put s)
  have e1 : order_Put.f s = some (Sob.put s) := if_pos (by omega)
  have e2 : compose_All.f (Sob.put s) = some (Sob.compose (Sob.put s)) := if_pos (by omega)
  have e3 : decomp_All.f (Sob.compose (Sob.put s)) false = some (Sob.decAll false (Sob.compose (Sob.put s))) := if_pos (by omega)
  have e4 : order_Put.f (Sob.decAll false (Sob.compose (Sob.put s))) = some (Sob.put (Sob.decAll false (Sob.compose (Sob.put s)))) := if_pos (by omega)
  have e5 : decomp_All.f (Sob.put s) false = some (Sob.decAll false (Sob.put s)) := if_pos (by omega)
  have e6 : order_Put.f (Sob.decAll false (Sob.put s)) = some (Sob.put (Sob.decAll false (Sob.put s))) := if_pos (by omega)
  have e7 : Sob.put (Sob.decAll false (Sob.compose (Sob.put s))) = Sob.put (Sob.decAll false (Sob.put s)) := Sob.put_congr (Sob.compose_eqv false (Sob.put_order s))
  rw [e1, Option.bind_some, e2, Option.bind_some, if_pos (by omega), e3, Option.bind_some, e4, Option.bind_some, e5, Option.bind_some, e6, Option.bind_some, e7]
  unfold sobriquetkeep_Ints.f
  rw [decide_eq_true rfl, Option.bind_some, if_pos rfl, less_wakes]
  rfl

end Go.Proofs.Ytjolmhokeceljaa.Pure
