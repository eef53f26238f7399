/-
  The pure statement of ComposeTwo is proved: for all two numbers composing them alone gives what they make, or both of them.
-/
import Derived.Test.YtjolmhokeceljaaLc2
import Derived.Test.YtjolmhokeceljaaSobComp
namespace Go.Proofs.Ytjolmhokeceljaa.Pure
open Go.RowKit Go.Proofs.Ytjolmhokeceljaa.Own Go.Proofs.Ytjolmhokeceljaa.Lc Go.Proofs.YtjolmhokeceljaaW.PrintWords Go.Proofs.YtjolmhokeceljaaW.PrintLast

theorem compose_wakes : sobriquetlaw10_wakes.f = some true := by kernel_rfl
theorem ints_same (l : List Int) : sobriquetkeep_Ints.f l l = some true := by unfold sobriquetkeep_Ints.f; rw [decide_eq_true rfl]
theorem two_last (a b c : Int) (o : Bool) (x : List Int) (k : Nat) (h : x = if o = true then [c] else [a, b]) : sobriquetlaw10_ComposeTwo.j0 (k + 2) a b c o x c o = some true := by
  simp only [sobriquetlaw10_ComposeTwo.j0, sobriquetlaw10_ComposeTwo.j1]
  rw [if_neg (by simp), show (c != c) = false by simp, if_neg (by simp)]
  cases o with
  | true =>
    rw [if_pos rfl] at h ⊢
    subst h
    rw [ints_same, Option.bind_some, if_pos rfl, compose_wakes]
    rfl
  | false =>
    rw [if_neg (by simp)] at h ⊢
    subst h
    rw [ints_same, Option.bind_some, if_pos rfl, compose_wakes]
    rfl
theorem ComposeTwo : sobriquetlaw10_ComposeTwo.Pure := by
  intro a b _ _
  refine ⟨2, ?_⟩
  unfold sobriquetlaw10_ComposeTwo.f compose_Two.f compose_All.f hangul_Join.f ucd_Pair.f
  rw [Option.bind_some, if_pos (by simp), Option.bind_some, Option.bind_some, Option.bind_some, Sob.compose_two]
  unfold Sob.two
  cases hj : Sob.join a b with
  | some c =>
    rw [if_pos (show (duo (some c)).2 = true from rfl)]
    exact two_last a b c true _ 0 rfl
  | none =>
    rw [if_neg (show ¬ (duo none).2 = true by simp [duo])]
    simp only
    cases hp : Sob.pair a b with
    | some c => exact two_last a b c true _ 0 rfl
    | none => exact two_last a b 0 false _ 0 rfl

end Go.Proofs.Ytjolmhokeceljaa.Pure
