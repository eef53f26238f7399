/-
  The pure model: what the functions of the packages ucd, hangul, decomp, order, compose, norm, fold and prep compute, over lists of integers; no program in sight.
-/
import Derived.Test.YtjolmhokeceljaaTab
namespace Go.Proofs.Ytjolmhokeceljaa.Sob

/-- The value of the first range that has c; 0 if there is none. -/
def lookR : List (Int × Int × Int) → Int → Int
  | [], _ => 0
  | (f, t, v) :: r, c => if f ≤ c ∧ c ≤ t then v else lookR r c
/-- What the first map from c maps it to. -/
def lookM : List (Int × List Int) → Int → List Int
  | [], _ => []
  | (f, l) :: r, c => if f = c then l else lookM r c
/-- The decomposition of the first entry of c. -/
def lookC : List (Int × Int × Int) → Int → List Int
  | [], _ => []
  | (f, a, b) :: r, c => if f = c then (if b = 0 then [a] else [a, b]) else lookC r c

def scalar (c : Int) : Bool := decide (0 ≤ c ∧ c ≤ 1114111 ∧ ¬ (55296 ≤ c ∧ c ≤ 57343))
def cls (c : Int) : Int := if scalar c then lookR classT c else 0
def assigned (c : Int) : Bool := scalar c && decide (0 < lookR assignedT c)
def nothing (c : Int) : Bool := scalar c && decide (0 < lookR nothingT c)
def space (c : Int) : Bool := scalar c && decide (0 < lookR spacesT c)
def prohibited (c : Int) : Bool := scalar c && decide (0 < lookR prohibT c)
def canon (c : Int) : List Int := lookC canonT c
def compat (c : Int) : List Int := lookM compatT c
def fold (c : Int) : List Int := lookM foldT c
def pairOf (a b : Int) : List (Int × Int × Int) → Option Int
  | [] => none
  | (c, x, y) :: r => if x = a ∧ y = b then some c else pairOf a b r
/-- What two make, out of the entries that compose. -/
def pair (a b : Int) : Option Int := pairOf a b compT

/-! ### hangul -/
def split (c : Int) : List Int :=
  if 44032 ≤ c ∧ c < 55204 then
    [4352 + (c - 44032) / 588, 4449 + (c - 44032) / 28 % 21] ++ (if (c - 44032) % 28 > 0 then [4519 + (c - 44032) % 28] else [])
  else []
def join (a b : Int) : Option Int :=
  if (4352 ≤ a ∧ a < 4371) ∧ (4449 ≤ b ∧ b < 4470) then some (44032 + ((a - 4352) * 21 + b - 4449) * 28)
  else if (44032 ≤ a ∧ a < 55204) ∧ (a - 44032) % 28 = 0 ∧ (4520 ≤ b ∧ b < 4547) then some (a + b - 4519)
  else none

/-! ### decomp -/
def next (k : Bool) (c : Int) : List Int :=
  match split c with
  | [] => match canon c with
    | [] => if k then compat c else []
    | l => l
  | l => l
def decN (k : Bool) : Nat → Int → List Int
  | 0, c => [c]
  | n + 1, c => match next k c with
    | [] => [c]
    | l => l.flatMap (decN k n)
/-- The full decomposition. -/
def dec (k : Bool) (c : Int) : List Int := decN k 3 c
def decAll (k : Bool) (s : List Int) : List Int := s.flatMap (dec k)

/-! ### order -/
/-- No number of a class other than 0 stands behind one of a greater class. -/
def inOrder : List Int → Bool
  | a :: b :: r => (decide (cls b = 0) || decide (cls a ≤ cls b)) && inOrder (b :: r)
  | _ => true

/-! ### compose -/
def two (a b : Int) : Option Int := match join a b with
  | some c => some c
  | none => pair a b
/-- What lies ahead of the last number of class 0; that number; what lies behind it. -/
abbrev CSt := List Int × Option Int × List Int
def crow (t : CSt) : List Int := t.1 ++ (t.2.1.toList ++ t.2.2)
/-- The marks behind the letter block a number of class k. -/
def blocked (m : List Int) (k : Int) : Bool := match m.getLast? with
  | none => false
  | some b => decide (cls b = 0) || decide (k ≤ cls b)
def cpush (t : CSt) (c : Int) : CSt := if cls c = 0 then (crow t, some c, []) else (t.1, t.2.1, t.2.2 ++ [c])
def cstep (t : CSt) (c : Int) : CSt := match t.2.1 with
  | none => cpush t c
  | some a => if blocked t.2.2 (cls c) then cpush t c else match two a c with
    | some n => (t.1, some n, t.2.2)
    | none => cpush t c
def compose (s : List Int) : List Int := crow (s.foldl cstep ([], none, []))

/-! ### fold -/
def fold1 (c : Int) : List Int := match fold c with
  | [] => [c]
  | l => l
def foldAll (s : List Int) : List Int := s.flatMap fold1

end Go.Proofs.Ytjolmhokeceljaa.Sob
