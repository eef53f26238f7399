/-
  No cell of these rows narrows 'for every input' (looked for: loops, veiled, ifaces, maps, wideKeys, modest, calm, conditions, laid).
  DERIVED. THE GIVEN ROWS OF THIS SEAT. 23 by the template 'for every input the law returns true; each argument reads behind the call as it read before'; 0 by the template 'total and deterministic' (their statements: YtjolmhokeceljaaTotals.lean).
  GIVEN WITH THE SEED: the statements are not yours to turn. If you find one false, say at which input.
  Laid BY PROGRAM, IN A SANDBOX (cutbox-rows.mjs): the forced cells as the released guide's own fill.sh prints them over the translation a0d7cd7ef40117dd… (all of the seat's roots in one cut). By AI agents, Wed Nov 11 2026. No macro, syntax, notation, axiom, sorry.
-/
import Derived.Test.YtjolmhokeceljaaChecked
import GoSem.Claim
import GoSem.ClaimJoined
import GoSem.ClaimMapViews
import Derived.JoinedTies
import Derived.KernelRfl
namespace Go.Proofs.Ytjolmhokeceljaa
/- THE CELL 'sum', in the pinned program and in every row, IS THE sha256 OF THE DUMP (.gsa) THAT YtjolmhokeceljaaProg.lean LOADS. Nothing in Lean hashes anything: it is a label: what it is worth is what the hold of that sum in a sandbox is worth. -/
noncomputable def Try.pinned : Pinned := { name := "ytjolmhokeceljaa", sum := "a0d7cd7ef40117dde320337b83a0f36ab51491fbca10c31c9d847c3f28a1928e", checked := Try.checked }
namespace Rows
def none {H : Type} : Left H := { results := [], args := [] }

/-- 'sobriquetlaw12.FoldTwice': WHATEVER THE INPUT: true; the input reads as it did. -/
def foldTwiceSpec : ChangeSpec := { name := "foldTwice", fn := fun _ => fun
  | [d1, d2] => { results := [.lit (.bool true)], args := [d1, d2] }
  | _ => none }
def foldTwiceRow : OpenClaim := { program := "ytjolmhokeceljaa", sum := "a0d7cd7ef40117dde320337b83a0f36ab51491fbca10c31c9d847c3f28a1928e", func := "sobriquet/sobriquetlaw12.FoldTwice", spec := "foldTwice", unfollowed := true, recurses := true, apart := false }
def FoldTwiceSaid : Prop := foldTwiceRow.holds Try.pinned (OpenSpec.ofChange foldTwiceSpec)

/-- ITS FALSE NEIGHBOUR: 'it returns false'. Refute it at one input. -/
def foldTwiceWrong : ChangeSpec := { name := "foldTwice", fn := fun _ => fun
  | [d1, d2] => { results := [.lit (.bool false)], args := [d1, d2] }
  | _ => none }
def FoldTwiceWrongFalsely : Prop := foldTwiceRow.holds Try.pinned (OpenSpec.ofChange foldTwiceWrong)

/-- 'sobriquetlaw12.FoldLetters': WHATEVER THE INPUT: true; the input reads as it did. -/
def foldLettersSpec : ChangeSpec := { name := "foldLetters", fn := fun _ => fun
  | [d] => { results := [.lit (.bool true)], args := [d] }
  | _ => none }
def foldLettersRow : OpenClaim := { program := "ytjolmhokeceljaa", sum := "a0d7cd7ef40117dde320337b83a0f36ab51491fbca10c31c9d847c3f28a1928e", func := "sobriquet/sobriquetlaw12.FoldLetters", spec := "foldLetters", unfollowed := true, recurses := true, apart := false }
def FoldLettersSaid : Prop := foldLettersRow.holds Try.pinned (OpenSpec.ofChange foldLettersSpec)

/-- ITS FALSE NEIGHBOUR: 'it returns false'. Refute it at one input. -/
def foldLettersWrong : ChangeSpec := { name := "foldLetters", fn := fun _ => fun
  | [d] => { results := [.lit (.bool false)], args := [d] }
  | _ => none }
def FoldLettersWrongFalsely : Prop := foldLettersRow.holds Try.pinned (OpenSpec.ofChange foldLettersWrong)

/-- 'sobriquetlaw10.ComposeTwo': WHATEVER THE INPUT: true; the input reads as it did. -/
def composeTwoSpec : ChangeSpec := { name := "composeTwo", fn := fun _ => fun
  | [d1, d2] => { results := [.lit (.bool true)], args := [d1, d2] }
  | _ => none }
def composeTwoRow : OpenClaim := { program := "ytjolmhokeceljaa", sum := "a0d7cd7ef40117dde320337b83a0f36ab51491fbca10c31c9d847c3f28a1928e", func := "sobriquet/sobriquetlaw10.ComposeTwo", spec := "composeTwo", apart := false }
def ComposeTwoSaid : Prop := composeTwoRow.holds Try.pinned (OpenSpec.ofChange composeTwoSpec)

/-- ITS FALSE NEIGHBOUR: 'it returns false'. Refute it at one input. -/
def composeTwoWrong : ChangeSpec := { name := "composeTwo", fn := fun _ => fun
  | [d1, d2] => { results := [.lit (.bool false)], args := [d1, d2] }
  | _ => none }
def ComposeTwoWrongFalsely : Prop := composeTwoRow.holds Try.pinned (OpenSpec.ofChange composeTwoWrong)

/-- 'sobriquetlaw10.ComposeOff': WHATEVER THE INPUT: true; the input reads as it did. -/
def composeOffSpec : ChangeSpec := { name := "composeOff", fn := fun _ => fun
  | [d1, d2] => { results := [.lit (.bool true)], args := [d1, d2] }
  | _ => none }
def composeOffRow : OpenClaim := { program := "ytjolmhokeceljaa", sum := "a0d7cd7ef40117dde320337b83a0f36ab51491fbca10c31c9d847c3f28a1928e", func := "sobriquet/sobriquetlaw10.ComposeOff", spec := "composeOff", apart := false }
def ComposeOffSaid : Prop := composeOffRow.holds Try.pinned (OpenSpec.ofChange composeOffSpec)

/-- ITS FALSE NEIGHBOUR: 'it returns false'. Refute it at one input. -/
def composeOffWrong : ChangeSpec := { name := "composeOff", fn := fun _ => fun
  | [d1, d2] => { results := [.lit (.bool false)], args := [d1, d2] }
  | _ => none }
def ComposeOffWrongFalsely : Prop := composeOffRow.holds Try.pinned (OpenSpec.ofChange composeOffWrong)

/-- 'sobriquetlaw12.FoldExact': WHATEVER THE INPUT: true; the input reads as it did. -/
def foldExactSpec : ChangeSpec := { name := "foldExact", fn := fun _ => fun
  | [d1, d2] => { results := [.lit (.bool true)], args := [d1, d2] }
  | _ => none }
def foldExactRow : OpenClaim := { program := "ytjolmhokeceljaa", sum := "a0d7cd7ef40117dde320337b83a0f36ab51491fbca10c31c9d847c3f28a1928e", func := "sobriquet/sobriquetlaw12.FoldExact", spec := "foldExact", unfollowed := true, recurses := true, apart := false }
def FoldExactSaid : Prop := foldExactRow.holds Try.pinned (OpenSpec.ofChange foldExactSpec)

/-- ITS FALSE NEIGHBOUR: 'it returns false'. Refute it at one input. -/
def foldExactWrong : ChangeSpec := { name := "foldExact", fn := fun _ => fun
  | [d1, d2] => { results := [.lit (.bool false)], args := [d1, d2] }
  | _ => none }
def FoldExactWrongFalsely : Prop := foldExactRow.holds Try.pinned (OpenSpec.ofChange foldExactWrong)

/-- 'sobriquetlaw10.ComposeExact': WHATEVER THE INPUT: true; the input reads as it did. -/
def composeExactSpec : ChangeSpec := { name := "composeExact", fn := fun _ => fun
  | [d1, d2, d3] => { results := [.lit (.bool true)], args := [d1, d2, d3] }
  | _ => none }
def composeExactRow : OpenClaim := { program := "ytjolmhokeceljaa", sum := "a0d7cd7ef40117dde320337b83a0f36ab51491fbca10c31c9d847c3f28a1928e", func := "sobriquet/sobriquetlaw10.ComposeExact", spec := "composeExact", apart := false }
def ComposeExactSaid : Prop := composeExactRow.holds Try.pinned (OpenSpec.ofChange composeExactSpec)

/-- ITS FALSE NEIGHBOUR: 'it returns false'. Refute it at one input. -/
def composeExactWrong : ChangeSpec := { name := "composeExact", fn := fun _ => fun
  | [d1, d2, d3] => { results := [.lit (.bool false)], args := [d1, d2, d3] }
  | _ => none }
def ComposeExactWrongFalsely : Prop := composeExactRow.holds Try.pinned (OpenSpec.ofChange composeExactWrong)

/-- 'sobriquetlaw09.OrderStays': WHATEVER THE INPUT: true; the input reads as it did. -/
def orderStaysSpec : ChangeSpec := { name := "orderStays", fn := fun _ => fun
  | [d] => { results := [.lit (.bool true)], args := [d] }
  | _ => none }
def orderStaysRow : OpenClaim := { program := "ytjolmhokeceljaa", sum := "a0d7cd7ef40117dde320337b83a0f36ab51491fbca10c31c9d847c3f28a1928e", func := "sobriquet/sobriquetlaw09.OrderStays", spec := "orderStays", unfollowed := true, recurses := true, apart := false }
def OrderStaysSaid : Prop := orderStaysRow.holds Try.pinned (OpenSpec.ofChange orderStaysSpec)

/-- ITS FALSE NEIGHBOUR: 'it returns false'. Refute it at one input. -/
def orderStaysWrong : ChangeSpec := { name := "orderStays", fn := fun _ => fun
  | [d] => { results := [.lit (.bool false)], args := [d] }
  | _ => none }
def OrderStaysWrongFalsely : Prop := orderStaysRow.holds Try.pinned (OpenSpec.ofChange orderStaysWrong)

/-- 'sobriquetlaw09.OrderKeeps': WHATEVER THE INPUT: true; the input reads as it did. -/
def orderKeepsSpec : ChangeSpec := { name := "orderKeeps", fn := fun _ => fun
  | [d] => { results := [.lit (.bool true)], args := [d] }
  | _ => none }
def orderKeepsRow : OpenClaim := { program := "ytjolmhokeceljaa", sum := "a0d7cd7ef40117dde320337b83a0f36ab51491fbca10c31c9d847c3f28a1928e", func := "sobriquet/sobriquetlaw09.OrderKeeps", spec := "orderKeeps", unfollowed := true, recurses := true, apart := false }
def OrderKeepsSaid : Prop := orderKeepsRow.holds Try.pinned (OpenSpec.ofChange orderKeepsSpec)

/-- ITS FALSE NEIGHBOUR: 'it returns false'. Refute it at one input. -/
def orderKeepsWrong : ChangeSpec := { name := "orderKeeps", fn := fun _ => fun
  | [d] => { results := [.lit (.bool false)], args := [d] }
  | _ => none }
def OrderKeepsWrongFalsely : Prop := orderKeepsRow.holds Try.pinned (OpenSpec.ofChange orderKeepsWrong)

/-- 'sobriquetlaw09.OrderParts': WHATEVER THE INPUT: true; the input reads as it did. -/
def orderPartsSpec : ChangeSpec := { name := "orderParts", fn := fun _ => fun
  | [d1, d2] => { results := [.lit (.bool true)], args := [d1, d2] }
  | _ => none }
def orderPartsRow : OpenClaim := { program := "ytjolmhokeceljaa", sum := "a0d7cd7ef40117dde320337b83a0f36ab51491fbca10c31c9d847c3f28a1928e", func := "sobriquet/sobriquetlaw09.OrderParts", spec := "orderParts", unfollowed := true, recurses := true, apart := false }
def OrderPartsSaid : Prop := orderPartsRow.holds Try.pinned (OpenSpec.ofChange orderPartsSpec)

/-- ITS FALSE NEIGHBOUR: 'it returns false'. Refute it at one input. -/
def orderPartsWrong : ChangeSpec := { name := "orderParts", fn := fun _ => fun
  | [d1, d2] => { results := [.lit (.bool false)], args := [d1, d2] }
  | _ => none }
def OrderPartsWrongFalsely : Prop := orderPartsRow.holds Try.pinned (OpenSpec.ofChange orderPartsWrong)

/-- 'sobriquetlaw09.OrderExact': WHATEVER THE INPUT: true; the input reads as it did. -/
def orderExactSpec : ChangeSpec := { name := "orderExact", fn := fun _ => fun
  | [d] => { results := [.lit (.bool true)], args := [d] }
  | _ => none }
def orderExactRow : OpenClaim := { program := "ytjolmhokeceljaa", sum := "a0d7cd7ef40117dde320337b83a0f36ab51491fbca10c31c9d847c3f28a1928e", func := "sobriquet/sobriquetlaw09.OrderExact", spec := "orderExact", unfollowed := true, recurses := true, apart := false }
def OrderExactSaid : Prop := orderExactRow.holds Try.pinned (OpenSpec.ofChange orderExactSpec)

/-- ITS FALSE NEIGHBOUR: 'it returns false'. Refute it at one input. -/
def orderExactWrong : ChangeSpec := { name := "orderExact", fn := fun _ => fun
  | [d] => { results := [.lit (.bool false)], args := [d] }
  | _ => none }
def OrderExactWrongFalsely : Prop := orderExactRow.holds Try.pinned (OpenSpec.ofChange orderExactWrong)

/-- 'sobriquetlaw10.ComposeLess': WHATEVER THE INPUT: true; the input reads as it did. -/
def composeLessSpec : ChangeSpec := { name := "composeLess", fn := fun _ => fun
  | [d] => { results := [.lit (.bool true)], args := [d] }
  | _ => none }
def composeLessRow : OpenClaim := { program := "ytjolmhokeceljaa", sum := "a0d7cd7ef40117dde320337b83a0f36ab51491fbca10c31c9d847c3f28a1928e", func := "sobriquet/sobriquetlaw10.ComposeLess", spec := "composeLess", unfollowed := true, recurses := true, apart := false }
def ComposeLessSaid : Prop := composeLessRow.holds Try.pinned (OpenSpec.ofChange composeLessSpec)

/-- ITS FALSE NEIGHBOUR: 'it returns false'. Refute it at one input. -/
def composeLessWrong : ChangeSpec := { name := "composeLess", fn := fun _ => fun
  | [d] => { results := [.lit (.bool false)], args := [d] }
  | _ => none }
def ComposeLessWrongFalsely : Prop := composeLessRow.holds Try.pinned (OpenSpec.ofChange composeLessWrong)

/-- 'sobriquetlaw12.FoldMarks': WHATEVER THE INPUT: true; the input reads as it did. -/
def foldMarksSpec : ChangeSpec := { name := "foldMarks", fn := fun _ => fun
  | [d1, d2] => { results := [.lit (.bool true)], args := [d1, d2] }
  | _ => none }
def foldMarksRow : OpenClaim := { program := "ytjolmhokeceljaa", sum := "a0d7cd7ef40117dde320337b83a0f36ab51491fbca10c31c9d847c3f28a1928e", func := "sobriquet/sobriquetlaw12.FoldMarks", spec := "foldMarks", unfollowed := true, recurses := true, apart := false }
def FoldMarksSaid : Prop := foldMarksRow.holds Try.pinned (OpenSpec.ofChange foldMarksSpec)

/-- ITS FALSE NEIGHBOUR: 'it returns false'. Refute it at one input. -/
def foldMarksWrong : ChangeSpec := { name := "foldMarks", fn := fun _ => fun
  | [d1, d2] => { results := [.lit (.bool false)], args := [d1, d2] }
  | _ => none }
def FoldMarksWrongFalsely : Prop := foldMarksRow.holds Try.pinned (OpenSpec.ofChange foldMarksWrong)

/-- 'sobriquetlaw11.NormTwice': WHATEVER THE INPUT: true; the input reads as it did. -/
def normTwiceSpec : ChangeSpec := { name := "normTwice", fn := fun _ => fun
  | [d1, d2] => { results := [.lit (.bool true)], args := [d1, d2] }
  | _ => none }
def normTwiceRow : OpenClaim := { program := "ytjolmhokeceljaa", sum := "a0d7cd7ef40117dde320337b83a0f36ab51491fbca10c31c9d847c3f28a1928e", func := "sobriquet/sobriquetlaw11.NormTwice", spec := "normTwice", unfollowed := true, recurses := true, apart := false }
def NormTwiceSaid : Prop := normTwiceRow.holds Try.pinned (OpenSpec.ofChange normTwiceSpec)

/-- ITS FALSE NEIGHBOUR: 'it returns false'. Refute it at one input. -/
def normTwiceWrong : ChangeSpec := { name := "normTwice", fn := fun _ => fun
  | [d1, d2] => { results := [.lit (.bool false)], args := [d1, d2] }
  | _ => none }
def NormTwiceWrongFalsely : Prop := normTwiceRow.holds Try.pinned (OpenSpec.ofChange normTwiceWrong)

/-- 'sobriquetlaw11.NormQuick': WHATEVER THE INPUT: true; the input reads as it did. -/
def normQuickSpec : ChangeSpec := { name := "normQuick", fn := fun _ => fun
  | [d1, d2, d3] => { results := [.lit (.bool true)], args := [d1, d2, d3] }
  | _ => none }
def normQuickRow : OpenClaim := { program := "ytjolmhokeceljaa", sum := "a0d7cd7ef40117dde320337b83a0f36ab51491fbca10c31c9d847c3f28a1928e", func := "sobriquet/sobriquetlaw11.NormQuick", spec := "normQuick", unfollowed := true, recurses := true, apart := false }
def NormQuickSaid : Prop := normQuickRow.holds Try.pinned (OpenSpec.ofChange normQuickSpec)

/-- ITS FALSE NEIGHBOUR: 'it returns false'. Refute it at one input. -/
def normQuickWrong : ChangeSpec := { name := "normQuick", fn := fun _ => fun
  | [d1, d2, d3] => { results := [.lit (.bool false)], args := [d1, d2, d3] }
  | _ => none }
def NormQuickWrongFalsely : Prop := normQuickRow.holds Try.pinned (OpenSpec.ofChange normQuickWrong)

/-- 'sobriquetlaw11.NormSame': WHATEVER THE INPUT: true; the input reads as it did. -/
def normSameSpec : ChangeSpec := { name := "normSame", fn := fun _ => fun
  | [d1, d2, d3, d4] => { results := [.lit (.bool true)], args := [d1, d2, d3, d4] }
  | _ => none }
def normSameRow : OpenClaim := { program := "ytjolmhokeceljaa", sum := "a0d7cd7ef40117dde320337b83a0f36ab51491fbca10c31c9d847c3f28a1928e", func := "sobriquet/sobriquetlaw11.NormSame", spec := "normSame", unfollowed := true, recurses := true, apart := false }
def NormSameSaid : Prop := normSameRow.holds Try.pinned (OpenSpec.ofChange normSameSpec)

/-- ITS FALSE NEIGHBOUR: 'it returns false'. Refute it at one input. -/
def normSameWrong : ChangeSpec := { name := "normSame", fn := fun _ => fun
  | [d1, d2, d3, d4] => { results := [.lit (.bool false)], args := [d1, d2, d3, d4] }
  | _ => none }
def NormSameWrongFalsely : Prop := normSameRow.holds Try.pinned (OpenSpec.ofChange normSameWrong)

/-- 'sobriquetlaw11.NormChain': WHATEVER THE INPUT: true; the input reads as it did. -/
def normChainSpec : ChangeSpec := { name := "normChain", fn := fun _ => fun
  | [d] => { results := [.lit (.bool true)], args := [d] }
  | _ => none }
def normChainRow : OpenClaim := { program := "ytjolmhokeceljaa", sum := "a0d7cd7ef40117dde320337b83a0f36ab51491fbca10c31c9d847c3f28a1928e", func := "sobriquet/sobriquetlaw11.NormChain", spec := "normChain", unfollowed := true, recurses := true, apart := false }
def NormChainSaid : Prop := normChainRow.holds Try.pinned (OpenSpec.ofChange normChainSpec)

/-- ITS FALSE NEIGHBOUR: 'it returns false'. Refute it at one input. -/
def normChainWrong : ChangeSpec := { name := "normChain", fn := fun _ => fun
  | [d] => { results := [.lit (.bool false)], args := [d] }
  | _ => none }
def NormChainWrongFalsely : Prop := normChainRow.holds Try.pinned (OpenSpec.ofChange normChainWrong)

/-- 'sobriquetlaw11.NormScalars': WHATEVER THE INPUT: true; the input reads as it did. -/
def normScalarsSpec : ChangeSpec := { name := "normScalars", fn := fun _ => fun
  | [d] => { results := [.lit (.bool true)], args := [d] }
  | _ => none }
def normScalarsRow : OpenClaim := { program := "ytjolmhokeceljaa", sum := "a0d7cd7ef40117dde320337b83a0f36ab51491fbca10c31c9d847c3f28a1928e", func := "sobriquet/sobriquetlaw11.NormScalars", spec := "normScalars", unfollowed := true, recurses := true, apart := false }
def NormScalarsSaid : Prop := normScalarsRow.holds Try.pinned (OpenSpec.ofChange normScalarsSpec)

/-- ITS FALSE NEIGHBOUR: 'it returns false'. Refute it at one input. -/
def normScalarsWrong : ChangeSpec := { name := "normScalars", fn := fun _ => fun
  | [d] => { results := [.lit (.bool false)], args := [d] }
  | _ => none }
def NormScalarsWrongFalsely : Prop := normScalarsRow.holds Try.pinned (OpenSpec.ofChange normScalarsWrong)

/-- 'sobriquetlaw11.NormHangul': WHATEVER THE INPUT: true; the input reads as it did. -/
def normHangulSpec : ChangeSpec := { name := "normHangul", fn := fun _ => fun
  | [d1, d2] => { results := [.lit (.bool true)], args := [d1, d2] }
  | _ => none }
def normHangulRow : OpenClaim := { program := "ytjolmhokeceljaa", sum := "a0d7cd7ef40117dde320337b83a0f36ab51491fbca10c31c9d847c3f28a1928e", func := "sobriquet/sobriquetlaw11.NormHangul", spec := "normHangul", unfollowed := true, recurses := true, apart := false }
def NormHangulSaid : Prop := normHangulRow.holds Try.pinned (OpenSpec.ofChange normHangulSpec)

/-- ITS FALSE NEIGHBOUR: 'it returns false'. Refute it at one input. -/
def normHangulWrong : ChangeSpec := { name := "normHangul", fn := fun _ => fun
  | [d1, d2] => { results := [.lit (.bool false)], args := [d1, d2] }
  | _ => none }
def NormHangulWrongFalsely : Prop := normHangulRow.holds Try.pinned (OpenSpec.ofChange normHangulWrong)

/-- 'sobriquetlaw11.NormExact': WHATEVER THE INPUT: true; the input reads as it did. -/
def normExactSpec : ChangeSpec := { name := "normExact", fn := fun _ => fun
  | [d1, d2, d3] => { results := [.lit (.bool true)], args := [d1, d2, d3] }
  | _ => none }
def normExactRow : OpenClaim := { program := "ytjolmhokeceljaa", sum := "a0d7cd7ef40117dde320337b83a0f36ab51491fbca10c31c9d847c3f28a1928e", func := "sobriquet/sobriquetlaw11.NormExact", spec := "normExact", unfollowed := true, recurses := true, apart := false }
def NormExactSaid : Prop := normExactRow.holds Try.pinned (OpenSpec.ofChange normExactSpec)

/-- ITS FALSE NEIGHBOUR: 'it returns false'. Refute it at one input. -/
def normExactWrong : ChangeSpec := { name := "normExact", fn := fun _ => fun
  | [d1, d2, d3] => { results := [.lit (.bool false)], args := [d1, d2, d3] }
  | _ => none }
def NormExactWrongFalsely : Prop := normExactRow.holds Try.pinned (OpenSpec.ofChange normExactWrong)

/-- 'sobriquetlaw21.PrepSteps': WHATEVER THE INPUT: true; the input reads as it did. -/
def prepStepsSpec : ChangeSpec := { name := "prepSteps", fn := fun _ => fun
  | [d1, d2] => { results := [.lit (.bool true)], args := [d1, d2] }
  | _ => none }
def prepStepsRow : OpenClaim := { program := "ytjolmhokeceljaa", sum := "a0d7cd7ef40117dde320337b83a0f36ab51491fbca10c31c9d847c3f28a1928e", func := "sobriquet/sobriquetlaw21.PrepSteps", spec := "prepSteps", unfollowed := true, recurses := true, apart := false }
def PrepStepsSaid : Prop := prepStepsRow.holds Try.pinned (OpenSpec.ofChange prepStepsSpec)

/-- ITS FALSE NEIGHBOUR: 'it returns false'. Refute it at one input. -/
def prepStepsWrong : ChangeSpec := { name := "prepSteps", fn := fun _ => fun
  | [d1, d2] => { results := [.lit (.bool false)], args := [d1, d2] }
  | _ => none }
def PrepStepsWrongFalsely : Prop := prepStepsRow.holds Try.pinned (OpenSpec.ofChange prepStepsWrong)

/-- 'sobriquetlaw21.PrepNever': WHATEVER THE INPUT: true; the input reads as it did. -/
def prepNeverSpec : ChangeSpec := { name := "prepNever", fn := fun _ => fun
  | [d1, d2, d3, d4] => { results := [.lit (.bool true)], args := [d1, d2, d3, d4] }
  | _ => none }
def prepNeverRow : OpenClaim := { program := "ytjolmhokeceljaa", sum := "a0d7cd7ef40117dde320337b83a0f36ab51491fbca10c31c9d847c3f28a1928e", func := "sobriquet/sobriquetlaw21.PrepNever", spec := "prepNever", unfollowed := true, recurses := true, apart := false }
def PrepNeverSaid : Prop := prepNeverRow.holds Try.pinned (OpenSpec.ofChange prepNeverSpec)

/-- ITS FALSE NEIGHBOUR: 'it returns false'. Refute it at one input. -/
def prepNeverWrong : ChangeSpec := { name := "prepNever", fn := fun _ => fun
  | [d1, d2, d3, d4] => { results := [.lit (.bool false)], args := [d1, d2, d3, d4] }
  | _ => none }
def PrepNeverWrongFalsely : Prop := prepNeverRow.holds Try.pinned (OpenSpec.ofChange prepNeverWrong)

/-- 'sobriquetlaw21.PrepCase': WHATEVER THE INPUT: true; the input reads as it did. -/
def prepCaseSpec : ChangeSpec := { name := "prepCase", fn := fun _ => fun
  | [d1, d2, d3, d4] => { results := [.lit (.bool true)], args := [d1, d2, d3, d4] }
  | _ => none }
def prepCaseRow : OpenClaim := { program := "ytjolmhokeceljaa", sum := "a0d7cd7ef40117dde320337b83a0f36ab51491fbca10c31c9d847c3f28a1928e", func := "sobriquet/sobriquetlaw21.PrepCase", spec := "prepCase", unfollowed := true, recurses := true, apart := false }
def PrepCaseSaid : Prop := prepCaseRow.holds Try.pinned (OpenSpec.ofChange prepCaseSpec)

/-- ITS FALSE NEIGHBOUR: 'it returns false'. Refute it at one input. -/
def prepCaseWrong : ChangeSpec := { name := "prepCase", fn := fun _ => fun
  | [d1, d2, d3, d4] => { results := [.lit (.bool false)], args := [d1, d2, d3, d4] }
  | _ => none }
def PrepCaseWrongFalsely : Prop := prepCaseRow.holds Try.pinned (OpenSpec.ofChange prepCaseWrong)

/-- 'sobriquetlaw21.PrepSpaces': WHATEVER THE INPUT: true; the input reads as it did. -/
def prepSpacesSpec : ChangeSpec := { name := "prepSpaces", fn := fun _ => fun
  | [d1, d2, d3] => { results := [.lit (.bool true)], args := [d1, d2, d3] }
  | _ => none }
def prepSpacesRow : OpenClaim := { program := "ytjolmhokeceljaa", sum := "a0d7cd7ef40117dde320337b83a0f36ab51491fbca10c31c9d847c3f28a1928e", func := "sobriquet/sobriquetlaw21.PrepSpaces", spec := "prepSpaces", unfollowed := true, recurses := true, apart := false }
def PrepSpacesSaid : Prop := prepSpacesRow.holds Try.pinned (OpenSpec.ofChange prepSpacesSpec)

/-- ITS FALSE NEIGHBOUR: 'it returns false'. Refute it at one input. -/
def prepSpacesWrong : ChangeSpec := { name := "prepSpaces", fn := fun _ => fun
  | [d1, d2, d3] => { results := [.lit (.bool false)], args := [d1, d2, d3] }
  | _ => none }
def PrepSpacesWrongFalsely : Prop := prepSpacesRow.holds Try.pinned (OpenSpec.ofChange prepSpacesWrong)

/- THE SECOND FORM. 'bulk': how many values and letters a reading holds, each counted each time it is reached (what is shared counts as often as it is met; a slice's spare places count too). A statement '..UptoSaid' is the law's where the arguments, and the package variables that the reading takes, are together of bulk at most 1048576: NARROWER than '..Said'. Prove '..Said' where nothing that the law and all that it calls make is longer than what came in: it says more and counts as full. Else prove '..UptoSaid'. A law counts once. -/
mutual
def uptoBulk {H : Type} : DataW H → Nat
  | .lit (.string bytes) => bytes.length + 1
  | .lit _ => 1
  | .nil => 1
  | .ptr d => uptoBulk d + 1
  | .slice elems spare => uptoBulkAll elems + uptoBulkAll spare + 1
  | .agg parts => uptoBulkAll parts + 1
  | .iface _ d => uptoBulk d + 1
  | .map entries => uptoBulkEntries entries + 1
  | .held _ => 1
def uptoBulkAll {H : Type} : List (DataW H) → Nat
  | [] => 0
  | d :: r => uptoBulk d + uptoBulkAll r
def uptoBulkEntries {H : Type} : List (Lit × DataW H) → Nat
  | [] => 0
  | x :: r => uptoBulkEntry x + uptoBulkEntries r
def uptoBulkEntry {H : Type} : Lit × DataW H → Nat
  | (.string bytes, d) => bytes.length + uptoBulk d + 1
  | (_, d) => uptoBulk d + 1
 end
def uptoSmall : (H : Type) → List (DataW H) → Bool := fun _ ds => decide (uptoBulkAll ds ≤ 1048576)
def OpenSpec.upto (s : _root_.Go.ChangeSpec) : _root_.Go.OpenSpec := { _root_.Go.OpenSpec.ofChange s with cond := some uptoSmall }

/-- 'sobriquetlaw12.FoldTwice', WHERE WHAT IT READS IS OF BULK AT MOST 1048576: true; the input reads as it did. -/
def foldTwiceUptoRow : OpenClaim := { program := "ytjolmhokeceljaa", sum := "a0d7cd7ef40117dde320337b83a0f36ab51491fbca10c31c9d847c3f28a1928e", func := "sobriquet/sobriquetlaw12.FoldTwice", spec := "foldTwice", unfollowed := true, recurses := true, apart := false, narrowed := true }
def FoldTwiceUptoSaid : Prop := foldTwiceUptoRow.holds Try.pinned (OpenSpec.upto foldTwiceSpec)

/-- 'sobriquetlaw12.FoldLetters', WHERE WHAT IT READS IS OF BULK AT MOST 1048576: true; the input reads as it did. -/
def foldLettersUptoRow : OpenClaim := { program := "ytjolmhokeceljaa", sum := "a0d7cd7ef40117dde320337b83a0f36ab51491fbca10c31c9d847c3f28a1928e", func := "sobriquet/sobriquetlaw12.FoldLetters", spec := "foldLetters", unfollowed := true, recurses := true, apart := false, narrowed := true }
def FoldLettersUptoSaid : Prop := foldLettersUptoRow.holds Try.pinned (OpenSpec.upto foldLettersSpec)

/-- 'sobriquetlaw10.ComposeTwo', WHERE WHAT IT READS IS OF BULK AT MOST 1048576: true; the input reads as it did. -/
def composeTwoUptoRow : OpenClaim := { program := "ytjolmhokeceljaa", sum := "a0d7cd7ef40117dde320337b83a0f36ab51491fbca10c31c9d847c3f28a1928e", func := "sobriquet/sobriquetlaw10.ComposeTwo", spec := "composeTwo", apart := false, narrowed := true }
def ComposeTwoUptoSaid : Prop := composeTwoUptoRow.holds Try.pinned (OpenSpec.upto composeTwoSpec)

/-- 'sobriquetlaw10.ComposeOff', WHERE WHAT IT READS IS OF BULK AT MOST 1048576: true; the input reads as it did. -/
def composeOffUptoRow : OpenClaim := { program := "ytjolmhokeceljaa", sum := "a0d7cd7ef40117dde320337b83a0f36ab51491fbca10c31c9d847c3f28a1928e", func := "sobriquet/sobriquetlaw10.ComposeOff", spec := "composeOff", apart := false, narrowed := true }
def ComposeOffUptoSaid : Prop := composeOffUptoRow.holds Try.pinned (OpenSpec.upto composeOffSpec)

/-- 'sobriquetlaw12.FoldExact', WHERE WHAT IT READS IS OF BULK AT MOST 1048576: true; the input reads as it did. -/
def foldExactUptoRow : OpenClaim := { program := "ytjolmhokeceljaa", sum := "a0d7cd7ef40117dde320337b83a0f36ab51491fbca10c31c9d847c3f28a1928e", func := "sobriquet/sobriquetlaw12.FoldExact", spec := "foldExact", unfollowed := true, recurses := true, apart := false, narrowed := true }
def FoldExactUptoSaid : Prop := foldExactUptoRow.holds Try.pinned (OpenSpec.upto foldExactSpec)

/-- 'sobriquetlaw10.ComposeExact', WHERE WHAT IT READS IS OF BULK AT MOST 1048576: true; the input reads as it did. -/
def composeExactUptoRow : OpenClaim := { program := "ytjolmhokeceljaa", sum := "a0d7cd7ef40117dde320337b83a0f36ab51491fbca10c31c9d847c3f28a1928e", func := "sobriquet/sobriquetlaw10.ComposeExact", spec := "composeExact", apart := false, narrowed := true }
def ComposeExactUptoSaid : Prop := composeExactUptoRow.holds Try.pinned (OpenSpec.upto composeExactSpec)

/-- 'sobriquetlaw09.OrderStays', WHERE WHAT IT READS IS OF BULK AT MOST 1048576: true; the input reads as it did. -/
def orderStaysUptoRow : OpenClaim := { program := "ytjolmhokeceljaa", sum := "a0d7cd7ef40117dde320337b83a0f36ab51491fbca10c31c9d847c3f28a1928e", func := "sobriquet/sobriquetlaw09.OrderStays", spec := "orderStays", unfollowed := true, recurses := true, apart := false, narrowed := true }
def OrderStaysUptoSaid : Prop := orderStaysUptoRow.holds Try.pinned (OpenSpec.upto orderStaysSpec)

/-- 'sobriquetlaw09.OrderKeeps', WHERE WHAT IT READS IS OF BULK AT MOST 1048576: true; the input reads as it did. -/
def orderKeepsUptoRow : OpenClaim := { program := "ytjolmhokeceljaa", sum := "a0d7cd7ef40117dde320337b83a0f36ab51491fbca10c31c9d847c3f28a1928e", func := "sobriquet/sobriquetlaw09.OrderKeeps", spec := "orderKeeps", unfollowed := true, recurses := true, apart := false, narrowed := true }
def OrderKeepsUptoSaid : Prop := orderKeepsUptoRow.holds Try.pinned (OpenSpec.upto orderKeepsSpec)

/-- 'sobriquetlaw09.OrderParts', WHERE WHAT IT READS IS OF BULK AT MOST 1048576: true; the input reads as it did. -/
def orderPartsUptoRow : OpenClaim := { program := "ytjolmhokeceljaa", sum := "a0d7cd7ef40117dde320337b83a0f36ab51491fbca10c31c9d847c3f28a1928e", func := "sobriquet/sobriquetlaw09.OrderParts", spec := "orderParts", unfollowed := true, recurses := true, apart := false, narrowed := true }
def OrderPartsUptoSaid : Prop := orderPartsUptoRow.holds Try.pinned (OpenSpec.upto orderPartsSpec)

/-- 'sobriquetlaw09.OrderExact', WHERE WHAT IT READS IS OF BULK AT MOST 1048576: true; the input reads as it did. -/
def orderExactUptoRow : OpenClaim := { program := "ytjolmhokeceljaa", sum := "a0d7cd7ef40117dde320337b83a0f36ab51491fbca10c31c9d847c3f28a1928e", func := "sobriquet/sobriquetlaw09.OrderExact", spec := "orderExact", unfollowed := true, recurses := true, apart := false, narrowed := true }
def OrderExactUptoSaid : Prop := orderExactUptoRow.holds Try.pinned (OpenSpec.upto orderExactSpec)

/-- 'sobriquetlaw10.ComposeLess', WHERE WHAT IT READS IS OF BULK AT MOST 1048576: true; the input reads as it did. -/
def composeLessUptoRow : OpenClaim := { program := "ytjolmhokeceljaa", sum := "a0d7cd7ef40117dde320337b83a0f36ab51491fbca10c31c9d847c3f28a1928e", func := "sobriquet/sobriquetlaw10.ComposeLess", spec := "composeLess", unfollowed := true, recurses := true, apart := false, narrowed := true }
def ComposeLessUptoSaid : Prop := composeLessUptoRow.holds Try.pinned (OpenSpec.upto composeLessSpec)

/-- 'sobriquetlaw12.FoldMarks', WHERE WHAT IT READS IS OF BULK AT MOST 1048576: true; the input reads as it did. -/
def foldMarksUptoRow : OpenClaim := { program := "ytjolmhokeceljaa", sum := "a0d7cd7ef40117dde320337b83a0f36ab51491fbca10c31c9d847c3f28a1928e", func := "sobriquet/sobriquetlaw12.FoldMarks", spec := "foldMarks", unfollowed := true, recurses := true, apart := false, narrowed := true }
def FoldMarksUptoSaid : Prop := foldMarksUptoRow.holds Try.pinned (OpenSpec.upto foldMarksSpec)

/-- 'sobriquetlaw11.NormTwice', WHERE WHAT IT READS IS OF BULK AT MOST 1048576: true; the input reads as it did. -/
def normTwiceUptoRow : OpenClaim := { program := "ytjolmhokeceljaa", sum := "a0d7cd7ef40117dde320337b83a0f36ab51491fbca10c31c9d847c3f28a1928e", func := "sobriquet/sobriquetlaw11.NormTwice", spec := "normTwice", unfollowed := true, recurses := true, apart := false, narrowed := true }
def NormTwiceUptoSaid : Prop := normTwiceUptoRow.holds Try.pinned (OpenSpec.upto normTwiceSpec)

/-- 'sobriquetlaw11.NormQuick', WHERE WHAT IT READS IS OF BULK AT MOST 1048576: true; the input reads as it did. -/
def normQuickUptoRow : OpenClaim := { program := "ytjolmhokeceljaa", sum := "a0d7cd7ef40117dde320337b83a0f36ab51491fbca10c31c9d847c3f28a1928e", func := "sobriquet/sobriquetlaw11.NormQuick", spec := "normQuick", unfollowed := true, recurses := true, apart := false, narrowed := true }
def NormQuickUptoSaid : Prop := normQuickUptoRow.holds Try.pinned (OpenSpec.upto normQuickSpec)

/-- 'sobriquetlaw11.NormSame', WHERE WHAT IT READS IS OF BULK AT MOST 1048576: true; the input reads as it did. -/
def normSameUptoRow : OpenClaim := { program := "ytjolmhokeceljaa", sum := "a0d7cd7ef40117dde320337b83a0f36ab51491fbca10c31c9d847c3f28a1928e", func := "sobriquet/sobriquetlaw11.NormSame", spec := "normSame", unfollowed := true, recurses := true, apart := false, narrowed := true }
def NormSameUptoSaid : Prop := normSameUptoRow.holds Try.pinned (OpenSpec.upto normSameSpec)

/-- 'sobriquetlaw11.NormChain', WHERE WHAT IT READS IS OF BULK AT MOST 1048576: true; the input reads as it did. -/
def normChainUptoRow : OpenClaim := { program := "ytjolmhokeceljaa", sum := "a0d7cd7ef40117dde320337b83a0f36ab51491fbca10c31c9d847c3f28a1928e", func := "sobriquet/sobriquetlaw11.NormChain", spec := "normChain", unfollowed := true, recurses := true, apart := false, narrowed := true }
def NormChainUptoSaid : Prop := normChainUptoRow.holds Try.pinned (OpenSpec.upto normChainSpec)

/-- 'sobriquetlaw11.NormScalars', WHERE WHAT IT READS IS OF BULK AT MOST 1048576: true; the input reads as it did. -/
def normScalarsUptoRow : OpenClaim := { program := "ytjolmhokeceljaa", sum := "a0d7cd7ef40117dde320337b83a0f36ab51491fbca10c31c9d847c3f28a1928e", func := "sobriquet/sobriquetlaw11.NormScalars", spec := "normScalars", unfollowed := true, recurses := true, apart := false, narrowed := true }
def NormScalarsUptoSaid : Prop := normScalarsUptoRow.holds Try.pinned (OpenSpec.upto normScalarsSpec)

/-- 'sobriquetlaw11.NormHangul', WHERE WHAT IT READS IS OF BULK AT MOST 1048576: true; the input reads as it did. -/
def normHangulUptoRow : OpenClaim := { program := "ytjolmhokeceljaa", sum := "a0d7cd7ef40117dde320337b83a0f36ab51491fbca10c31c9d847c3f28a1928e", func := "sobriquet/sobriquetlaw11.NormHangul", spec := "normHangul", unfollowed := true, recurses := true, apart := false, narrowed := true }
def NormHangulUptoSaid : Prop := normHangulUptoRow.holds Try.pinned (OpenSpec.upto normHangulSpec)

/-- 'sobriquetlaw11.NormExact', WHERE WHAT IT READS IS OF BULK AT MOST 1048576: true; the input reads as it did. -/
def normExactUptoRow : OpenClaim := { program := "ytjolmhokeceljaa", sum := "a0d7cd7ef40117dde320337b83a0f36ab51491fbca10c31c9d847c3f28a1928e", func := "sobriquet/sobriquetlaw11.NormExact", spec := "normExact", unfollowed := true, recurses := true, apart := false, narrowed := true }
def NormExactUptoSaid : Prop := normExactUptoRow.holds Try.pinned (OpenSpec.upto normExactSpec)

/-- 'sobriquetlaw21.PrepSteps', WHERE WHAT IT READS IS OF BULK AT MOST 1048576: true; the input reads as it did. -/
def prepStepsUptoRow : OpenClaim := { program := "ytjolmhokeceljaa", sum := "a0d7cd7ef40117dde320337b83a0f36ab51491fbca10c31c9d847c3f28a1928e", func := "sobriquet/sobriquetlaw21.PrepSteps", spec := "prepSteps", unfollowed := true, recurses := true, apart := false, narrowed := true }
def PrepStepsUptoSaid : Prop := prepStepsUptoRow.holds Try.pinned (OpenSpec.upto prepStepsSpec)

/-- 'sobriquetlaw21.PrepNever', WHERE WHAT IT READS IS OF BULK AT MOST 1048576: true; the input reads as it did. -/
def prepNeverUptoRow : OpenClaim := { program := "ytjolmhokeceljaa", sum := "a0d7cd7ef40117dde320337b83a0f36ab51491fbca10c31c9d847c3f28a1928e", func := "sobriquet/sobriquetlaw21.PrepNever", spec := "prepNever", unfollowed := true, recurses := true, apart := false, narrowed := true }
def PrepNeverUptoSaid : Prop := prepNeverUptoRow.holds Try.pinned (OpenSpec.upto prepNeverSpec)

/-- 'sobriquetlaw21.PrepCase', WHERE WHAT IT READS IS OF BULK AT MOST 1048576: true; the input reads as it did. -/
def prepCaseUptoRow : OpenClaim := { program := "ytjolmhokeceljaa", sum := "a0d7cd7ef40117dde320337b83a0f36ab51491fbca10c31c9d847c3f28a1928e", func := "sobriquet/sobriquetlaw21.PrepCase", spec := "prepCase", unfollowed := true, recurses := true, apart := false, narrowed := true }
def PrepCaseUptoSaid : Prop := prepCaseUptoRow.holds Try.pinned (OpenSpec.upto prepCaseSpec)

/-- 'sobriquetlaw21.PrepSpaces', WHERE WHAT IT READS IS OF BULK AT MOST 1048576: true; the input reads as it did. -/
def prepSpacesUptoRow : OpenClaim := { program := "ytjolmhokeceljaa", sum := "a0d7cd7ef40117dde320337b83a0f36ab51491fbca10c31c9d847c3f28a1928e", func := "sobriquet/sobriquetlaw21.PrepSpaces", spec := "prepSpaces", unfollowed := true, recurses := true, apart := false, narrowed := true }
def PrepSpacesUptoSaid : Prop := prepSpacesUptoRow.holds Try.pinned (OpenSpec.upto prepSpacesSpec)

end Rows
end Go.Proofs.Ytjolmhokeceljaa
