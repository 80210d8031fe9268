/-
  No cell of these rows narrows 'for every input' (looked for: loops, veiled, ifaces, maps, wideKeys, modest, calm, conditions, laid).
  DERIVED. THE GIVEN ROWS OF THIS SEAT. 24 by the template 'for every input the law returns true; each argument reads behind the call as it read before'; 0 by the template 'total and deterministic' (their statements: YtjedkljmhohoeaaTotals.lean).
  GIVEN WITH THE SEED: the statements are not yours to turn. If you find one false, say at which input.
  Laid BY PROGRAM, IN A SANDBOX (cutbox-rows.mjs): the forced cells as the released guide's own fill.sh prints them over the translation 7d8bdcc03ba9cb45… (all of the seat's roots in one cut). By AI agents, Wed Nov 11 2026. No macro, syntax, notation, axiom, sorry.
-/
import Derived.Test.YtjedkljmhohoeaaChecked
import GoSem.Claim
import GoSem.ClaimJoined
import GoSem.ClaimMapViews
import Derived.JoinedTies
import Derived.KernelRfl
namespace Go.Proofs.Ytjedkljmhohoeaa
/- THE CELL 'sum', in the pinned program and in every row, IS THE sha256 OF THE DUMP (.gsa) THAT YtjedkljmhohoeaaProg.lean LOADS. Nothing in Lean hashes anything: it is a label: what it is worth is what the hold of that sum in a sandbox is worth. -/
noncomputable def Try.pinned : Pinned := { name := "ytjedkljmhohoeaa", sum := "7d8bdcc03ba9cb45c19996687b6c341d2138cef547b3d9fa361f5d8cb9c4e460", checked := Try.checked }
namespace Rows
def none {H : Type} : Left H := { results := [], args := [] }

/-- 'laws.FnExactIsStrip': WHATEVER THE INPUT: true; the input reads as it did. -/
def fnExactIsStripSpec : ChangeSpec := { name := "fnExactIsStrip", fn := fun _ => fun
  | [d] => { results := [.lit (.bool true)], args := [d] }
  | _ => none }
def fnExactIsStripRow : OpenClaim := { program := "ytjedkljmhohoeaa", sum := "7d8bdcc03ba9cb45c19996687b6c341d2138cef547b3d9fa361f5d8cb9c4e460", func := "loop.example/g03305/laws.FnExactIsStrip", spec := "fnExactIsStrip", inPlace := ["internal/bytealg.CountString", "internal/bytealg.IndexByteString", "internal/bytealg.IndexString"], named := ["internal/bytealg.MaxLen"], apart := false }
def FnExactIsStripSaid : Prop := fnExactIsStripRow.holds Try.pinned (OpenSpec.ofChange fnExactIsStripSpec)

/-- ITS FALSE NEIGHBOUR: 'it returns false'. Refute it at one input. -/
def fnExactIsStripWrong : ChangeSpec := { name := "fnExactIsStrip", fn := fun _ => fun
  | [d] => { results := [.lit (.bool false)], args := [d] }
  | _ => none }
def FnExactIsStripWrongFalsely : Prop := fnExactIsStripRow.holds Try.pinned (OpenSpec.ofChange fnExactIsStripWrong)

/-- 'laws.FnExactIsMountain': WHATEVER THE INPUT: true; the input reads as it did. -/
def fnExactIsMountainSpec : ChangeSpec := { name := "fnExactIsMountain", fn := fun _ => fun
  | [d1, d2] => { results := [.lit (.bool true)], args := [d1, d2] }
  | _ => none }
def fnExactIsMountainRow : OpenClaim := { program := "ytjedkljmhohoeaa", sum := "7d8bdcc03ba9cb45c19996687b6c341d2138cef547b3d9fa361f5d8cb9c4e460", func := "loop.example/g03305/laws.FnExactIsMountain", spec := "fnExactIsMountain", inPlace := ["internal/bytealg.CountString", "internal/bytealg.IndexByteString", "internal/bytealg.IndexString"], named := ["internal/bytealg.MaxLen"], apart := false }
def FnExactIsMountainSaid : Prop := fnExactIsMountainRow.holds Try.pinned (OpenSpec.ofChange fnExactIsMountainSpec)

/-- ITS FALSE NEIGHBOUR: 'it returns false'. Refute it at one input. -/
def fnExactIsMountainWrong : ChangeSpec := { name := "fnExactIsMountain", fn := fun _ => fun
  | [d1, d2] => { results := [.lit (.bool false)], args := [d1, d2] }
  | _ => none }
def FnExactIsMountainWrongFalsely : Prop := fnExactIsMountainRow.holds Try.pinned (OpenSpec.ofChange fnExactIsMountainWrong)

/-- 'laws.FnExactIsValley': WHATEVER THE INPUT: true; the input reads as it did. -/
def fnExactIsValleySpec : ChangeSpec := { name := "fnExactIsValley", fn := fun _ => fun
  | [d1, d2] => { results := [.lit (.bool true)], args := [d1, d2] }
  | _ => none }
def fnExactIsValleyRow : OpenClaim := { program := "ytjedkljmhohoeaa", sum := "7d8bdcc03ba9cb45c19996687b6c341d2138cef547b3d9fa361f5d8cb9c4e460", func := "loop.example/g03305/laws.FnExactIsValley", spec := "fnExactIsValley", inPlace := ["internal/bytealg.CountString", "internal/bytealg.IndexByteString", "internal/bytealg.IndexString"], named := ["internal/bytealg.MaxLen"], apart := false }
def FnExactIsValleySaid : Prop := fnExactIsValleyRow.holds Try.pinned (OpenSpec.ofChange fnExactIsValleySpec)

/-- ITS FALSE NEIGHBOUR: 'it returns false'. Refute it at one input. -/
def fnExactIsValleyWrong : ChangeSpec := { name := "fnExactIsValley", fn := fun _ => fun
  | [d1, d2] => { results := [.lit (.bool false)], args := [d1, d2] }
  | _ => none }
def FnExactIsValleyWrongFalsely : Prop := fnExactIsValleyRow.holds Try.pinned (OpenSpec.ofChange fnExactIsValleyWrong)

/-- 'laws.FnExactDownOf': WHATEVER THE INPUT: true; the input reads as it did. -/
def fnExactDownOfSpec : ChangeSpec := { name := "fnExactDownOf", fn := fun _ => fun
  | [d] => { results := [.lit (.bool true)], args := [d] }
  | _ => none }
def fnExactDownOfRow : OpenClaim := { program := "ytjedkljmhohoeaa", sum := "7d8bdcc03ba9cb45c19996687b6c341d2138cef547b3d9fa361f5d8cb9c4e460", func := "loop.example/g03305/laws.FnExactDownOf", spec := "fnExactDownOf", inPlace := ["internal/bytealg.CountString", "internal/bytealg.IndexByteString", "internal/bytealg.IndexString"], named := ["internal/bytealg.MaxLen"], apart := false }
def FnExactDownOfSaid : Prop := fnExactDownOfRow.holds Try.pinned (OpenSpec.ofChange fnExactDownOfSpec)

/-- ITS FALSE NEIGHBOUR: 'it returns false'. Refute it at one input. -/
def fnExactDownOfWrong : ChangeSpec := { name := "fnExactDownOf", fn := fun _ => fun
  | [d] => { results := [.lit (.bool false)], args := [d] }
  | _ => none }
def FnExactDownOfWrongFalsely : Prop := fnExactDownOfRow.holds Try.pinned (OpenSpec.ofChange fnExactDownOfWrong)

/-- 'laws.FnExactForwardOf': WHATEVER THE INPUT: true; the input reads as it did. -/
def fnExactForwardOfSpec : ChangeSpec := { name := "fnExactForwardOf", fn := fun _ => fun
  | [d] => { results := [.lit (.bool true)], args := [d] }
  | _ => none }
def fnExactForwardOfRow : OpenClaim := { program := "ytjedkljmhohoeaa", sum := "7d8bdcc03ba9cb45c19996687b6c341d2138cef547b3d9fa361f5d8cb9c4e460", func := "loop.example/g03305/laws.FnExactForwardOf", spec := "fnExactForwardOf", inPlace := ["internal/bytealg.CountString", "internal/bytealg.IndexByteString", "internal/bytealg.IndexString"], named := ["internal/bytealg.MaxLen"], apart := false }
def FnExactForwardOfSaid : Prop := fnExactForwardOfRow.holds Try.pinned (OpenSpec.ofChange fnExactForwardOfSpec)

/-- ITS FALSE NEIGHBOUR: 'it returns false'. Refute it at one input. -/
def fnExactForwardOfWrong : ChangeSpec := { name := "fnExactForwardOf", fn := fun _ => fun
  | [d] => { results := [.lit (.bool false)], args := [d] }
  | _ => none }
def FnExactForwardOfWrongFalsely : Prop := fnExactForwardOfRow.holds Try.pinned (OpenSpec.ofChange fnExactForwardOfWrong)

/-- 'laws.FnExactStripAt': WHATEVER THE INPUT: true; the input reads as it did. -/
def fnExactStripAtSpec : ChangeSpec := { name := "fnExactStripAt", fn := fun _ => fun
  | [d1, d2] => { results := [.lit (.bool true)], args := [d1, d2] }
  | _ => none }
def fnExactStripAtRow : OpenClaim := { program := "ytjedkljmhohoeaa", sum := "7d8bdcc03ba9cb45c19996687b6c341d2138cef547b3d9fa361f5d8cb9c4e460", func := "loop.example/g03305/laws.FnExactStripAt", spec := "fnExactStripAt", inPlace := ["internal/bytealg.CountString", "internal/bytealg.IndexByteString", "internal/bytealg.IndexString"], named := ["internal/bytealg.MaxLen"], apart := false }
def FnExactStripAtSaid : Prop := fnExactStripAtRow.holds Try.pinned (OpenSpec.ofChange fnExactStripAtSpec)

/-- ITS FALSE NEIGHBOUR: 'it returns false'. Refute it at one input. -/
def fnExactStripAtWrong : ChangeSpec := { name := "fnExactStripAt", fn := fun _ => fun
  | [d1, d2] => { results := [.lit (.bool false)], args := [d1, d2] }
  | _ => none }
def FnExactStripAtWrongFalsely : Prop := fnExactStripAtRow.holds Try.pinned (OpenSpec.ofChange fnExactStripAtWrong)

/-- 'laws.FnExactFlatStrip': WHATEVER THE INPUT: true; the input reads as it did. -/
def fnExactFlatStripSpec : ChangeSpec := { name := "fnExactFlatStrip", fn := fun _ => fun
  | [d1, d2] => { results := [.lit (.bool true)], args := [d1, d2] }
  | _ => none }
def fnExactFlatStripRow : OpenClaim := { program := "ytjedkljmhohoeaa", sum := "7d8bdcc03ba9cb45c19996687b6c341d2138cef547b3d9fa361f5d8cb9c4e460", func := "loop.example/g03305/laws.FnExactFlatStrip", spec := "fnExactFlatStrip", inPlace := ["internal/abi.NoEscape", "internal/bytealg.MakeNoZero"], apart := false }
def FnExactFlatStripSaid : Prop := fnExactFlatStripRow.holds Try.pinned (OpenSpec.ofChange fnExactFlatStripSpec)

/-- ITS FALSE NEIGHBOUR: 'it returns false'. Refute it at one input. -/
def fnExactFlatStripWrong : ChangeSpec := { name := "fnExactFlatStrip", fn := fun _ => fun
  | [d1, d2] => { results := [.lit (.bool false)], args := [d1, d2] }
  | _ => none }
def FnExactFlatStripWrongFalsely : Prop := fnExactFlatStripRow.holds Try.pinned (OpenSpec.ofChange fnExactFlatStripWrong)

/-- 'laws.FnExactHighStrip': WHATEVER THE INPUT: true; the input reads as it did. -/
def fnExactHighStripSpec : ChangeSpec := { name := "fnExactHighStrip", fn := fun _ => fun
  | [d1, d2] => { results := [.lit (.bool true)], args := [d1, d2] }
  | _ => none }
def fnExactHighStripRow : OpenClaim := { program := "ytjedkljmhohoeaa", sum := "7d8bdcc03ba9cb45c19996687b6c341d2138cef547b3d9fa361f5d8cb9c4e460", func := "loop.example/g03305/laws.FnExactHighStrip", spec := "fnExactHighStrip", inPlace := ["internal/abi.NoEscape", "internal/bytealg.MakeNoZero"], apart := false }
def FnExactHighStripSaid : Prop := fnExactHighStripRow.holds Try.pinned (OpenSpec.ofChange fnExactHighStripSpec)

/-- ITS FALSE NEIGHBOUR: 'it returns false'. Refute it at one input. -/
def fnExactHighStripWrong : ChangeSpec := { name := "fnExactHighStrip", fn := fun _ => fun
  | [d1, d2] => { results := [.lit (.bool false)], args := [d1, d2] }
  | _ => none }
def FnExactHighStripWrongFalsely : Prop := fnExactHighStripRow.holds Try.pinned (OpenSpec.ofChange fnExactHighStripWrong)

/-- 'laws.FnExactCountPeaks': WHATEVER THE INPUT: true; the input reads as it did. -/
def fnExactCountPeaksSpec : ChangeSpec := { name := "fnExactCountPeaks", fn := fun _ => fun
  | [d] => { results := [.lit (.bool true)], args := [d] }
  | _ => none }
def fnExactCountPeaksRow : OpenClaim := { program := "ytjedkljmhohoeaa", sum := "7d8bdcc03ba9cb45c19996687b6c341d2138cef547b3d9fa361f5d8cb9c4e460", func := "loop.example/g03305/laws.FnExactCountPeaks", spec := "fnExactCountPeaks", inPlace := ["internal/bytealg.CountString", "internal/bytealg.IndexByteString", "internal/bytealg.IndexString"], named := ["internal/bytealg.MaxLen"], apart := false }
def FnExactCountPeaksSaid : Prop := fnExactCountPeaksRow.holds Try.pinned (OpenSpec.ofChange fnExactCountPeaksSpec)

/-- ITS FALSE NEIGHBOUR: 'it returns false'. Refute it at one input. -/
def fnExactCountPeaksWrong : ChangeSpec := { name := "fnExactCountPeaks", fn := fun _ => fun
  | [d] => { results := [.lit (.bool false)], args := [d] }
  | _ => none }
def FnExactCountPeaksWrongFalsely : Prop := fnExactCountPeaksRow.holds Try.pinned (OpenSpec.ofChange fnExactCountPeaksWrong)

/-- 'laws.FnExactSameFrame': WHATEVER THE INPUT: true; the input reads as it did. -/
def fnExactSameFrameSpec : ChangeSpec := { name := "fnExactSameFrame", fn := fun _ => fun
  | [d1, d2] => { results := [.lit (.bool true)], args := [d1, d2] }
  | _ => none }
def fnExactSameFrameRow : OpenClaim := { program := "ytjedkljmhohoeaa", sum := "7d8bdcc03ba9cb45c19996687b6c341d2138cef547b3d9fa361f5d8cb9c4e460", func := "loop.example/g03305/laws.FnExactSameFrame", spec := "fnExactSameFrame", inPlace := ["internal/bytealg.CountString", "internal/bytealg.IndexByteString", "internal/bytealg.IndexString"], named := ["internal/bytealg.MaxLen"], apart := false }
def FnExactSameFrameSaid : Prop := fnExactSameFrameRow.holds Try.pinned (OpenSpec.ofChange fnExactSameFrameSpec)

/-- ITS FALSE NEIGHBOUR: 'it returns false'. Refute it at one input. -/
def fnExactSameFrameWrong : ChangeSpec := { name := "fnExactSameFrame", fn := fun _ => fun
  | [d1, d2] => { results := [.lit (.bool false)], args := [d1, d2] }
  | _ => none }
def FnExactSameFrameWrongFalsely : Prop := fnExactSameFrameRow.holds Try.pinned (OpenSpec.ofChange fnExactSameFrameWrong)

/-- 'laws.FnExactCountFolds': WHATEVER THE INPUT: true; the input reads as it did. -/
def fnExactCountFoldsSpec : ChangeSpec := { name := "fnExactCountFolds", fn := fun _ => fun
  | [d] => { results := [.lit (.bool true)], args := [d] }
  | _ => none }
def fnExactCountFoldsRow : OpenClaim := { program := "ytjedkljmhohoeaa", sum := "7d8bdcc03ba9cb45c19996687b6c341d2138cef547b3d9fa361f5d8cb9c4e460", func := "loop.example/g03305/laws.FnExactCountFolds", spec := "fnExactCountFolds", inPlace := ["internal/bytealg.CountString", "internal/bytealg.IndexByteString", "internal/bytealg.IndexString"], named := ["internal/bytealg.MaxLen"], apart := false }
def FnExactCountFoldsSaid : Prop := fnExactCountFoldsRow.holds Try.pinned (OpenSpec.ofChange fnExactCountFoldsSpec)

/-- ITS FALSE NEIGHBOUR: 'it returns false'. Refute it at one input. -/
def fnExactCountFoldsWrong : ChangeSpec := { name := "fnExactCountFolds", fn := fun _ => fun
  | [d] => { results := [.lit (.bool false)], args := [d] }
  | _ => none }
def FnExactCountFoldsWrongFalsely : Prop := fnExactCountFoldsRow.holds Try.pinned (OpenSpec.ofChange fnExactCountFoldsWrong)

/-- 'laws.FnExactCornersOf': WHATEVER THE INPUT: true; the input reads as it did. -/
def fnExactCornersOfSpec : ChangeSpec := { name := "fnExactCornersOf", fn := fun _ => fun
  | [d] => { results := [.lit (.bool true)], args := [d] }
  | _ => none }
def fnExactCornersOfRow : OpenClaim := { program := "ytjedkljmhohoeaa", sum := "7d8bdcc03ba9cb45c19996687b6c341d2138cef547b3d9fa361f5d8cb9c4e460", func := "loop.example/g03305/laws.FnExactCornersOf", spec := "fnExactCornersOf", inPlace := ["internal/bytealg.CountString", "internal/bytealg.IndexByteString", "internal/bytealg.IndexString"], named := ["internal/bytealg.MaxLen"], apart := false }
def FnExactCornersOfSaid : Prop := fnExactCornersOfRow.holds Try.pinned (OpenSpec.ofChange fnExactCornersOfSpec)

/-- ITS FALSE NEIGHBOUR: 'it returns false'. Refute it at one input. -/
def fnExactCornersOfWrong : ChangeSpec := { name := "fnExactCornersOf", fn := fun _ => fun
  | [d] => { results := [.lit (.bool false)], args := [d] }
  | _ => none }
def FnExactCornersOfWrongFalsely : Prop := fnExactCornersOfRow.holds Try.pinned (OpenSpec.ofChange fnExactCornersOfWrong)

/-- 'laws.FnExactStepLength': WHATEVER THE INPUT: true; the input reads as it did. -/
def fnExactStepLengthSpec : ChangeSpec := { name := "fnExactStepLength", fn := fun _ => fun
  | [d1, d2, d3] => { results := [.lit (.bool true)], args := [d1, d2, d3] }
  | _ => none }
def fnExactStepLengthRow : OpenClaim := { program := "ytjedkljmhohoeaa", sum := "7d8bdcc03ba9cb45c19996687b6c341d2138cef547b3d9fa361f5d8cb9c4e460", func := "loop.example/g03305/laws.FnExactStepLength", spec := "fnExactStepLength", inPlace := ["internal/bytealg.CountString", "internal/bytealg.IndexByteString", "internal/bytealg.IndexString"], named := ["internal/bytealg.MaxLen"], apart := false }
def FnExactStepLengthSaid : Prop := fnExactStepLengthRow.holds Try.pinned (OpenSpec.ofChange fnExactStepLengthSpec)

/-- ITS FALSE NEIGHBOUR: 'it returns false'. Refute it at one input. -/
def fnExactStepLengthWrong : ChangeSpec := { name := "fnExactStepLength", fn := fun _ => fun
  | [d1, d2, d3] => { results := [.lit (.bool false)], args := [d1, d2, d3] }
  | _ => none }
def FnExactStepLengthWrongFalsely : Prop := fnExactStepLengthRow.holds Try.pinned (OpenSpec.ofChange fnExactStepLengthWrong)

/-- 'laws.FnExactPlaceOf': WHATEVER THE INPUT: true; the input reads as it did. -/
def fnExactPlaceOfSpec : ChangeSpec := { name := "fnExactPlaceOf", fn := fun _ => fun
  | [d1, d2, d3] => { results := [.lit (.bool true)], args := [d1, d2, d3] }
  | _ => none }
def fnExactPlaceOfRow : OpenClaim := { program := "ytjedkljmhohoeaa", sum := "7d8bdcc03ba9cb45c19996687b6c341d2138cef547b3d9fa361f5d8cb9c4e460", func := "loop.example/g03305/laws.FnExactPlaceOf", spec := "fnExactPlaceOf", inPlace := ["internal/bytealg.CountString", "internal/bytealg.IndexByteString", "internal/bytealg.IndexString"], named := ["internal/bytealg.MaxLen"], apart := false }
def FnExactPlaceOfSaid : Prop := fnExactPlaceOfRow.holds Try.pinned (OpenSpec.ofChange fnExactPlaceOfSpec)

/-- ITS FALSE NEIGHBOUR: 'it returns false'. Refute it at one input. -/
def fnExactPlaceOfWrong : ChangeSpec := { name := "fnExactPlaceOf", fn := fun _ => fun
  | [d1, d2, d3] => { results := [.lit (.bool false)], args := [d1, d2, d3] }
  | _ => none }
def FnExactPlaceOfWrongFalsely : Prop := fnExactPlaceOfRow.holds Try.pinned (OpenSpec.ofChange fnExactPlaceOfWrong)

/-- 'laws.FnExactIsAbove': WHATEVER THE INPUT: true; the input reads as it did. -/
def fnExactIsAboveSpec : ChangeSpec := { name := "fnExactIsAbove", fn := fun _ => fun
  | [d1, d2] => { results := [.lit (.bool true)], args := [d1, d2] }
  | _ => none }
def fnExactIsAboveRow : OpenClaim := { program := "ytjedkljmhohoeaa", sum := "7d8bdcc03ba9cb45c19996687b6c341d2138cef547b3d9fa361f5d8cb9c4e460", func := "loop.example/g03305/laws.FnExactIsAbove", spec := "fnExactIsAbove", inPlace := ["internal/bytealg.CountString", "internal/bytealg.IndexByteString", "internal/bytealg.IndexString"], named := ["internal/bytealg.MaxLen"], apart := false }
def FnExactIsAboveSaid : Prop := fnExactIsAboveRow.holds Try.pinned (OpenSpec.ofChange fnExactIsAboveSpec)

/-- ITS FALSE NEIGHBOUR: 'it returns false'. Refute it at one input. -/
def fnExactIsAboveWrong : ChangeSpec := { name := "fnExactIsAbove", fn := fun _ => fun
  | [d1, d2] => { results := [.lit (.bool false)], args := [d1, d2] }
  | _ => none }
def FnExactIsAboveWrongFalsely : Prop := fnExactIsAboveRow.holds Try.pinned (OpenSpec.ofChange fnExactIsAboveWrong)

/-- 'laws.FnExactAreComparable': WHATEVER THE INPUT: true; the input reads as it did. -/
def fnExactAreComparableSpec : ChangeSpec := { name := "fnExactAreComparable", fn := fun _ => fun
  | [d1, d2] => { results := [.lit (.bool true)], args := [d1, d2] }
  | _ => none }
def fnExactAreComparableRow : OpenClaim := { program := "ytjedkljmhohoeaa", sum := "7d8bdcc03ba9cb45c19996687b6c341d2138cef547b3d9fa361f5d8cb9c4e460", func := "loop.example/g03305/laws.FnExactAreComparable", spec := "fnExactAreComparable", inPlace := ["internal/bytealg.CountString", "internal/bytealg.IndexByteString", "internal/bytealg.IndexString"], named := ["internal/bytealg.MaxLen"], apart := false }
def FnExactAreComparableSaid : Prop := fnExactAreComparableRow.holds Try.pinned (OpenSpec.ofChange fnExactAreComparableSpec)

/-- ITS FALSE NEIGHBOUR: 'it returns false'. Refute it at one input. -/
def fnExactAreComparableWrong : ChangeSpec := { name := "fnExactAreComparable", fn := fun _ => fun
  | [d1, d2] => { results := [.lit (.bool false)], args := [d1, d2] }
  | _ => none }
def FnExactAreComparableWrongFalsely : Prop := fnExactAreComparableRow.holds Try.pinned (OpenSpec.ofChange fnExactAreComparableWrong)

/-- 'laws.FnExactRunsOf': WHATEVER THE INPUT: true; the input reads as it did. -/
def fnExactRunsOfSpec : ChangeSpec := { name := "fnExactRunsOf", fn := fun _ => fun
  | [d] => { results := [.lit (.bool true)], args := [d] }
  | _ => none }
def fnExactRunsOfRow : OpenClaim := { program := "ytjedkljmhohoeaa", sum := "7d8bdcc03ba9cb45c19996687b6c341d2138cef547b3d9fa361f5d8cb9c4e460", func := "loop.example/g03305/laws.FnExactRunsOf", spec := "fnExactRunsOf", inPlace := ["internal/bytealg.CountString", "internal/bytealg.IndexByteString", "internal/bytealg.IndexString"], named := ["internal/bytealg.MaxLen"], apart := false }
def FnExactRunsOfSaid : Prop := fnExactRunsOfRow.holds Try.pinned (OpenSpec.ofChange fnExactRunsOfSpec)

/-- ITS FALSE NEIGHBOUR: 'it returns false'. Refute it at one input. -/
def fnExactRunsOfWrong : ChangeSpec := { name := "fnExactRunsOf", fn := fun _ => fun
  | [d] => { results := [.lit (.bool false)], args := [d] }
  | _ => none }
def FnExactRunsOfWrongFalsely : Prop := fnExactRunsOfRow.holds Try.pinned (OpenSpec.ofChange fnExactRunsOfWrong)

/-- 'laws.FnExactLowerOf': WHATEVER THE INPUT: true; the input reads as it did. -/
def fnExactLowerOfSpec : ChangeSpec := { name := "fnExactLowerOf", fn := fun _ => fun
  | [d1, d2] => { results := [.lit (.bool true)], args := [d1, d2] }
  | _ => none }
def fnExactLowerOfRow : OpenClaim := { program := "ytjedkljmhohoeaa", sum := "7d8bdcc03ba9cb45c19996687b6c341d2138cef547b3d9fa361f5d8cb9c4e460", func := "loop.example/g03305/laws.FnExactLowerOf", spec := "fnExactLowerOf", inPlace := ["internal/bytealg.CountString", "internal/bytealg.IndexByteString", "internal/bytealg.IndexString"], unfollowed := true, recurses := true, named := ["internal/bytealg.MaxLen"], apart := false }
def FnExactLowerOfSaid : Prop := fnExactLowerOfRow.holds Try.pinned (OpenSpec.ofChange fnExactLowerOfSpec)

/-- ITS FALSE NEIGHBOUR: 'it returns false'. Refute it at one input. -/
def fnExactLowerOfWrong : ChangeSpec := { name := "fnExactLowerOf", fn := fun _ => fun
  | [d1, d2] => { results := [.lit (.bool false)], args := [d1, d2] }
  | _ => none }
def FnExactLowerOfWrongFalsely : Prop := fnExactLowerOfRow.holds Try.pinned (OpenSpec.ofChange fnExactLowerOfWrong)

/-- 'laws.FnExactUpperOf': WHATEVER THE INPUT: true; the input reads as it did. -/
def fnExactUpperOfSpec : ChangeSpec := { name := "fnExactUpperOf", fn := fun _ => fun
  | [d1, d2] => { results := [.lit (.bool true)], args := [d1, d2] }
  | _ => none }
def fnExactUpperOfRow : OpenClaim := { program := "ytjedkljmhohoeaa", sum := "7d8bdcc03ba9cb45c19996687b6c341d2138cef547b3d9fa361f5d8cb9c4e460", func := "loop.example/g03305/laws.FnExactUpperOf", spec := "fnExactUpperOf", inPlace := ["internal/bytealg.CountString", "internal/bytealg.IndexByteString", "internal/bytealg.IndexString"], unfollowed := true, recurses := true, named := ["internal/bytealg.MaxLen"], apart := false }
def FnExactUpperOfSaid : Prop := fnExactUpperOfRow.holds Try.pinned (OpenSpec.ofChange fnExactUpperOfSpec)

/-- ITS FALSE NEIGHBOUR: 'it returns false'. Refute it at one input. -/
def fnExactUpperOfWrong : ChangeSpec := { name := "fnExactUpperOf", fn := fun _ => fun
  | [d1, d2] => { results := [.lit (.bool false)], args := [d1, d2] }
  | _ => none }
def FnExactUpperOfWrongFalsely : Prop := fnExactUpperOfRow.holds Try.pinned (OpenSpec.ofChange fnExactUpperOfWrong)

/-- 'laws.FnExactReachClosed': WHATEVER THE INPUT: true; the input reads as it did. -/
def fnExactReachClosedSpec : ChangeSpec := { name := "fnExactReachClosed", fn := fun _ => fun
  | [d] => { results := [.lit (.bool true)], args := [d] }
  | _ => none }
def fnExactReachClosedRow : OpenClaim := { program := "ytjedkljmhohoeaa", sum := "7d8bdcc03ba9cb45c19996687b6c341d2138cef547b3d9fa361f5d8cb9c4e460", func := "loop.example/g03305/laws.FnExactReachClosed", spec := "fnExactReachClosed", inPlace := ["internal/bytealg.CountString", "internal/bytealg.IndexByteString", "internal/bytealg.IndexString"], named := ["internal/bytealg.MaxLen"], apart := false }
def FnExactReachClosedSaid : Prop := fnExactReachClosedRow.holds Try.pinned (OpenSpec.ofChange fnExactReachClosedSpec)

/-- ITS FALSE NEIGHBOUR: 'it returns false'. Refute it at one input. -/
def fnExactReachClosedWrong : ChangeSpec := { name := "fnExactReachClosed", fn := fun _ => fun
  | [d] => { results := [.lit (.bool false)], args := [d] }
  | _ => none }
def FnExactReachClosedWrongFalsely : Prop := fnExactReachClosedRow.holds Try.pinned (OpenSpec.ofChange fnExactReachClosedWrong)

/-- 'laws.FnExactSpreadOf': WHATEVER THE INPUT: true; the input reads as it did. -/
def fnExactSpreadOfSpec : ChangeSpec := { name := "fnExactSpreadOf", fn := fun _ => fun
  | [d] => { results := [.lit (.bool true)], args := [d] }
  | _ => none }
def fnExactSpreadOfRow : OpenClaim := { program := "ytjedkljmhohoeaa", sum := "7d8bdcc03ba9cb45c19996687b6c341d2138cef547b3d9fa361f5d8cb9c4e460", func := "loop.example/g03305/laws.FnExactSpreadOf", spec := "fnExactSpreadOf", inPlace := ["internal/bytealg.CountString", "internal/bytealg.IndexByteString", "internal/bytealg.IndexString"], named := ["internal/bytealg.MaxLen"], apart := false }
def FnExactSpreadOfSaid : Prop := fnExactSpreadOfRow.holds Try.pinned (OpenSpec.ofChange fnExactSpreadOfSpec)

/-- ITS FALSE NEIGHBOUR: 'it returns false'. Refute it at one input. -/
def fnExactSpreadOfWrong : ChangeSpec := { name := "fnExactSpreadOf", fn := fun _ => fun
  | [d] => { results := [.lit (.bool false)], args := [d] }
  | _ => none }
def FnExactSpreadOfWrongFalsely : Prop := fnExactSpreadOfRow.holds Try.pinned (OpenSpec.ofChange fnExactSpreadOfWrong)

/-- 'laws.FnExactCutsBetween': WHATEVER THE INPUT: true; the input reads as it did. -/
def fnExactCutsBetweenSpec : ChangeSpec := { name := "fnExactCutsBetween", fn := fun _ => fun
  | [d1, d2] => { results := [.lit (.bool true)], args := [d1, d2] }
  | _ => none }
def fnExactCutsBetweenRow : OpenClaim := { program := "ytjedkljmhohoeaa", sum := "7d8bdcc03ba9cb45c19996687b6c341d2138cef547b3d9fa361f5d8cb9c4e460", func := "loop.example/g03305/laws.FnExactCutsBetween", spec := "fnExactCutsBetween", inPlace := ["internal/bytealg.CountString", "internal/bytealg.IndexByteString", "internal/bytealg.IndexString"], named := ["internal/bytealg.MaxLen"], apart := false }
def FnExactCutsBetweenSaid : Prop := fnExactCutsBetweenRow.holds Try.pinned (OpenSpec.ofChange fnExactCutsBetweenSpec)

/-- ITS FALSE NEIGHBOUR: 'it returns false'. Refute it at one input. -/
def fnExactCutsBetweenWrong : ChangeSpec := { name := "fnExactCutsBetween", fn := fun _ => fun
  | [d1, d2] => { results := [.lit (.bool false)], args := [d1, d2] }
  | _ => none }
def FnExactCutsBetweenWrongFalsely : Prop := fnExactCutsBetweenRow.holds Try.pinned (OpenSpec.ofChange fnExactCutsBetweenWrong)

/-- 'laws.FnExactStaysInside': WHATEVER THE INPUT: true; the input reads as it did. -/
def fnExactStaysInsideSpec : ChangeSpec := { name := "fnExactStaysInside", fn := fun _ => fun
  | [d1, d2] => { results := [.lit (.bool true)], args := [d1, d2] }
  | _ => none }
def fnExactStaysInsideRow : OpenClaim := { program := "ytjedkljmhohoeaa", sum := "7d8bdcc03ba9cb45c19996687b6c341d2138cef547b3d9fa361f5d8cb9c4e460", func := "loop.example/g03305/laws.FnExactStaysInside", spec := "fnExactStaysInside", inPlace := ["internal/bytealg.CountString", "internal/bytealg.IndexByteString", "internal/bytealg.IndexString"], named := ["internal/bytealg.MaxLen"], apart := false }
def FnExactStaysInsideSaid : Prop := fnExactStaysInsideRow.holds Try.pinned (OpenSpec.ofChange fnExactStaysInsideSpec)

/-- ITS FALSE NEIGHBOUR: 'it returns false'. Refute it at one input. -/
def fnExactStaysInsideWrong : ChangeSpec := { name := "fnExactStaysInside", fn := fun _ => fun
  | [d1, d2] => { results := [.lit (.bool false)], args := [d1, d2] }
  | _ => none }
def FnExactStaysInsideWrongFalsely : Prop := fnExactStaysInsideRow.holds Try.pinned (OpenSpec.ofChange fnExactStaysInsideWrong)

/-- 'laws.FnExactCutRuns': WHATEVER THE INPUT: true; the input reads as it did. -/
def fnExactCutRunsSpec : ChangeSpec := { name := "fnExactCutRuns", fn := fun _ => fun
  | [d1, d2] => { results := [.lit (.bool true)], args := [d1, d2] }
  | _ => none }
def fnExactCutRunsRow : OpenClaim := { program := "ytjedkljmhohoeaa", sum := "7d8bdcc03ba9cb45c19996687b6c341d2138cef547b3d9fa361f5d8cb9c4e460", func := "loop.example/g03305/laws.FnExactCutRuns", spec := "fnExactCutRuns", inPlace := ["internal/bytealg.CountString", "internal/bytealg.IndexByteString", "internal/bytealg.IndexString"], named := ["internal/bytealg.MaxLen"], apart := false }
def FnExactCutRunsSaid : Prop := fnExactCutRunsRow.holds Try.pinned (OpenSpec.ofChange fnExactCutRunsSpec)

/-- ITS FALSE NEIGHBOUR: 'it returns false'. Refute it at one input. -/
def fnExactCutRunsWrong : ChangeSpec := { name := "fnExactCutRuns", fn := fun _ => fun
  | [d1, d2] => { results := [.lit (.bool false)], args := [d1, d2] }
  | _ => none }
def FnExactCutRunsWrongFalsely : Prop := fnExactCutRunsRow.holds Try.pinned (OpenSpec.ofChange fnExactCutRunsWrong)

/- THE SECOND FORM. 'bulk': how many values and letters a reading holds, each counted each time it is reached (what is shared counts as often as it is met; a slice's spare places count too). A statement '..UptoSaid' is the law's where the arguments, and the package variables that the reading takes, are together of bulk at most 1048576: NARROWER than '..Said'. Prove '..Said' where nothing that the law and all that it calls make is longer than what came in: it says more and counts as full. Else prove '..UptoSaid'. A law counts once. -/
mutual
def uptoBulk {H : Type} : DataW H → Nat
  | .lit (.string bytes) => bytes.length + 1
  | .lit _ => 1
  | .nil => 1
  | .ptr d => uptoBulk d + 1
  | .slice elems spare => uptoBulkAll elems + uptoBulkAll spare + 1
  | .agg parts => uptoBulkAll parts + 1
  | .iface _ d => uptoBulk d + 1
  | .map entries => uptoBulkEntries entries + 1
  | .held _ => 1
def uptoBulkAll {H : Type} : List (DataW H) → Nat
  | [] => 0
  | d :: r => uptoBulk d + uptoBulkAll r
def uptoBulkEntries {H : Type} : List (Lit × DataW H) → Nat
  | [] => 0
  | x :: r => uptoBulkEntry x + uptoBulkEntries r
def uptoBulkEntry {H : Type} : Lit × DataW H → Nat
  | (.string bytes, d) => bytes.length + uptoBulk d + 1
  | (_, d) => uptoBulk d + 1
 end
def uptoSmall : (H : Type) → List (DataW H) → Bool := fun _ ds => decide (uptoBulkAll ds ≤ 1048576)
def OpenSpec.upto (s : _root_.Go.ChangeSpec) : _root_.Go.OpenSpec := { _root_.Go.OpenSpec.ofChange s with cond := some uptoSmall }

/-- 'laws.FnExactIsStrip', WHERE WHAT IT READS IS OF BULK AT MOST 1048576: true; the input reads as it did. -/
def fnExactIsStripUptoRow : OpenClaim := { program := "ytjedkljmhohoeaa", sum := "7d8bdcc03ba9cb45c19996687b6c341d2138cef547b3d9fa361f5d8cb9c4e460", func := "loop.example/g03305/laws.FnExactIsStrip", spec := "fnExactIsStrip", inPlace := ["internal/bytealg.CountString", "internal/bytealg.IndexByteString", "internal/bytealg.IndexString"], named := ["internal/bytealg.MaxLen"], apart := false, narrowed := true }
def FnExactIsStripUptoSaid : Prop := fnExactIsStripUptoRow.holds Try.pinned (OpenSpec.upto fnExactIsStripSpec)

/-- 'laws.FnExactIsMountain', WHERE WHAT IT READS IS OF BULK AT MOST 1048576: true; the input reads as it did. -/
def fnExactIsMountainUptoRow : OpenClaim := { program := "ytjedkljmhohoeaa", sum := "7d8bdcc03ba9cb45c19996687b6c341d2138cef547b3d9fa361f5d8cb9c4e460", func := "loop.example/g03305/laws.FnExactIsMountain", spec := "fnExactIsMountain", inPlace := ["internal/bytealg.CountString", "internal/bytealg.IndexByteString", "internal/bytealg.IndexString"], named := ["internal/bytealg.MaxLen"], apart := false, narrowed := true }
def FnExactIsMountainUptoSaid : Prop := fnExactIsMountainUptoRow.holds Try.pinned (OpenSpec.upto fnExactIsMountainSpec)

/-- 'laws.FnExactIsValley', WHERE WHAT IT READS IS OF BULK AT MOST 1048576: true; the input reads as it did. -/
def fnExactIsValleyUptoRow : OpenClaim := { program := "ytjedkljmhohoeaa", sum := "7d8bdcc03ba9cb45c19996687b6c341d2138cef547b3d9fa361f5d8cb9c4e460", func := "loop.example/g03305/laws.FnExactIsValley", spec := "fnExactIsValley", inPlace := ["internal/bytealg.CountString", "internal/bytealg.IndexByteString", "internal/bytealg.IndexString"], named := ["internal/bytealg.MaxLen"], apart := false, narrowed := true }
def FnExactIsValleyUptoSaid : Prop := fnExactIsValleyUptoRow.holds Try.pinned (OpenSpec.upto fnExactIsValleySpec)

/-- 'laws.FnExactDownOf', WHERE WHAT IT READS IS OF BULK AT MOST 1048576: true; the input reads as it did. -/
def fnExactDownOfUptoRow : OpenClaim := { program := "ytjedkljmhohoeaa", sum := "7d8bdcc03ba9cb45c19996687b6c341d2138cef547b3d9fa361f5d8cb9c4e460", func := "loop.example/g03305/laws.FnExactDownOf", spec := "fnExactDownOf", inPlace := ["internal/bytealg.CountString", "internal/bytealg.IndexByteString", "internal/bytealg.IndexString"], named := ["internal/bytealg.MaxLen"], apart := false, narrowed := true }
def FnExactDownOfUptoSaid : Prop := fnExactDownOfUptoRow.holds Try.pinned (OpenSpec.upto fnExactDownOfSpec)

/-- 'laws.FnExactForwardOf', WHERE WHAT IT READS IS OF BULK AT MOST 1048576: true; the input reads as it did. -/
def fnExactForwardOfUptoRow : OpenClaim := { program := "ytjedkljmhohoeaa", sum := "7d8bdcc03ba9cb45c19996687b6c341d2138cef547b3d9fa361f5d8cb9c4e460", func := "loop.example/g03305/laws.FnExactForwardOf", spec := "fnExactForwardOf", inPlace := ["internal/bytealg.CountString", "internal/bytealg.IndexByteString", "internal/bytealg.IndexString"], named := ["internal/bytealg.MaxLen"], apart := false, narrowed := true }
def FnExactForwardOfUptoSaid : Prop := fnExactForwardOfUptoRow.holds Try.pinned (OpenSpec.upto fnExactForwardOfSpec)

/-- 'laws.FnExactStripAt', WHERE WHAT IT READS IS OF BULK AT MOST 1048576: true; the input reads as it did. -/
def fnExactStripAtUptoRow : OpenClaim := { program := "ytjedkljmhohoeaa", sum := "7d8bdcc03ba9cb45c19996687b6c341d2138cef547b3d9fa361f5d8cb9c4e460", func := "loop.example/g03305/laws.FnExactStripAt", spec := "fnExactStripAt", inPlace := ["internal/bytealg.CountString", "internal/bytealg.IndexByteString", "internal/bytealg.IndexString"], named := ["internal/bytealg.MaxLen"], apart := false, narrowed := true }
def FnExactStripAtUptoSaid : Prop := fnExactStripAtUptoRow.holds Try.pinned (OpenSpec.upto fnExactStripAtSpec)

/-- 'laws.FnExactFlatStrip', WHERE WHAT IT READS IS OF BULK AT MOST 1048576: true; the input reads as it did. -/
def fnExactFlatStripUptoRow : OpenClaim := { program := "ytjedkljmhohoeaa", sum := "7d8bdcc03ba9cb45c19996687b6c341d2138cef547b3d9fa361f5d8cb9c4e460", func := "loop.example/g03305/laws.FnExactFlatStrip", spec := "fnExactFlatStrip", inPlace := ["internal/abi.NoEscape", "internal/bytealg.MakeNoZero"], apart := false, narrowed := true }
def FnExactFlatStripUptoSaid : Prop := fnExactFlatStripUptoRow.holds Try.pinned (OpenSpec.upto fnExactFlatStripSpec)

/-- 'laws.FnExactHighStrip', WHERE WHAT IT READS IS OF BULK AT MOST 1048576: true; the input reads as it did. -/
def fnExactHighStripUptoRow : OpenClaim := { program := "ytjedkljmhohoeaa", sum := "7d8bdcc03ba9cb45c19996687b6c341d2138cef547b3d9fa361f5d8cb9c4e460", func := "loop.example/g03305/laws.FnExactHighStrip", spec := "fnExactHighStrip", inPlace := ["internal/abi.NoEscape", "internal/bytealg.MakeNoZero"], apart := false, narrowed := true }
def FnExactHighStripUptoSaid : Prop := fnExactHighStripUptoRow.holds Try.pinned (OpenSpec.upto fnExactHighStripSpec)

/-- 'laws.FnExactCountPeaks', WHERE WHAT IT READS IS OF BULK AT MOST 1048576: true; the input reads as it did. -/
def fnExactCountPeaksUptoRow : OpenClaim := { program := "ytjedkljmhohoeaa", sum := "7d8bdcc03ba9cb45c19996687b6c341d2138cef547b3d9fa361f5d8cb9c4e460", func := "loop.example/g03305/laws.FnExactCountPeaks", spec := "fnExactCountPeaks", inPlace := ["internal/bytealg.CountString", "internal/bytealg.IndexByteString", "internal/bytealg.IndexString"], named := ["internal/bytealg.MaxLen"], apart := false, narrowed := true }
def FnExactCountPeaksUptoSaid : Prop := fnExactCountPeaksUptoRow.holds Try.pinned (OpenSpec.upto fnExactCountPeaksSpec)

/-- 'laws.FnExactSameFrame', WHERE WHAT IT READS IS OF BULK AT MOST 1048576: true; the input reads as it did. -/
def fnExactSameFrameUptoRow : OpenClaim := { program := "ytjedkljmhohoeaa", sum := "7d8bdcc03ba9cb45c19996687b6c341d2138cef547b3d9fa361f5d8cb9c4e460", func := "loop.example/g03305/laws.FnExactSameFrame", spec := "fnExactSameFrame", inPlace := ["internal/bytealg.CountString", "internal/bytealg.IndexByteString", "internal/bytealg.IndexString"], named := ["internal/bytealg.MaxLen"], apart := false, narrowed := true }
def FnExactSameFrameUptoSaid : Prop := fnExactSameFrameUptoRow.holds Try.pinned (OpenSpec.upto fnExactSameFrameSpec)

/-- 'laws.FnExactCountFolds', WHERE WHAT IT READS IS OF BULK AT MOST 1048576: true; the input reads as it did. -/
def fnExactCountFoldsUptoRow : OpenClaim := { program := "ytjedkljmhohoeaa", sum := "7d8bdcc03ba9cb45c19996687b6c341d2138cef547b3d9fa361f5d8cb9c4e460", func := "loop.example/g03305/laws.FnExactCountFolds", spec := "fnExactCountFolds", inPlace := ["internal/bytealg.CountString", "internal/bytealg.IndexByteString", "internal/bytealg.IndexString"], named := ["internal/bytealg.MaxLen"], apart := false, narrowed := true }
def FnExactCountFoldsUptoSaid : Prop := fnExactCountFoldsUptoRow.holds Try.pinned (OpenSpec.upto fnExactCountFoldsSpec)

/-- 'laws.FnExactCornersOf', WHERE WHAT IT READS IS OF BULK AT MOST 1048576: true; the input reads as it did. -/
def fnExactCornersOfUptoRow : OpenClaim := { program := "ytjedkljmhohoeaa", sum := "7d8bdcc03ba9cb45c19996687b6c341d2138cef547b3d9fa361f5d8cb9c4e460", func := "loop.example/g03305/laws.FnExactCornersOf", spec := "fnExactCornersOf", inPlace := ["internal/bytealg.CountString", "internal/bytealg.IndexByteString", "internal/bytealg.IndexString"], named := ["internal/bytealg.MaxLen"], apart := false, narrowed := true }
def FnExactCornersOfUptoSaid : Prop := fnExactCornersOfUptoRow.holds Try.pinned (OpenSpec.upto fnExactCornersOfSpec)

/-- 'laws.FnExactStepLength', WHERE WHAT IT READS IS OF BULK AT MOST 1048576: true; the input reads as it did. -/
def fnExactStepLengthUptoRow : OpenClaim := { program := "ytjedkljmhohoeaa", sum := "7d8bdcc03ba9cb45c19996687b6c341d2138cef547b3d9fa361f5d8cb9c4e460", func := "loop.example/g03305/laws.FnExactStepLength", spec := "fnExactStepLength", inPlace := ["internal/bytealg.CountString", "internal/bytealg.IndexByteString", "internal/bytealg.IndexString"], named := ["internal/bytealg.MaxLen"], apart := false, narrowed := true }
def FnExactStepLengthUptoSaid : Prop := fnExactStepLengthUptoRow.holds Try.pinned (OpenSpec.upto fnExactStepLengthSpec)

/-- 'laws.FnExactPlaceOf', WHERE WHAT IT READS IS OF BULK AT MOST 1048576: true; the input reads as it did. -/
def fnExactPlaceOfUptoRow : OpenClaim := { program := "ytjedkljmhohoeaa", sum := "7d8bdcc03ba9cb45c19996687b6c341d2138cef547b3d9fa361f5d8cb9c4e460", func := "loop.example/g03305/laws.FnExactPlaceOf", spec := "fnExactPlaceOf", inPlace := ["internal/bytealg.CountString", "internal/bytealg.IndexByteString", "internal/bytealg.IndexString"], named := ["internal/bytealg.MaxLen"], apart := false, narrowed := true }
def FnExactPlaceOfUptoSaid : Prop := fnExactPlaceOfUptoRow.holds Try.pinned (OpenSpec.upto fnExactPlaceOfSpec)

/-- 'laws.FnExactIsAbove', WHERE WHAT IT READS IS OF BULK AT MOST 1048576: true; the input reads as it did. -/
def fnExactIsAboveUptoRow : OpenClaim := { program := "ytjedkljmhohoeaa", sum := "7d8bdcc03ba9cb45c19996687b6c341d2138cef547b3d9fa361f5d8cb9c4e460", func := "loop.example/g03305/laws.FnExactIsAbove", spec := "fnExactIsAbove", inPlace := ["internal/bytealg.CountString", "internal/bytealg.IndexByteString", "internal/bytealg.IndexString"], named := ["internal/bytealg.MaxLen"], apart := false, narrowed := true }
def FnExactIsAboveUptoSaid : Prop := fnExactIsAboveUptoRow.holds Try.pinned (OpenSpec.upto fnExactIsAboveSpec)

/-- 'laws.FnExactAreComparable', WHERE WHAT IT READS IS OF BULK AT MOST 1048576: true; the input reads as it did. -/
def fnExactAreComparableUptoRow : OpenClaim := { program := "ytjedkljmhohoeaa", sum := "7d8bdcc03ba9cb45c19996687b6c341d2138cef547b3d9fa361f5d8cb9c4e460", func := "loop.example/g03305/laws.FnExactAreComparable", spec := "fnExactAreComparable", inPlace := ["internal/bytealg.CountString", "internal/bytealg.IndexByteString", "internal/bytealg.IndexString"], named := ["internal/bytealg.MaxLen"], apart := false, narrowed := true }
def FnExactAreComparableUptoSaid : Prop := fnExactAreComparableUptoRow.holds Try.pinned (OpenSpec.upto fnExactAreComparableSpec)

/-- 'laws.FnExactRunsOf', WHERE WHAT IT READS IS OF BULK AT MOST 1048576: true; the input reads as it did. -/
def fnExactRunsOfUptoRow : OpenClaim := { program := "ytjedkljmhohoeaa", sum := "7d8bdcc03ba9cb45c19996687b6c341d2138cef547b3d9fa361f5d8cb9c4e460", func := "loop.example/g03305/laws.FnExactRunsOf", spec := "fnExactRunsOf", inPlace := ["internal/bytealg.CountString", "internal/bytealg.IndexByteString", "internal/bytealg.IndexString"], named := ["internal/bytealg.MaxLen"], apart := false, narrowed := true }
def FnExactRunsOfUptoSaid : Prop := fnExactRunsOfUptoRow.holds Try.pinned (OpenSpec.upto fnExactRunsOfSpec)

/-- 'laws.FnExactLowerOf', WHERE WHAT IT READS IS OF BULK AT MOST 1048576: true; the input reads as it did. -/
def fnExactLowerOfUptoRow : OpenClaim := { program := "ytjedkljmhohoeaa", sum := "7d8bdcc03ba9cb45c19996687b6c341d2138cef547b3d9fa361f5d8cb9c4e460", func := "loop.example/g03305/laws.FnExactLowerOf", spec := "fnExactLowerOf", inPlace := ["internal/bytealg.CountString", "internal/bytealg.IndexByteString", "internal/bytealg.IndexString"], unfollowed := true, recurses := true, named := ["internal/bytealg.MaxLen"], apart := false, narrowed := true }
def FnExactLowerOfUptoSaid : Prop := fnExactLowerOfUptoRow.holds Try.pinned (OpenSpec.upto fnExactLowerOfSpec)

/-- 'laws.FnExactUpperOf', WHERE WHAT IT READS IS OF BULK AT MOST 1048576: true; the input reads as it did. -/
def fnExactUpperOfUptoRow : OpenClaim := { program := "ytjedkljmhohoeaa", sum := "7d8bdcc03ba9cb45c19996687b6c341d2138cef547b3d9fa361f5d8cb9c4e460", func := "loop.example/g03305/laws.FnExactUpperOf", spec := "fnExactUpperOf", inPlace := ["internal/bytealg.CountString", "internal/bytealg.IndexByteString", "internal/bytealg.IndexString"], unfollowed := true, recurses := true, named := ["internal/bytealg.MaxLen"], apart := false, narrowed := true }
def FnExactUpperOfUptoSaid : Prop := fnExactUpperOfUptoRow.holds Try.pinned (OpenSpec.upto fnExactUpperOfSpec)

/-- 'laws.FnExactReachClosed', WHERE WHAT IT READS IS OF BULK AT MOST 1048576: true; the input reads as it did. -/
def fnExactReachClosedUptoRow : OpenClaim := { program := "ytjedkljmhohoeaa", sum := "7d8bdcc03ba9cb45c19996687b6c341d2138cef547b3d9fa361f5d8cb9c4e460", func := "loop.example/g03305/laws.FnExactReachClosed", spec := "fnExactReachClosed", inPlace := ["internal/bytealg.CountString", "internal/bytealg.IndexByteString", "internal/bytealg.IndexString"], named := ["internal/bytealg.MaxLen"], apart := false, narrowed := true }
def FnExactReachClosedUptoSaid : Prop := fnExactReachClosedUptoRow.holds Try.pinned (OpenSpec.upto fnExactReachClosedSpec)

/-- 'laws.FnExactSpreadOf', WHERE WHAT IT READS IS OF BULK AT MOST 1048576: true; the input reads as it did. -/
def fnExactSpreadOfUptoRow : OpenClaim := { program := "ytjedkljmhohoeaa", sum := "7d8bdcc03ba9cb45c19996687b6c341d2138cef547b3d9fa361f5d8cb9c4e460", func := "loop.example/g03305/laws.FnExactSpreadOf", spec := "fnExactSpreadOf", inPlace := ["internal/bytealg.CountString", "internal/bytealg.IndexByteString", "internal/bytealg.IndexString"], named := ["internal/bytealg.MaxLen"], apart := false, narrowed := true }
def FnExactSpreadOfUptoSaid : Prop := fnExactSpreadOfUptoRow.holds Try.pinned (OpenSpec.upto fnExactSpreadOfSpec)

/-- 'laws.FnExactCutsBetween', WHERE WHAT IT READS IS OF BULK AT MOST 1048576: true; the input reads as it did. -/
def fnExactCutsBetweenUptoRow : OpenClaim := { program := "ytjedkljmhohoeaa", sum := "7d8bdcc03ba9cb45c19996687b6c341d2138cef547b3d9fa361f5d8cb9c4e460", func := "loop.example/g03305/laws.FnExactCutsBetween", spec := "fnExactCutsBetween", inPlace := ["internal/bytealg.CountString", "internal/bytealg.IndexByteString", "internal/bytealg.IndexString"], named := ["internal/bytealg.MaxLen"], apart := false, narrowed := true }
def FnExactCutsBetweenUptoSaid : Prop := fnExactCutsBetweenUptoRow.holds Try.pinned (OpenSpec.upto fnExactCutsBetweenSpec)

/-- 'laws.FnExactStaysInside', WHERE WHAT IT READS IS OF BULK AT MOST 1048576: true; the input reads as it did. -/
def fnExactStaysInsideUptoRow : OpenClaim := { program := "ytjedkljmhohoeaa", sum := "7d8bdcc03ba9cb45c19996687b6c341d2138cef547b3d9fa361f5d8cb9c4e460", func := "loop.example/g03305/laws.FnExactStaysInside", spec := "fnExactStaysInside", inPlace := ["internal/bytealg.CountString", "internal/bytealg.IndexByteString", "internal/bytealg.IndexString"], named := ["internal/bytealg.MaxLen"], apart := false, narrowed := true }
def FnExactStaysInsideUptoSaid : Prop := fnExactStaysInsideUptoRow.holds Try.pinned (OpenSpec.upto fnExactStaysInsideSpec)

/-- 'laws.FnExactCutRuns', WHERE WHAT IT READS IS OF BULK AT MOST 1048576: true; the input reads as it did. -/
def fnExactCutRunsUptoRow : OpenClaim := { program := "ytjedkljmhohoeaa", sum := "7d8bdcc03ba9cb45c19996687b6c341d2138cef547b3d9fa361f5d8cb9c4e460", func := "loop.example/g03305/laws.FnExactCutRuns", spec := "fnExactCutRuns", inPlace := ["internal/bytealg.CountString", "internal/bytealg.IndexByteString", "internal/bytealg.IndexString"], named := ["internal/bytealg.MaxLen"], apart := false, narrowed := true }
def FnExactCutRunsUptoSaid : Prop := fnExactCutRunsUptoRow.holds Try.pinned (OpenSpec.upto fnExactCutRunsSpec)

end Rows
end Go.Proofs.Ytjedkljmhohoeaa
