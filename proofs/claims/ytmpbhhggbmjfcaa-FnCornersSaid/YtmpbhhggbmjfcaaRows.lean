/-
  No cell of these rows narrows 'for every input' (looked for: loops, veiled, ifaces, maps, wideKeys, modest, calm, conditions, laid).
  DERIVED. THE GIVEN ROWS OF THIS SEAT. 9 by the template 'for every input the law returns true; each argument reads behind the call as it read before'; 0 by the template 'total and deterministic' (their statements: YtmpbhhggbmjfcaaTotals.lean).
  GIVEN WITH THE SEED: the statements are not yours to turn. If you find one false, say at which input.
  Laid BY PROGRAM, IN A SANDBOX (cutbox-rows.mjs): the forced cells as the released guide's own fill.sh prints them over the translation 20a70919b1ecfc1a… (all of the seat's roots in one cut). By AI agents, Wed Nov 11 2026. No macro, syntax, notation, axiom, sorry.
-/
import Derived.Test.YtmpbhhggbmjfcaaChecked
import GoSem.Claim
import GoSem.ClaimJoined
import GoSem.ClaimMapViews
import Derived.JoinedTies
import Derived.KernelRfl
namespace Go.Proofs.Ytmpbhhggbmjfcaa
/- THE CELL 'sum', in the pinned program and in every row, IS THE sha256 OF THE DUMP (.gsa) THAT YtmpbhhggbmjfcaaProg.lean LOADS. Nothing in Lean hashes anything: it is a label: what it is worth is what the hold of that sum in a sandbox is worth. -/
noncomputable def Try.pinned : Pinned := { name := "ytmpbhhggbmjfcaa", sum := "20a70919b1ecfc1ac80dc2826365340b7ca8d81d7ff257a659b6713cbc175e7a", checked := Try.checked }
namespace Rows
def none {H : Type} : Left H := { results := [], args := [] }

/-- 'laws.FnExactCutRuns': WHATEVER THE INPUT: true; the input reads as it did. -/
def fnExactCutRunsSpec : ChangeSpec := { name := "fnExactCutRuns", fn := fun _ => fun
  | [d1, d2] => { results := [.lit (.bool true)], args := [d1, d2] }
  | _ => none }
def fnExactCutRunsRow : OpenClaim := { program := "ytmpbhhggbmjfcaa", sum := "20a70919b1ecfc1ac80dc2826365340b7ca8d81d7ff257a659b6713cbc175e7a", func := "loop.example/g03305/laws.FnExactCutRuns", spec := "fnExactCutRuns", inPlace := ["internal/bytealg.CountString", "internal/bytealg.IndexByteString", "internal/bytealg.IndexString"], named := ["internal/bytealg.MaxLen"], apart := false }
def FnExactCutRunsSaid : Prop := fnExactCutRunsRow.holds Try.pinned (OpenSpec.ofChange fnExactCutRunsSpec)

/-- ITS FALSE NEIGHBOUR: 'it returns false'. Refute it at one input. -/
def fnExactCutRunsWrong : ChangeSpec := { name := "fnExactCutRuns", fn := fun _ => fun
  | [d1, d2] => { results := [.lit (.bool false)], args := [d1, d2] }
  | _ => none }
def FnExactCutRunsWrongFalsely : Prop := fnExactCutRunsRow.holds Try.pinned (OpenSpec.ofChange fnExactCutRunsWrong)

/-- 'laws.FnExactCountWithRoom': WHATEVER THE INPUT: true; the input reads as it did. -/
def fnExactCountWithRoomSpec : ChangeSpec := { name := "fnExactCountWithRoom", fn := fun _ => fun
  | [d1, d2, d3] => { results := [.lit (.bool true)], args := [d1, d2, d3] }
  | _ => none }
def fnExactCountWithRoomRow : OpenClaim := { program := "ytmpbhhggbmjfcaa", sum := "20a70919b1ecfc1ac80dc2826365340b7ca8d81d7ff257a659b6713cbc175e7a", func := "loop.example/g03305/laws.FnExactCountWithRoom", spec := "fnExactCountWithRoom", recurses := true, apart := false }
def FnExactCountWithRoomSaid : Prop := fnExactCountWithRoomRow.holds Try.pinned (OpenSpec.ofChange fnExactCountWithRoomSpec)

/-- ITS FALSE NEIGHBOUR: 'it returns false'. Refute it at one input. -/
def fnExactCountWithRoomWrong : ChangeSpec := { name := "fnExactCountWithRoom", fn := fun _ => fun
  | [d1, d2, d3] => { results := [.lit (.bool false)], args := [d1, d2, d3] }
  | _ => none }
def FnExactCountWithRoomWrongFalsely : Prop := fnExactCountWithRoomRow.holds Try.pinned (OpenSpec.ofChange fnExactCountWithRoomWrong)

/-- 'laws.FnExactFaceOf': WHATEVER THE INPUT: true; the input reads as it did. -/
def fnExactFaceOfSpec : ChangeSpec := { name := "fnExactFaceOf", fn := fun _ => fun
  | [d1, d2, d3] => { results := [.lit (.bool true)], args := [d1, d2, d3] }
  | _ => none }
def fnExactFaceOfRow : OpenClaim := { program := "ytmpbhhggbmjfcaa", sum := "20a70919b1ecfc1ac80dc2826365340b7ca8d81d7ff257a659b6713cbc175e7a", func := "loop.example/g03305/laws.FnExactFaceOf", spec := "fnExactFaceOf", inPlace := ["internal/bytealg.CountString", "internal/bytealg.IndexByteString", "internal/bytealg.IndexString"], recurses := true, named := ["internal/bytealg.MaxLen"], apart := false }
def FnExactFaceOfSaid : Prop := fnExactFaceOfRow.holds Try.pinned (OpenSpec.ofChange fnExactFaceOfSpec)

/-- ITS FALSE NEIGHBOUR: 'it returns false'. Refute it at one input. -/
def fnExactFaceOfWrong : ChangeSpec := { name := "fnExactFaceOf", fn := fun _ => fun
  | [d1, d2, d3] => { results := [.lit (.bool false)], args := [d1, d2, d3] }
  | _ => none }
def FnExactFaceOfWrongFalsely : Prop := fnExactFaceOfRow.holds Try.pinned (OpenSpec.ofChange fnExactFaceOfWrong)

/-- 'laws.FnExactCountFaces': WHATEVER THE INPUT: true; the input reads as it did. -/
def fnExactCountFacesSpec : ChangeSpec := { name := "fnExactCountFaces", fn := fun _ => fun
  | [d] => { results := [.lit (.bool true)], args := [d] }
  | _ => none }
def fnExactCountFacesRow : OpenClaim := { program := "ytmpbhhggbmjfcaa", sum := "20a70919b1ecfc1ac80dc2826365340b7ca8d81d7ff257a659b6713cbc175e7a", func := "loop.example/g03305/laws.FnExactCountFaces", spec := "fnExactCountFaces", inPlace := ["internal/bytealg.CountString", "internal/bytealg.IndexByteString", "internal/bytealg.IndexString"], recurses := true, named := ["internal/bytealg.MaxLen"], apart := false }
def FnExactCountFacesSaid : Prop := fnExactCountFacesRow.holds Try.pinned (OpenSpec.ofChange fnExactCountFacesSpec)

/-- ITS FALSE NEIGHBOUR: 'it returns false'. Refute it at one input. -/
def fnExactCountFacesWrong : ChangeSpec := { name := "fnExactCountFaces", fn := fun _ => fun
  | [d] => { results := [.lit (.bool false)], args := [d] }
  | _ => none }
def FnExactCountFacesWrongFalsely : Prop := fnExactCountFacesRow.holds Try.pinned (OpenSpec.ofChange fnExactCountFacesWrong)

/-- 'laws.FnExactFaceSize': WHATEVER THE INPUT: true; the input reads as it did. -/
def fnExactFaceSizeSpec : ChangeSpec := { name := "fnExactFaceSize", fn := fun _ => fun
  | [d1, d2] => { results := [.lit (.bool true)], args := [d1, d2] }
  | _ => none }
def fnExactFaceSizeRow : OpenClaim := { program := "ytmpbhhggbmjfcaa", sum := "20a70919b1ecfc1ac80dc2826365340b7ca8d81d7ff257a659b6713cbc175e7a", func := "loop.example/g03305/laws.FnExactFaceSize", spec := "fnExactFaceSize", inPlace := ["internal/bytealg.CountString", "internal/bytealg.IndexByteString", "internal/bytealg.IndexString"], recurses := true, named := ["internal/bytealg.MaxLen"], apart := false }
def FnExactFaceSizeSaid : Prop := fnExactFaceSizeRow.holds Try.pinned (OpenSpec.ofChange fnExactFaceSizeSpec)

/-- ITS FALSE NEIGHBOUR: 'it returns false'. Refute it at one input. -/
def fnExactFaceSizeWrong : ChangeSpec := { name := "fnExactFaceSize", fn := fun _ => fun
  | [d1, d2] => { results := [.lit (.bool false)], args := [d1, d2] }
  | _ => none }
def FnExactFaceSizeWrongFalsely : Prop := fnExactFaceSizeRow.holds Try.pinned (OpenSpec.ofChange fnExactFaceSizeWrong)

/-- 'laws.FnExactLowerCard': WHATEVER THE INPUT: true; the input reads as it did. -/
def fnExactLowerCardSpec : ChangeSpec := { name := "fnExactLowerCard", fn := fun _ => fun
  | [d1, d2] => { results := [.lit (.bool true)], args := [d1, d2] }
  | _ => none }
def fnExactLowerCardRow : OpenClaim := { program := "ytmpbhhggbmjfcaa", sum := "20a70919b1ecfc1ac80dc2826365340b7ca8d81d7ff257a659b6713cbc175e7a", func := "loop.example/g03305/laws.FnExactLowerCard", spec := "fnExactLowerCard", inPlace := ["internal/bytealg.CountString", "internal/bytealg.IndexByteString", "internal/bytealg.IndexString"], unfollowed := true, recurses := true, named := ["internal/bytealg.MaxLen"], apart := false }
def FnExactLowerCardSaid : Prop := fnExactLowerCardRow.holds Try.pinned (OpenSpec.ofChange fnExactLowerCardSpec)

/-- ITS FALSE NEIGHBOUR: 'it returns false'. Refute it at one input. -/
def fnExactLowerCardWrong : ChangeSpec := { name := "fnExactLowerCard", fn := fun _ => fun
  | [d1, d2] => { results := [.lit (.bool false)], args := [d1, d2] }
  | _ => none }
def FnExactLowerCardWrongFalsely : Prop := fnExactLowerCardRow.holds Try.pinned (OpenSpec.ofChange fnExactLowerCardWrong)

/-- 'laws.FnExactUpperCard': WHATEVER THE INPUT: true; the input reads as it did. -/
def fnExactUpperCardSpec : ChangeSpec := { name := "fnExactUpperCard", fn := fun _ => fun
  | [d1, d2] => { results := [.lit (.bool true)], args := [d1, d2] }
  | _ => none }
def fnExactUpperCardRow : OpenClaim := { program := "ytmpbhhggbmjfcaa", sum := "20a70919b1ecfc1ac80dc2826365340b7ca8d81d7ff257a659b6713cbc175e7a", func := "loop.example/g03305/laws.FnExactUpperCard", spec := "fnExactUpperCard", inPlace := ["internal/bytealg.CountString", "internal/bytealg.IndexByteString", "internal/bytealg.IndexString"], unfollowed := true, recurses := true, named := ["internal/bytealg.MaxLen"], apart := false }
def FnExactUpperCardSaid : Prop := fnExactUpperCardRow.holds Try.pinned (OpenSpec.ofChange fnExactUpperCardSpec)

/-- ITS FALSE NEIGHBOUR: 'it returns false'. Refute it at one input. -/
def fnExactUpperCardWrong : ChangeSpec := { name := "fnExactUpperCard", fn := fun _ => fun
  | [d1, d2] => { results := [.lit (.bool false)], args := [d1, d2] }
  | _ => none }
def FnExactUpperCardWrongFalsely : Prop := fnExactUpperCardRow.holds Try.pinned (OpenSpec.ofChange fnExactUpperCardWrong)

/-- 'laws.FnCorners': WHATEVER THE INPUT: true; the input reads as it did. -/
def fnCornersSpec : ChangeSpec := { name := "fnCorners", fn := fun _ => fun
  | [d] => { results := [.lit (.bool true)], args := [d] }
  | _ => none }
def fnCornersRow : OpenClaim := { program := "ytmpbhhggbmjfcaa", sum := "20a70919b1ecfc1ac80dc2826365340b7ca8d81d7ff257a659b6713cbc175e7a", func := "loop.example/g03305/laws.FnCorners", spec := "fnCorners", inPlace := ["internal/bytealg.CountString", "internal/bytealg.IndexByteString", "internal/bytealg.IndexString", "internal/abi.NoEscape", "internal/bytealg.MakeNoZero"], named := ["internal/bytealg.MaxLen"], apart := false }
def FnCornersSaid : Prop := fnCornersRow.holds Try.pinned (OpenSpec.ofChange fnCornersSpec)

/-- ITS FALSE NEIGHBOUR: 'it returns false'. Refute it at one input. -/
def fnCornersWrong : ChangeSpec := { name := "fnCorners", fn := fun _ => fun
  | [d] => { results := [.lit (.bool false)], args := [d] }
  | _ => none }
def FnCornersWrongFalsely : Prop := fnCornersRow.holds Try.pinned (OpenSpec.ofChange fnCornersWrong)

/-- 'laws.FnFaces': WHATEVER THE INPUT: true; the input reads as it did. -/
def fnFacesSpec : ChangeSpec := { name := "fnFaces", fn := fun _ => fun
  | [d] => { results := [.lit (.bool true)], args := [d] }
  | _ => none }
def fnFacesRow : OpenClaim := { program := "ytmpbhhggbmjfcaa", sum := "20a70919b1ecfc1ac80dc2826365340b7ca8d81d7ff257a659b6713cbc175e7a", func := "loop.example/g03305/laws.FnFaces", spec := "fnFaces", inPlace := ["internal/bytealg.CountString", "internal/bytealg.IndexByteString", "internal/bytealg.IndexString"], recurses := true, named := ["internal/bytealg.MaxLen"], apart := false }
def FnFacesSaid : Prop := fnFacesRow.holds Try.pinned (OpenSpec.ofChange fnFacesSpec)

/-- ITS FALSE NEIGHBOUR: 'it returns false'. Refute it at one input. -/
def fnFacesWrong : ChangeSpec := { name := "fnFaces", fn := fun _ => fun
  | [d] => { results := [.lit (.bool false)], args := [d] }
  | _ => none }
def FnFacesWrongFalsely : Prop := fnFacesRow.holds Try.pinned (OpenSpec.ofChange fnFacesWrong)

/- THE SECOND FORM. 'bulk': how many values and letters a reading holds, each counted each time it is reached (what is shared counts as often as it is met; a slice's spare places count too). A statement '..UptoSaid' is the law's where the arguments, and the package variables that the reading takes, are together of bulk at most 1048576: NARROWER than '..Said'. Prove '..Said' where nothing that the law and all that it calls make is longer than what came in: it says more and counts as full. Else prove '..UptoSaid'. A law counts once. -/
mutual
def uptoBulk {H : Type} : DataW H → Nat
  | .lit (.string bytes) => bytes.length + 1
  | .lit _ => 1
  | .nil => 1
  | .ptr d => uptoBulk d + 1
  | .slice elems spare => uptoBulkAll elems + uptoBulkAll spare + 1
  | .agg parts => uptoBulkAll parts + 1
  | .iface _ d => uptoBulk d + 1
  | .map entries => uptoBulkEntries entries + 1
  | .held _ => 1
def uptoBulkAll {H : Type} : List (DataW H) → Nat
  | [] => 0
  | d :: r => uptoBulk d + uptoBulkAll r
def uptoBulkEntries {H : Type} : List (Lit × DataW H) → Nat
  | [] => 0
  | x :: r => uptoBulkEntry x + uptoBulkEntries r
def uptoBulkEntry {H : Type} : Lit × DataW H → Nat
  | (.string bytes, d) => bytes.length + uptoBulk d + 1
  | (_, d) => uptoBulk d + 1
 end
def uptoSmall : (H : Type) → List (DataW H) → Bool := fun _ ds => decide (uptoBulkAll ds ≤ 1048576)
def OpenSpec.upto (s : _root_.Go.ChangeSpec) : _root_.Go.OpenSpec := { _root_.Go.OpenSpec.ofChange s with cond := some uptoSmall }

/-- 'laws.FnExactCutRuns', WHERE WHAT IT READS IS OF BULK AT MOST 1048576: true; the input reads as it did. -/
def fnExactCutRunsUptoRow : OpenClaim := { program := "ytmpbhhggbmjfcaa", sum := "20a70919b1ecfc1ac80dc2826365340b7ca8d81d7ff257a659b6713cbc175e7a", func := "loop.example/g03305/laws.FnExactCutRuns", spec := "fnExactCutRuns", inPlace := ["internal/bytealg.CountString", "internal/bytealg.IndexByteString", "internal/bytealg.IndexString"], named := ["internal/bytealg.MaxLen"], apart := false, narrowed := true }
def FnExactCutRunsUptoSaid : Prop := fnExactCutRunsUptoRow.holds Try.pinned (OpenSpec.upto fnExactCutRunsSpec)

/-- 'laws.FnExactCountWithRoom', WHERE WHAT IT READS IS OF BULK AT MOST 1048576: true; the input reads as it did. -/
def fnExactCountWithRoomUptoRow : OpenClaim := { program := "ytmpbhhggbmjfcaa", sum := "20a70919b1ecfc1ac80dc2826365340b7ca8d81d7ff257a659b6713cbc175e7a", func := "loop.example/g03305/laws.FnExactCountWithRoom", spec := "fnExactCountWithRoom", recurses := true, apart := false, narrowed := true }
def FnExactCountWithRoomUptoSaid : Prop := fnExactCountWithRoomUptoRow.holds Try.pinned (OpenSpec.upto fnExactCountWithRoomSpec)

/-- 'laws.FnExactFaceOf', WHERE WHAT IT READS IS OF BULK AT MOST 1048576: true; the input reads as it did. -/
def fnExactFaceOfUptoRow : OpenClaim := { program := "ytmpbhhggbmjfcaa", sum := "20a70919b1ecfc1ac80dc2826365340b7ca8d81d7ff257a659b6713cbc175e7a", func := "loop.example/g03305/laws.FnExactFaceOf", spec := "fnExactFaceOf", inPlace := ["internal/bytealg.CountString", "internal/bytealg.IndexByteString", "internal/bytealg.IndexString"], recurses := true, named := ["internal/bytealg.MaxLen"], apart := false, narrowed := true }
def FnExactFaceOfUptoSaid : Prop := fnExactFaceOfUptoRow.holds Try.pinned (OpenSpec.upto fnExactFaceOfSpec)

/-- 'laws.FnExactCountFaces', WHERE WHAT IT READS IS OF BULK AT MOST 1048576: true; the input reads as it did. -/
def fnExactCountFacesUptoRow : OpenClaim := { program := "ytmpbhhggbmjfcaa", sum := "20a70919b1ecfc1ac80dc2826365340b7ca8d81d7ff257a659b6713cbc175e7a", func := "loop.example/g03305/laws.FnExactCountFaces", spec := "fnExactCountFaces", inPlace := ["internal/bytealg.CountString", "internal/bytealg.IndexByteString", "internal/bytealg.IndexString"], recurses := true, named := ["internal/bytealg.MaxLen"], apart := false, narrowed := true }
def FnExactCountFacesUptoSaid : Prop := fnExactCountFacesUptoRow.holds Try.pinned (OpenSpec.upto fnExactCountFacesSpec)

/-- 'laws.FnExactFaceSize', WHERE WHAT IT READS IS OF BULK AT MOST 1048576: true; the input reads as it did. -/
def fnExactFaceSizeUptoRow : OpenClaim := { program := "ytmpbhhggbmjfcaa", sum := "20a70919b1ecfc1ac80dc2826365340b7ca8d81d7ff257a659b6713cbc175e7a", func := "loop.example/g03305/laws.FnExactFaceSize", spec := "fnExactFaceSize", inPlace := ["internal/bytealg.CountString", "internal/bytealg.IndexByteString", "internal/bytealg.IndexString"], recurses := true, named := ["internal/bytealg.MaxLen"], apart := false, narrowed := true }
def FnExactFaceSizeUptoSaid : Prop := fnExactFaceSizeUptoRow.holds Try.pinned (OpenSpec.upto fnExactFaceSizeSpec)

/-- 'laws.FnExactLowerCard', WHERE WHAT IT READS IS OF BULK AT MOST 1048576: true; the input reads as it did. -/
def fnExactLowerCardUptoRow : OpenClaim := { program := "ytmpbhhggbmjfcaa", sum := "20a70919b1ecfc1ac80dc2826365340b7ca8d81d7ff257a659b6713cbc175e7a", func := "loop.example/g03305/laws.FnExactLowerCard", spec := "fnExactLowerCard", inPlace := ["internal/bytealg.CountString", "internal/bytealg.IndexByteString", "internal/bytealg.IndexString"], unfollowed := true, recurses := true, named := ["internal/bytealg.MaxLen"], apart := false, narrowed := true }
def FnExactLowerCardUptoSaid : Prop := fnExactLowerCardUptoRow.holds Try.pinned (OpenSpec.upto fnExactLowerCardSpec)

/-- 'laws.FnExactUpperCard', WHERE WHAT IT READS IS OF BULK AT MOST 1048576: true; the input reads as it did. -/
def fnExactUpperCardUptoRow : OpenClaim := { program := "ytmpbhhggbmjfcaa", sum := "20a70919b1ecfc1ac80dc2826365340b7ca8d81d7ff257a659b6713cbc175e7a", func := "loop.example/g03305/laws.FnExactUpperCard", spec := "fnExactUpperCard", inPlace := ["internal/bytealg.CountString", "internal/bytealg.IndexByteString", "internal/bytealg.IndexString"], unfollowed := true, recurses := true, named := ["internal/bytealg.MaxLen"], apart := false, narrowed := true }
def FnExactUpperCardUptoSaid : Prop := fnExactUpperCardUptoRow.holds Try.pinned (OpenSpec.upto fnExactUpperCardSpec)

/-- 'laws.FnCorners', WHERE WHAT IT READS IS OF BULK AT MOST 1048576: true; the input reads as it did. -/
def fnCornersUptoRow : OpenClaim := { program := "ytmpbhhggbmjfcaa", sum := "20a70919b1ecfc1ac80dc2826365340b7ca8d81d7ff257a659b6713cbc175e7a", func := "loop.example/g03305/laws.FnCorners", spec := "fnCorners", inPlace := ["internal/bytealg.CountString", "internal/bytealg.IndexByteString", "internal/bytealg.IndexString", "internal/abi.NoEscape", "internal/bytealg.MakeNoZero"], named := ["internal/bytealg.MaxLen"], apart := false, narrowed := true }
def FnCornersUptoSaid : Prop := fnCornersUptoRow.holds Try.pinned (OpenSpec.upto fnCornersSpec)

/-- 'laws.FnFaces', WHERE WHAT IT READS IS OF BULK AT MOST 1048576: true; the input reads as it did. -/
def fnFacesUptoRow : OpenClaim := { program := "ytmpbhhggbmjfcaa", sum := "20a70919b1ecfc1ac80dc2826365340b7ca8d81d7ff257a659b6713cbc175e7a", func := "loop.example/g03305/laws.FnFaces", spec := "fnFaces", inPlace := ["internal/bytealg.CountString", "internal/bytealg.IndexByteString", "internal/bytealg.IndexString"], recurses := true, named := ["internal/bytealg.MaxLen"], apart := false, narrowed := true }
def FnFacesUptoSaid : Prop := fnFacesUptoRow.holds Try.pinned (OpenSpec.upto fnFacesSpec)

end Rows
end Go.Proofs.Ytmpbhhggbmjfcaa
