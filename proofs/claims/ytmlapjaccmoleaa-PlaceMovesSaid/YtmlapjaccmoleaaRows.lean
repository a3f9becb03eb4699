/-
  No cell of these rows narrows 'for every input' (looked for: loops, veiled, ifaces, maps, wideKeys, modest, calm, conditions, laid).
  DERIVED. THE GIVEN ROWS OF THIS SEAT. 18 by the template 'for every input the law returns true; each argument reads behind the call as it read before'; 0 by the template 'total and deterministic' (their statements: YtmlapjaccmoleaaTotals.lean).
  GIVEN WITH THE SEED: the statements are not yours to turn. If you find one false, say at which input.
  Laid BY PROGRAM, IN A SANDBOX (cutbox-rows.mjs): the forced cells as the released guide's own fill.sh prints them over the translation c616717553fdb7c0… (all of the seat's roots in one cut). By AI agents, Wed Nov 11 2026. No macro, syntax, notation, axiom, sorry.
-/
import Derived.Test.YtmlapjaccmoleaaChecked
import GoSem.Claim
import GoSem.ClaimJoined
import GoSem.ClaimMapViews
import Derived.JoinedTies
import Derived.KernelRfl
namespace Go.Proofs.Ytmlapjaccmoleaa
/- THE CELL 'sum', in the pinned program and in every row, IS THE sha256 OF THE DUMP (.gsa) THAT YtmlapjaccmoleaaProg.lean LOADS. Nothing in Lean hashes anything: it is a label: what it is worth is what the hold of that sum in a sandbox is worth. -/
noncomputable def Try.pinned : Pinned := { name := "ytmlapjaccmoleaa", sum := "c616717553fdb7c06e983018e6dd2d435a36c76fb438b6f652eae6b3ea3cc2da", checked := Try.checked }
namespace Rows
def none {H : Type} : Left H := { results := [], args := [] }

/-- 'quantumlaw23.PlaceTells': WHATEVER THE INPUT: true; the input reads as it did. -/
def placeTellsSpec : ChangeSpec := { name := "placeTells", fn := fun _ => fun
  | [d1, d2, d3, d4] => { results := [.lit (.bool true)], args := [d1, d2, d3, d4] }
  | _ => none }
def placeTellsRow : OpenClaim := { program := "ytmlapjaccmoleaa", sum := "c616717553fdb7c06e983018e6dd2d435a36c76fb438b6f652eae6b3ea3cc2da", func := "quantum/quantumlaw23.PlaceTells", spec := "placeTells", unfollowed := true, recurses := true, apart := false }
def PlaceTellsSaid : Prop := placeTellsRow.holds Try.pinned (OpenSpec.ofChange placeTellsSpec)

/-- ITS FALSE NEIGHBOUR: 'it returns false'. Refute it at one input. -/
def placeTellsWrong : ChangeSpec := { name := "placeTells", fn := fun _ => fun
  | [d1, d2, d3, d4] => { results := [.lit (.bool false)], args := [d1, d2, d3, d4] }
  | _ => none }
def PlaceTellsWrongFalsely : Prop := placeTellsRow.holds Try.pinned (OpenSpec.ofChange placeTellsWrong)

/-- 'quantumlaw23.PlaceMoves': WHATEVER THE INPUT: true; the input reads as it did. -/
def placeMovesSpec : ChangeSpec := { name := "placeMoves", fn := fun _ => fun
  | [d1, d2, d3, d4] => { results := [.lit (.bool true)], args := [d1, d2, d3, d4] }
  | _ => none }
def placeMovesRow : OpenClaim := { program := "ytmlapjaccmoleaa", sum := "c616717553fdb7c06e983018e6dd2d435a36c76fb438b6f652eae6b3ea3cc2da", func := "quantum/quantumlaw23.PlaceMoves", spec := "placeMoves", unfollowed := true, recurses := true, apart := false }
def PlaceMovesSaid : Prop := placeMovesRow.holds Try.pinned (OpenSpec.ofChange placeMovesSpec)

/-- ITS FALSE NEIGHBOUR: 'it returns false'. Refute it at one input. -/
def placeMovesWrong : ChangeSpec := { name := "placeMoves", fn := fun _ => fun
  | [d1, d2, d3, d4] => { results := [.lit (.bool false)], args := [d1, d2, d3, d4] }
  | _ => none }
def PlaceMovesWrongFalsely : Prop := placeMovesRow.holds Try.pinned (OpenSpec.ofChange placeMovesWrong)

/-- 'quantumlaw23.PlaceWakes': WHATEVER THE INPUT: true; the input reads as it did. -/
def placeWakesSpec : ChangeSpec := { name := "placeWakes", fn := fun _ => fun
  | [d1, d2, d3, d4, d5] => { results := [.lit (.bool true)], args := [d1, d2, d3, d4, d5] }
  | _ => none }
def placeWakesRow : OpenClaim := { program := "ytmlapjaccmoleaa", sum := "c616717553fdb7c06e983018e6dd2d435a36c76fb438b6f652eae6b3ea3cc2da", func := "quantum/quantumlaw23.PlaceWakes", spec := "placeWakes", unfollowed := true, recurses := true, apart := false }
def PlaceWakesSaid : Prop := placeWakesRow.holds Try.pinned (OpenSpec.ofChange placeWakesSpec)

/-- ITS FALSE NEIGHBOUR: 'it returns false'. Refute it at one input. -/
def placeWakesWrong : ChangeSpec := { name := "placeWakes", fn := fun _ => fun
  | [d1, d2, d3, d4, d5] => { results := [.lit (.bool false)], args := [d1, d2, d3, d4, d5] }
  | _ => none }
def PlaceWakesWrongFalsely : Prop := placeWakesRow.holds Try.pinned (OpenSpec.ofChange placeWakesWrong)

/-- 'quantumlaw23.PlaceBegins': WHATEVER THE INPUT: true; the input reads as it did. -/
def placeBeginsSpec : ChangeSpec := { name := "placeBegins", fn := fun _ => fun
  | [d1, d2, d3, d4] => { results := [.lit (.bool true)], args := [d1, d2, d3, d4] }
  | _ => none }
def placeBeginsRow : OpenClaim := { program := "ytmlapjaccmoleaa", sum := "c616717553fdb7c06e983018e6dd2d435a36c76fb438b6f652eae6b3ea3cc2da", func := "quantum/quantumlaw23.PlaceBegins", spec := "placeBegins", unfollowed := true, recurses := true, apart := false }
def PlaceBeginsSaid : Prop := placeBeginsRow.holds Try.pinned (OpenSpec.ofChange placeBeginsSpec)

/-- ITS FALSE NEIGHBOUR: 'it returns false'. Refute it at one input. -/
def placeBeginsWrong : ChangeSpec := { name := "placeBegins", fn := fun _ => fun
  | [d1, d2, d3, d4] => { results := [.lit (.bool false)], args := [d1, d2, d3, d4] }
  | _ => none }
def PlaceBeginsWrongFalsely : Prop := placeBeginsRow.holds Try.pinned (OpenSpec.ofChange placeBeginsWrong)

/-- 'quantumlaw23.PlaceFloors': WHATEVER THE INPUT: true; the input reads as it did. -/
def placeFloorsSpec : ChangeSpec := { name := "placeFloors", fn := fun _ => fun
  | [d1, d2, d3, d4] => { results := [.lit (.bool true)], args := [d1, d2, d3, d4] }
  | _ => none }
def placeFloorsRow : OpenClaim := { program := "ytmlapjaccmoleaa", sum := "c616717553fdb7c06e983018e6dd2d435a36c76fb438b6f652eae6b3ea3cc2da", func := "quantum/quantumlaw23.PlaceFloors", spec := "placeFloors", unfollowed := true, recurses := true, apart := false }
def PlaceFloorsSaid : Prop := placeFloorsRow.holds Try.pinned (OpenSpec.ofChange placeFloorsSpec)

/-- ITS FALSE NEIGHBOUR: 'it returns false'. Refute it at one input. -/
def placeFloorsWrong : ChangeSpec := { name := "placeFloors", fn := fun _ => fun
  | [d1, d2, d3, d4] => { results := [.lit (.bool false)], args := [d1, d2, d3, d4] }
  | _ => none }
def PlaceFloorsWrongFalsely : Prop := placeFloorsRow.holds Try.pinned (OpenSpec.ofChange placeFloorsWrong)

/-- 'quantumlaw23.PlaceDistance': WHATEVER THE INPUT: true; the input reads as it did. -/
def placeDistanceSpec : ChangeSpec := { name := "placeDistance", fn := fun _ => fun
  | [d1, d2, d3] => { results := [.lit (.bool true)], args := [d1, d2, d3] }
  | _ => none }
def placeDistanceRow : OpenClaim := { program := "ytmlapjaccmoleaa", sum := "c616717553fdb7c06e983018e6dd2d435a36c76fb438b6f652eae6b3ea3cc2da", func := "quantum/quantumlaw23.PlaceDistance", spec := "placeDistance", unfollowed := true, recurses := true, apart := false }
def PlaceDistanceSaid : Prop := placeDistanceRow.holds Try.pinned (OpenSpec.ofChange placeDistanceSpec)

/-- ITS FALSE NEIGHBOUR: 'it returns false'. Refute it at one input. -/
def placeDistanceWrong : ChangeSpec := { name := "placeDistance", fn := fun _ => fun
  | [d1, d2, d3] => { results := [.lit (.bool false)], args := [d1, d2, d3] }
  | _ => none }
def PlaceDistanceWrongFalsely : Prop := placeDistanceRow.holds Try.pinned (OpenSpec.ofChange placeDistanceWrong)

/-- 'quantumlaw23.PlaceWrong': WHATEVER THE INPUT: true; the input reads as it did. -/
def placeWrongSpec : ChangeSpec := { name := "placeWrong", fn := fun _ => fun
  | [d1, d2, d3, d4, d5] => { results := [.lit (.bool true)], args := [d1, d2, d3, d4, d5] }
  | _ => none }
def placeWrongRow : OpenClaim := { program := "ytmlapjaccmoleaa", sum := "c616717553fdb7c06e983018e6dd2d435a36c76fb438b6f652eae6b3ea3cc2da", func := "quantum/quantumlaw23.PlaceWrong", spec := "placeWrong", unfollowed := true, recurses := true, apart := false }
def PlaceWrongSaid : Prop := placeWrongRow.holds Try.pinned (OpenSpec.ofChange placeWrongSpec)

/-- ITS FALSE NEIGHBOUR: 'it returns false'. Refute it at one input. -/
def placeWrongWrong : ChangeSpec := { name := "placeWrong", fn := fun _ => fun
  | [d1, d2, d3, d4, d5] => { results := [.lit (.bool false)], args := [d1, d2, d3, d4, d5] }
  | _ => none }
def PlaceWrongWrongFalsely : Prop := placeWrongRow.holds Try.pinned (OpenSpec.ofChange placeWrongWrong)

/-- 'quantumlaw23.PlaceFloor': WHATEVER THE INPUT: true; the input reads as it did. -/
def placeFloorSpec : ChangeSpec := { name := "placeFloor", fn := fun _ => fun
  | [d1, d2] => { results := [.lit (.bool true)], args := [d1, d2] }
  | _ => none }
def placeFloorRow : OpenClaim := { program := "ytmlapjaccmoleaa", sum := "c616717553fdb7c06e983018e6dd2d435a36c76fb438b6f652eae6b3ea3cc2da", func := "quantum/quantumlaw23.PlaceFloor", spec := "placeFloor", unfollowed := true, recurses := true, apart := false }
def PlaceFloorSaid : Prop := placeFloorRow.holds Try.pinned (OpenSpec.ofChange placeFloorSpec)

/-- ITS FALSE NEIGHBOUR: 'it returns false'. Refute it at one input. -/
def placeFloorWrong : ChangeSpec := { name := "placeFloor", fn := fun _ => fun
  | [d1, d2] => { results := [.lit (.bool false)], args := [d1, d2] }
  | _ => none }
def PlaceFloorWrongFalsely : Prop := placeFloorRow.holds Try.pinned (OpenSpec.ofChange placeFloorWrong)

/-- 'quantumlaw23.PlaceSmall': WHATEVER THE INPUT: true; the input reads as it did. -/
def placeSmallSpec : ChangeSpec := { name := "placeSmall", fn := fun _ => fun
  | [] => { results := [.lit (.bool true)], args := [] }
  | _ => none }
def placeSmallRow : OpenClaim := { program := "ytmlapjaccmoleaa", sum := "c616717553fdb7c06e983018e6dd2d435a36c76fb438b6f652eae6b3ea3cc2da", func := "quantum/quantumlaw23.PlaceSmall", spec := "placeSmall", unfollowed := true, recurses := true, apart := false }
def PlaceSmallSaid : Prop := placeSmallRow.holds Try.pinned (OpenSpec.ofChange placeSmallSpec)

/-- ITS FALSE NEIGHBOUR: 'it returns false'. Refute it at one input. -/
def placeSmallWrong : ChangeSpec := { name := "placeSmall", fn := fun _ => fun
  | [] => { results := [.lit (.bool false)], args := [] }
  | _ => none }
def PlaceSmallWrongFalsely : Prop := placeSmallRow.holds Try.pinned (OpenSpec.ofChange placeSmallWrong)

/-- 'quantumlaw26.MoveThrough': WHATEVER THE INPUT: true; the input reads as it did. -/
def moveThroughSpec : ChangeSpec := { name := "moveThrough", fn := fun _ => fun
  | [d1, d2, d3] => { results := [.lit (.bool true)], args := [d1, d2, d3] }
  | _ => none }
def moveThroughRow : OpenClaim := { program := "ytmlapjaccmoleaa", sum := "c616717553fdb7c06e983018e6dd2d435a36c76fb438b6f652eae6b3ea3cc2da", func := "quantum/quantumlaw26.MoveThrough", spec := "moveThrough", unfollowed := true, recurses := true, apart := false }
def MoveThroughSaid : Prop := moveThroughRow.holds Try.pinned (OpenSpec.ofChange moveThroughSpec)

/-- ITS FALSE NEIGHBOUR: 'it returns false'. Refute it at one input. -/
def moveThroughWrong : ChangeSpec := { name := "moveThrough", fn := fun _ => fun
  | [d1, d2, d3] => { results := [.lit (.bool false)], args := [d1, d2, d3] }
  | _ => none }
def MoveThroughWrongFalsely : Prop := moveThroughRow.holds Try.pinned (OpenSpec.ofChange moveThroughWrong)

/-- 'quantumlaw26.MoveReach': WHATEVER THE INPUT: true; the input reads as it did. -/
def moveReachSpec : ChangeSpec := { name := "moveReach", fn := fun _ => fun
  | [d1, d2] => { results := [.lit (.bool true)], args := [d1, d2] }
  | _ => none }
def moveReachRow : OpenClaim := { program := "ytmlapjaccmoleaa", sum := "c616717553fdb7c06e983018e6dd2d435a36c76fb438b6f652eae6b3ea3cc2da", func := "quantum/quantumlaw26.MoveReach", spec := "moveReach", unfollowed := true, recurses := true, apart := false }
def MoveReachSaid : Prop := moveReachRow.holds Try.pinned (OpenSpec.ofChange moveReachSpec)

/-- ITS FALSE NEIGHBOUR: 'it returns false'. Refute it at one input. -/
def moveReachWrong : ChangeSpec := { name := "moveReach", fn := fun _ => fun
  | [d1, d2] => { results := [.lit (.bool false)], args := [d1, d2] }
  | _ => none }
def MoveReachWrongFalsely : Prop := moveReachRow.holds Try.pinned (OpenSpec.ofChange moveReachWrong)

/-- 'quantumlaw26.MoveMoves': WHATEVER THE INPUT: true; the input reads as it did. -/
def moveMovesSpec : ChangeSpec := { name := "moveMoves", fn := fun _ => fun
  | [d1, d2, d3] => { results := [.lit (.bool true)], args := [d1, d2, d3] }
  | _ => none }
def moveMovesRow : OpenClaim := { program := "ytmlapjaccmoleaa", sum := "c616717553fdb7c06e983018e6dd2d435a36c76fb438b6f652eae6b3ea3cc2da", func := "quantum/quantumlaw26.MoveMoves", spec := "moveMoves", unfollowed := true, recurses := true, apart := false }
def MoveMovesSaid : Prop := moveMovesRow.holds Try.pinned (OpenSpec.ofChange moveMovesSpec)

/-- ITS FALSE NEIGHBOUR: 'it returns false'. Refute it at one input. -/
def moveMovesWrong : ChangeSpec := { name := "moveMoves", fn := fun _ => fun
  | [d1, d2, d3] => { results := [.lit (.bool false)], args := [d1, d2, d3] }
  | _ => none }
def MoveMovesWrongFalsely : Prop := moveMovesRow.holds Try.pinned (OpenSpec.ofChange moveMovesWrong)

/-- 'quantumlaw26.MoveAll': WHATEVER THE INPUT: true; the input reads as it did. -/
def moveAllSpec : ChangeSpec := { name := "moveAll", fn := fun _ => fun
  | [d1, d2, d3] => { results := [.lit (.bool true)], args := [d1, d2, d3] }
  | _ => none }
def moveAllRow : OpenClaim := { program := "ytmlapjaccmoleaa", sum := "c616717553fdb7c06e983018e6dd2d435a36c76fb438b6f652eae6b3ea3cc2da", func := "quantum/quantumlaw26.MoveAll", spec := "moveAll", unfollowed := true, recurses := true, apart := false }
def MoveAllSaid : Prop := moveAllRow.holds Try.pinned (OpenSpec.ofChange moveAllSpec)

/-- ITS FALSE NEIGHBOUR: 'it returns false'. Refute it at one input. -/
def moveAllWrong : ChangeSpec := { name := "moveAll", fn := fun _ => fun
  | [d1, d2, d3] => { results := [.lit (.bool false)], args := [d1, d2, d3] }
  | _ => none }
def MoveAllWrongFalsely : Prop := moveAllRow.holds Try.pinned (OpenSpec.ofChange moveAllWrong)

/-- 'quantumlaw26.MoveMany': WHATEVER THE INPUT: true; the input reads as it did. -/
def moveManySpec : ChangeSpec := { name := "moveMany", fn := fun _ => fun
  | [d1, d2] => { results := [.lit (.bool true)], args := [d1, d2] }
  | _ => none }
def moveManyRow : OpenClaim := { program := "ytmlapjaccmoleaa", sum := "c616717553fdb7c06e983018e6dd2d435a36c76fb438b6f652eae6b3ea3cc2da", func := "quantum/quantumlaw26.MoveMany", spec := "moveMany", unfollowed := true, recurses := true, apart := false }
def MoveManySaid : Prop := moveManyRow.holds Try.pinned (OpenSpec.ofChange moveManySpec)

/-- ITS FALSE NEIGHBOUR: 'it returns false'. Refute it at one input. -/
def moveManyWrong : ChangeSpec := { name := "moveMany", fn := fun _ => fun
  | [d1, d2] => { results := [.lit (.bool false)], args := [d1, d2] }
  | _ => none }
def MoveManyWrongFalsely : Prop := moveManyRow.holds Try.pinned (OpenSpec.ofChange moveManyWrong)

/-- 'quantumlaw26.MoveTells': WHATEVER THE INPUT: true; the input reads as it did. -/
def moveTellsSpec : ChangeSpec := { name := "moveTells", fn := fun _ => fun
  | [d1, d2, d3, d4] => { results := [.lit (.bool true)], args := [d1, d2, d3, d4] }
  | _ => none }
def moveTellsRow : OpenClaim := { program := "ytmlapjaccmoleaa", sum := "c616717553fdb7c06e983018e6dd2d435a36c76fb438b6f652eae6b3ea3cc2da", func := "quantum/quantumlaw26.MoveTells", spec := "moveTells", unfollowed := true, recurses := true, apart := false }
def MoveTellsSaid : Prop := moveTellsRow.holds Try.pinned (OpenSpec.ofChange moveTellsSpec)

/-- ITS FALSE NEIGHBOUR: 'it returns false'. Refute it at one input. -/
def moveTellsWrong : ChangeSpec := { name := "moveTells", fn := fun _ => fun
  | [d1, d2, d3, d4] => { results := [.lit (.bool false)], args := [d1, d2, d3, d4] }
  | _ => none }
def MoveTellsWrongFalsely : Prop := moveTellsRow.holds Try.pinned (OpenSpec.ofChange moveTellsWrong)

/-- 'quantumlaw26.MoveOrder': WHATEVER THE INPUT: true; the input reads as it did. -/
def moveOrderSpec : ChangeSpec := { name := "moveOrder", fn := fun _ => fun
  | [d1, d2, d3, d4] => { results := [.lit (.bool true)], args := [d1, d2, d3, d4] }
  | _ => none }
def moveOrderRow : OpenClaim := { program := "ytmlapjaccmoleaa", sum := "c616717553fdb7c06e983018e6dd2d435a36c76fb438b6f652eae6b3ea3cc2da", func := "quantum/quantumlaw26.MoveOrder", spec := "moveOrder", unfollowed := true, recurses := true, apart := false }
def MoveOrderSaid : Prop := moveOrderRow.holds Try.pinned (OpenSpec.ofChange moveOrderSpec)

/-- ITS FALSE NEIGHBOUR: 'it returns false'. Refute it at one input. -/
def moveOrderWrong : ChangeSpec := { name := "moveOrder", fn := fun _ => fun
  | [d1, d2, d3, d4] => { results := [.lit (.bool false)], args := [d1, d2, d3, d4] }
  | _ => none }
def MoveOrderWrongFalsely : Prop := moveOrderRow.holds Try.pinned (OpenSpec.ofChange moveOrderWrong)

/-- 'quantumlaw26.MoveWrong': WHATEVER THE INPUT: true; the input reads as it did. -/
def moveWrongSpec : ChangeSpec := { name := "moveWrong", fn := fun _ => fun
  | [d1, d2, d3, d4, d5] => { results := [.lit (.bool true)], args := [d1, d2, d3, d4, d5] }
  | _ => none }
def moveWrongRow : OpenClaim := { program := "ytmlapjaccmoleaa", sum := "c616717553fdb7c06e983018e6dd2d435a36c76fb438b6f652eae6b3ea3cc2da", func := "quantum/quantumlaw26.MoveWrong", spec := "moveWrong", unfollowed := true, recurses := true, apart := false }
def MoveWrongSaid : Prop := moveWrongRow.holds Try.pinned (OpenSpec.ofChange moveWrongSpec)

/-- ITS FALSE NEIGHBOUR: 'it returns false'. Refute it at one input. -/
def moveWrongWrong : ChangeSpec := { name := "moveWrong", fn := fun _ => fun
  | [d1, d2, d3, d4, d5] => { results := [.lit (.bool false)], args := [d1, d2, d3, d4, d5] }
  | _ => none }
def MoveWrongWrongFalsely : Prop := moveWrongRow.holds Try.pinned (OpenSpec.ofChange moveWrongWrong)

/-- 'quantumlaw26.MoveSmall': WHATEVER THE INPUT: true; the input reads as it did. -/
def moveSmallSpec : ChangeSpec := { name := "moveSmall", fn := fun _ => fun
  | [] => { results := [.lit (.bool true)], args := [] }
  | _ => none }
def moveSmallRow : OpenClaim := { program := "ytmlapjaccmoleaa", sum := "c616717553fdb7c06e983018e6dd2d435a36c76fb438b6f652eae6b3ea3cc2da", func := "quantum/quantumlaw26.MoveSmall", spec := "moveSmall", unfollowed := true, recurses := true, apart := false }
def MoveSmallSaid : Prop := moveSmallRow.holds Try.pinned (OpenSpec.ofChange moveSmallSpec)

/-- ITS FALSE NEIGHBOUR: 'it returns false'. Refute it at one input. -/
def moveSmallWrong : ChangeSpec := { name := "moveSmall", fn := fun _ => fun
  | [] => { results := [.lit (.bool false)], args := [] }
  | _ => none }
def MoveSmallWrongFalsely : Prop := moveSmallRow.holds Try.pinned (OpenSpec.ofChange moveSmallWrong)

/- THE SECOND FORM. 'bulk': how many values and letters a reading holds, each counted each time it is reached (what is shared counts as often as it is met; a slice's spare places count too). A statement '..UptoSaid' is the law's where the arguments, and the package variables that the reading takes, are together of bulk at most 1048576: NARROWER than '..Said'. Prove '..Said' where nothing that the law and all that it calls make is longer than what came in: it says more and counts as full. Else prove '..UptoSaid'. A law counts once. -/
mutual
def uptoBulk {H : Type} : DataW H → Nat
  | .lit (.string bytes) => bytes.length + 1
  | .lit _ => 1
  | .nil => 1
  | .ptr d => uptoBulk d + 1
  | .slice elems spare => uptoBulkAll elems + uptoBulkAll spare + 1
  | .agg parts => uptoBulkAll parts + 1
  | .iface _ d => uptoBulk d + 1
  | .map entries => uptoBulkEntries entries + 1
  | .held _ => 1
def uptoBulkAll {H : Type} : List (DataW H) → Nat
  | [] => 0
  | d :: r => uptoBulk d + uptoBulkAll r
def uptoBulkEntries {H : Type} : List (Lit × DataW H) → Nat
  | [] => 0
  | x :: r => uptoBulkEntry x + uptoBulkEntries r
def uptoBulkEntry {H : Type} : Lit × DataW H → Nat
  | (.string bytes, d) => bytes.length + uptoBulk d + 1
  | (_, d) => uptoBulk d + 1
 end
def uptoSmall : (H : Type) → List (DataW H) → Bool := fun _ ds => decide (uptoBulkAll ds ≤ 1048576)
def OpenSpec.upto (s : _root_.Go.ChangeSpec) : _root_.Go.OpenSpec := { _root_.Go.OpenSpec.ofChange s with cond := some uptoSmall }

/-- 'quantumlaw23.PlaceTells', WHERE WHAT IT READS IS OF BULK AT MOST 1048576: true; the input reads as it did. -/
def placeTellsUptoRow : OpenClaim := { program := "ytmlapjaccmoleaa", sum := "c616717553fdb7c06e983018e6dd2d435a36c76fb438b6f652eae6b3ea3cc2da", func := "quantum/quantumlaw23.PlaceTells", spec := "placeTells", unfollowed := true, recurses := true, apart := false, narrowed := true }
def PlaceTellsUptoSaid : Prop := placeTellsUptoRow.holds Try.pinned (OpenSpec.upto placeTellsSpec)

/-- 'quantumlaw23.PlaceMoves', WHERE WHAT IT READS IS OF BULK AT MOST 1048576: true; the input reads as it did. -/
def placeMovesUptoRow : OpenClaim := { program := "ytmlapjaccmoleaa", sum := "c616717553fdb7c06e983018e6dd2d435a36c76fb438b6f652eae6b3ea3cc2da", func := "quantum/quantumlaw23.PlaceMoves", spec := "placeMoves", unfollowed := true, recurses := true, apart := false, narrowed := true }
def PlaceMovesUptoSaid : Prop := placeMovesUptoRow.holds Try.pinned (OpenSpec.upto placeMovesSpec)

/-- 'quantumlaw23.PlaceWakes', WHERE WHAT IT READS IS OF BULK AT MOST 1048576: true; the input reads as it did. -/
def placeWakesUptoRow : OpenClaim := { program := "ytmlapjaccmoleaa", sum := "c616717553fdb7c06e983018e6dd2d435a36c76fb438b6f652eae6b3ea3cc2da", func := "quantum/quantumlaw23.PlaceWakes", spec := "placeWakes", unfollowed := true, recurses := true, apart := false, narrowed := true }
def PlaceWakesUptoSaid : Prop := placeWakesUptoRow.holds Try.pinned (OpenSpec.upto placeWakesSpec)

/-- 'quantumlaw23.PlaceBegins', WHERE WHAT IT READS IS OF BULK AT MOST 1048576: true; the input reads as it did. -/
def placeBeginsUptoRow : OpenClaim := { program := "ytmlapjaccmoleaa", sum := "c616717553fdb7c06e983018e6dd2d435a36c76fb438b6f652eae6b3ea3cc2da", func := "quantum/quantumlaw23.PlaceBegins", spec := "placeBegins", unfollowed := true, recurses := true, apart := false, narrowed := true }
def PlaceBeginsUptoSaid : Prop := placeBeginsUptoRow.holds Try.pinned (OpenSpec.upto placeBeginsSpec)

/-- 'quantumlaw23.PlaceFloors', WHERE WHAT IT READS IS OF BULK AT MOST 1048576: true; the input reads as it did. -/
def placeFloorsUptoRow : OpenClaim := { program := "ytmlapjaccmoleaa", sum := "c616717553fdb7c06e983018e6dd2d435a36c76fb438b6f652eae6b3ea3cc2da", func := "quantum/quantumlaw23.PlaceFloors", spec := "placeFloors", unfollowed := true, recurses := true, apart := false, narrowed := true }
def PlaceFloorsUptoSaid : Prop := placeFloorsUptoRow.holds Try.pinned (OpenSpec.upto placeFloorsSpec)

/-- 'quantumlaw23.PlaceDistance', WHERE WHAT IT READS IS OF BULK AT MOST 1048576: true; the input reads as it did. -/
def placeDistanceUptoRow : OpenClaim := { program := "ytmlapjaccmoleaa", sum := "c616717553fdb7c06e983018e6dd2d435a36c76fb438b6f652eae6b3ea3cc2da", func := "quantum/quantumlaw23.PlaceDistance", spec := "placeDistance", unfollowed := true, recurses := true, apart := false, narrowed := true }
def PlaceDistanceUptoSaid : Prop := placeDistanceUptoRow.holds Try.pinned (OpenSpec.upto placeDistanceSpec)

/-- 'quantumlaw23.PlaceWrong', WHERE WHAT IT READS IS OF BULK AT MOST 1048576: true; the input reads as it did. -/
def placeWrongUptoRow : OpenClaim := { program := "ytmlapjaccmoleaa", sum := "c616717553fdb7c06e983018e6dd2d435a36c76fb438b6f652eae6b3ea3cc2da", func := "quantum/quantumlaw23.PlaceWrong", spec := "placeWrong", unfollowed := true, recurses := true, apart := false, narrowed := true }
def PlaceWrongUptoSaid : Prop := placeWrongUptoRow.holds Try.pinned (OpenSpec.upto placeWrongSpec)

/-- 'quantumlaw23.PlaceFloor', WHERE WHAT IT READS IS OF BULK AT MOST 1048576: true; the input reads as it did. -/
def placeFloorUptoRow : OpenClaim := { program := "ytmlapjaccmoleaa", sum := "c616717553fdb7c06e983018e6dd2d435a36c76fb438b6f652eae6b3ea3cc2da", func := "quantum/quantumlaw23.PlaceFloor", spec := "placeFloor", unfollowed := true, recurses := true, apart := false, narrowed := true }
def PlaceFloorUptoSaid : Prop := placeFloorUptoRow.holds Try.pinned (OpenSpec.upto placeFloorSpec)

/-- 'quantumlaw23.PlaceSmall', WHERE WHAT IT READS IS OF BULK AT MOST 1048576: true; the input reads as it did. -/
def placeSmallUptoRow : OpenClaim := { program := "ytmlapjaccmoleaa", sum := "c616717553fdb7c06e983018e6dd2d435a36c76fb438b6f652eae6b3ea3cc2da", func := "quantum/quantumlaw23.PlaceSmall", spec := "placeSmall", unfollowed := true, recurses := true, apart := false, narrowed := true }
def PlaceSmallUptoSaid : Prop := placeSmallUptoRow.holds Try.pinned (OpenSpec.upto placeSmallSpec)

/-- 'quantumlaw26.MoveThrough', WHERE WHAT IT READS IS OF BULK AT MOST 1048576: true; the input reads as it did. -/
def moveThroughUptoRow : OpenClaim := { program := "ytmlapjaccmoleaa", sum := "c616717553fdb7c06e983018e6dd2d435a36c76fb438b6f652eae6b3ea3cc2da", func := "quantum/quantumlaw26.MoveThrough", spec := "moveThrough", unfollowed := true, recurses := true, apart := false, narrowed := true }
def MoveThroughUptoSaid : Prop := moveThroughUptoRow.holds Try.pinned (OpenSpec.upto moveThroughSpec)

/-- 'quantumlaw26.MoveReach', WHERE WHAT IT READS IS OF BULK AT MOST 1048576: true; the input reads as it did. -/
def moveReachUptoRow : OpenClaim := { program := "ytmlapjaccmoleaa", sum := "c616717553fdb7c06e983018e6dd2d435a36c76fb438b6f652eae6b3ea3cc2da", func := "quantum/quantumlaw26.MoveReach", spec := "moveReach", unfollowed := true, recurses := true, apart := false, narrowed := true }
def MoveReachUptoSaid : Prop := moveReachUptoRow.holds Try.pinned (OpenSpec.upto moveReachSpec)

/-- 'quantumlaw26.MoveMoves', WHERE WHAT IT READS IS OF BULK AT MOST 1048576: true; the input reads as it did. -/
def moveMovesUptoRow : OpenClaim := { program := "ytmlapjaccmoleaa", sum := "c616717553fdb7c06e983018e6dd2d435a36c76fb438b6f652eae6b3ea3cc2da", func := "quantum/quantumlaw26.MoveMoves", spec := "moveMoves", unfollowed := true, recurses := true, apart := false, narrowed := true }
def MoveMovesUptoSaid : Prop := moveMovesUptoRow.holds Try.pinned (OpenSpec.upto moveMovesSpec)

/-- 'quantumlaw26.MoveAll', WHERE WHAT IT READS IS OF BULK AT MOST 1048576: true; the input reads as it did. -/
def moveAllUptoRow : OpenClaim := { program := "ytmlapjaccmoleaa", sum := "c616717553fdb7c06e983018e6dd2d435a36c76fb438b6f652eae6b3ea3cc2da", func := "quantum/quantumlaw26.MoveAll", spec := "moveAll", unfollowed := true, recurses := true, apart := false, narrowed := true }
def MoveAllUptoSaid : Prop := moveAllUptoRow.holds Try.pinned (OpenSpec.upto moveAllSpec)

/-- 'quantumlaw26.MoveMany', WHERE WHAT IT READS IS OF BULK AT MOST 1048576: true; the input reads as it did. -/
def moveManyUptoRow : OpenClaim := { program := "ytmlapjaccmoleaa", sum := "c616717553fdb7c06e983018e6dd2d435a36c76fb438b6f652eae6b3ea3cc2da", func := "quantum/quantumlaw26.MoveMany", spec := "moveMany", unfollowed := true, recurses := true, apart := false, narrowed := true }
def MoveManyUptoSaid : Prop := moveManyUptoRow.holds Try.pinned (OpenSpec.upto moveManySpec)

/-- 'quantumlaw26.MoveTells', WHERE WHAT IT READS IS OF BULK AT MOST 1048576: true; the input reads as it did. -/
def moveTellsUptoRow : OpenClaim := { program := "ytmlapjaccmoleaa", sum := "c616717553fdb7c06e983018e6dd2d435a36c76fb438b6f652eae6b3ea3cc2da", func := "quantum/quantumlaw26.MoveTells", spec := "moveTells", unfollowed := true, recurses := true, apart := false, narrowed := true }
def MoveTellsUptoSaid : Prop := moveTellsUptoRow.holds Try.pinned (OpenSpec.upto moveTellsSpec)

/-- 'quantumlaw26.MoveOrder', WHERE WHAT IT READS IS OF BULK AT MOST 1048576: true; the input reads as it did. -/
def moveOrderUptoRow : OpenClaim := { program := "ytmlapjaccmoleaa", sum := "c616717553fdb7c06e983018e6dd2d435a36c76fb438b6f652eae6b3ea3cc2da", func := "quantum/quantumlaw26.MoveOrder", spec := "moveOrder", unfollowed := true, recurses := true, apart := false, narrowed := true }
def MoveOrderUptoSaid : Prop := moveOrderUptoRow.holds Try.pinned (OpenSpec.upto moveOrderSpec)

/-- 'quantumlaw26.MoveWrong', WHERE WHAT IT READS IS OF BULK AT MOST 1048576: true; the input reads as it did. -/
def moveWrongUptoRow : OpenClaim := { program := "ytmlapjaccmoleaa", sum := "c616717553fdb7c06e983018e6dd2d435a36c76fb438b6f652eae6b3ea3cc2da", func := "quantum/quantumlaw26.MoveWrong", spec := "moveWrong", unfollowed := true, recurses := true, apart := false, narrowed := true }
def MoveWrongUptoSaid : Prop := moveWrongUptoRow.holds Try.pinned (OpenSpec.upto moveWrongSpec)

/-- 'quantumlaw26.MoveSmall', WHERE WHAT IT READS IS OF BULK AT MOST 1048576: true; the input reads as it did. -/
def moveSmallUptoRow : OpenClaim := { program := "ytmlapjaccmoleaa", sum := "c616717553fdb7c06e983018e6dd2d435a36c76fb438b6f652eae6b3ea3cc2da", func := "quantum/quantumlaw26.MoveSmall", spec := "moveSmall", unfollowed := true, recurses := true, apart := false, narrowed := true }
def MoveSmallUptoSaid : Prop := moveSmallUptoRow.holds Try.pinned (OpenSpec.upto moveSmallSpec)

end Rows
end Go.Proofs.Ytmlapjaccmoleaa
