/-
  No cell of these rows narrows 'for every input' (looked for: loops, veiled, ifaces, maps, wideKeys, modest, calm, conditions, laid).
  DERIVED. THE GIVEN ROWS OF THIS SEAT. 9 by the template 'for every input the law returns true; each argument reads behind the call as it read before'; 0 by the template 'total and deterministic' (their statements: YtjffikiebeneaaaTotals.lean).
  GIVEN WITH THE SEED: the statements are not yours to turn. If you find one false, say at which input.
  Laid BY PROGRAM, IN A SANDBOX (cutbox-rows.mjs): the forced cells as the released guide's own fill.sh prints them over the translation 6ff4d93ccfcfac05… (all of the seat's roots in one cut). By AI agents, Wed Nov 11 2026. No macro, syntax, notation, axiom, sorry.
-/
import Derived.Test.YtjffikiebeneaaaChecked
import GoSem.Claim
import GoSem.ClaimJoined
import GoSem.ClaimMapViews
import Derived.JoinedTies
import Derived.KernelRfl
namespace Go.Proofs.Ytjffikiebeneaaa
/- THE CELL 'sum', in the pinned program and in every row, IS THE sha256 OF THE DUMP (.gsa) THAT YtjffikiebeneaaaProg.lean LOADS. Nothing in Lean hashes anything: it is a label: what it is worth is what the hold of that sum in a sandbox is worth. -/
noncomputable def Try.pinned : Pinned := { name := "ytjffikiebeneaaa", sum := "6ff4d93ccfcfac05208ffbbca77b9ec8c8f0f9c20133d227ef2b94c87bf57525", checked := Try.checked }
namespace Rows
def none {H : Type} : Left H := { results := [], args := [] }

/-- 'quantumlaw17.ShareLaws': WHATEVER THE INPUT: true; the input reads as it did. -/
def shareLawsSpec : ChangeSpec := { name := "shareLaws", fn := fun _ => fun
  | [d1, d2, d3] => { results := [.lit (.bool true)], args := [d1, d2, d3] }
  | _ => none }
def shareLawsRow : OpenClaim := { program := "ytjffikiebeneaaa", sum := "6ff4d93ccfcfac05208ffbbca77b9ec8c8f0f9c20133d227ef2b94c87bf57525", func := "quantum/quantumlaw17.ShareLaws", spec := "shareLaws", unfollowed := true, recurses := true, apart := false }
def ShareLawsSaid : Prop := shareLawsRow.holds Try.pinned (OpenSpec.ofChange shareLawsSpec)

/-- ITS FALSE NEIGHBOUR: 'it returns false'. Refute it at one input. -/
def shareLawsWrong : ChangeSpec := { name := "shareLaws", fn := fun _ => fun
  | [d1, d2, d3] => { results := [.lit (.bool false)], args := [d1, d2, d3] }
  | _ => none }
def ShareLawsWrongFalsely : Prop := shareLawsRow.holds Try.pinned (OpenSpec.ofChange shareLawsWrong)

/-- 'quantumlaw17.ShareOrder': WHATEVER THE INPUT: true; the input reads as it did. -/
def shareOrderSpec : ChangeSpec := { name := "shareOrder", fn := fun _ => fun
  | [d1, d2, d3] => { results := [.lit (.bool true)], args := [d1, d2, d3] }
  | _ => none }
def shareOrderRow : OpenClaim := { program := "ytjffikiebeneaaa", sum := "6ff4d93ccfcfac05208ffbbca77b9ec8c8f0f9c20133d227ef2b94c87bf57525", func := "quantum/quantumlaw17.ShareOrder", spec := "shareOrder", unfollowed := true, recurses := true, apart := false }
def ShareOrderSaid : Prop := shareOrderRow.holds Try.pinned (OpenSpec.ofChange shareOrderSpec)

/-- ITS FALSE NEIGHBOUR: 'it returns false'. Refute it at one input. -/
def shareOrderWrong : ChangeSpec := { name := "shareOrder", fn := fun _ => fun
  | [d1, d2, d3] => { results := [.lit (.bool false)], args := [d1, d2, d3] }
  | _ => none }
def ShareOrderWrongFalsely : Prop := shareOrderRow.holds Try.pinned (OpenSpec.ofChange shareOrderWrong)

/-- 'quantumlaw17.ShareLists': WHATEVER THE INPUT: true; the input reads as it did. -/
def shareListsSpec : ChangeSpec := { name := "shareLists", fn := fun _ => fun
  | [d1, d2] => { results := [.lit (.bool true)], args := [d1, d2] }
  | _ => none }
def shareListsRow : OpenClaim := { program := "ytjffikiebeneaaa", sum := "6ff4d93ccfcfac05208ffbbca77b9ec8c8f0f9c20133d227ef2b94c87bf57525", func := "quantum/quantumlaw17.ShareLists", spec := "shareLists", unfollowed := true, recurses := true, apart := false }
def ShareListsSaid : Prop := shareListsRow.holds Try.pinned (OpenSpec.ofChange shareListsSpec)

/-- ITS FALSE NEIGHBOUR: 'it returns false'. Refute it at one input. -/
def shareListsWrong : ChangeSpec := { name := "shareLists", fn := fun _ => fun
  | [d1, d2] => { results := [.lit (.bool false)], args := [d1, d2] }
  | _ => none }
def ShareListsWrongFalsely : Prop := shareListsRow.holds Try.pinned (OpenSpec.ofChange shareListsWrong)

/-- 'quantumlaw17.ShareTells': WHATEVER THE INPUT: true; the input reads as it did. -/
def shareTellsSpec : ChangeSpec := { name := "shareTells", fn := fun _ => fun
  | [d1, d2, d3] => { results := [.lit (.bool true)], args := [d1, d2, d3] }
  | _ => none }
def shareTellsRow : OpenClaim := { program := "ytjffikiebeneaaa", sum := "6ff4d93ccfcfac05208ffbbca77b9ec8c8f0f9c20133d227ef2b94c87bf57525", func := "quantum/quantumlaw17.ShareTells", spec := "shareTells", unfollowed := true, recurses := true, apart := false }
def ShareTellsSaid : Prop := shareTellsRow.holds Try.pinned (OpenSpec.ofChange shareTellsSpec)

/-- ITS FALSE NEIGHBOUR: 'it returns false'. Refute it at one input. -/
def shareTellsWrong : ChangeSpec := { name := "shareTells", fn := fun _ => fun
  | [d1, d2, d3] => { results := [.lit (.bool false)], args := [d1, d2, d3] }
  | _ => none }
def ShareTellsWrongFalsely : Prop := shareTellsRow.holds Try.pinned (OpenSpec.ofChange shareTellsWrong)

/-- 'quantumlaw17.ShareParts': WHATEVER THE INPUT: true; the input reads as it did. -/
def sharePartsSpec : ChangeSpec := { name := "shareParts", fn := fun _ => fun
  | [d1, d2] => { results := [.lit (.bool true)], args := [d1, d2] }
  | _ => none }
def sharePartsRow : OpenClaim := { program := "ytjffikiebeneaaa", sum := "6ff4d93ccfcfac05208ffbbca77b9ec8c8f0f9c20133d227ef2b94c87bf57525", func := "quantum/quantumlaw17.ShareParts", spec := "shareParts", unfollowed := true, recurses := true, apart := false }
def SharePartsSaid : Prop := sharePartsRow.holds Try.pinned (OpenSpec.ofChange sharePartsSpec)

/-- ITS FALSE NEIGHBOUR: 'it returns false'. Refute it at one input. -/
def sharePartsWrong : ChangeSpec := { name := "shareParts", fn := fun _ => fun
  | [d1, d2] => { results := [.lit (.bool false)], args := [d1, d2] }
  | _ => none }
def SharePartsWrongFalsely : Prop := sharePartsRow.holds Try.pinned (OpenSpec.ofChange sharePartsWrong)

/-- 'quantumlaw17.ShareScales': WHATEVER THE INPUT: true; the input reads as it did. -/
def shareScalesSpec : ChangeSpec := { name := "shareScales", fn := fun _ => fun
  | [d1, d2] => { results := [.lit (.bool true)], args := [d1, d2] }
  | _ => none }
def shareScalesRow : OpenClaim := { program := "ytjffikiebeneaaa", sum := "6ff4d93ccfcfac05208ffbbca77b9ec8c8f0f9c20133d227ef2b94c87bf57525", func := "quantum/quantumlaw17.ShareScales", spec := "shareScales", unfollowed := true, recurses := true, apart := false }
def ShareScalesSaid : Prop := shareScalesRow.holds Try.pinned (OpenSpec.ofChange shareScalesSpec)

/-- ITS FALSE NEIGHBOUR: 'it returns false'. Refute it at one input. -/
def shareScalesWrong : ChangeSpec := { name := "shareScales", fn := fun _ => fun
  | [d1, d2] => { results := [.lit (.bool false)], args := [d1, d2] }
  | _ => none }
def ShareScalesWrongFalsely : Prop := shareScalesRow.holds Try.pinned (OpenSpec.ofChange shareScalesWrong)

/-- 'quantumlaw17.SharePaths': WHATEVER THE INPUT: true; the input reads as it did. -/
def sharePathsSpec : ChangeSpec := { name := "sharePaths", fn := fun _ => fun
  | [d1, d2, d3] => { results := [.lit (.bool true)], args := [d1, d2, d3] }
  | _ => none }
def sharePathsRow : OpenClaim := { program := "ytjffikiebeneaaa", sum := "6ff4d93ccfcfac05208ffbbca77b9ec8c8f0f9c20133d227ef2b94c87bf57525", func := "quantum/quantumlaw17.SharePaths", spec := "sharePaths", unfollowed := true, recurses := true, apart := false }
def SharePathsSaid : Prop := sharePathsRow.holds Try.pinned (OpenSpec.ofChange sharePathsSpec)

/-- ITS FALSE NEIGHBOUR: 'it returns false'. Refute it at one input. -/
def sharePathsWrong : ChangeSpec := { name := "sharePaths", fn := fun _ => fun
  | [d1, d2, d3] => { results := [.lit (.bool false)], args := [d1, d2, d3] }
  | _ => none }
def SharePathsWrongFalsely : Prop := sharePathsRow.holds Try.pinned (OpenSpec.ofChange sharePathsWrong)

/-- 'quantumlaw17.ShareWrong': WHATEVER THE INPUT: true; the input reads as it did. -/
def shareWrongSpec : ChangeSpec := { name := "shareWrong", fn := fun _ => fun
  | [d1, d2, d3] => { results := [.lit (.bool true)], args := [d1, d2, d3] }
  | _ => none }
def shareWrongRow : OpenClaim := { program := "ytjffikiebeneaaa", sum := "6ff4d93ccfcfac05208ffbbca77b9ec8c8f0f9c20133d227ef2b94c87bf57525", func := "quantum/quantumlaw17.ShareWrong", spec := "shareWrong", unfollowed := true, recurses := true, apart := false }
def ShareWrongSaid : Prop := shareWrongRow.holds Try.pinned (OpenSpec.ofChange shareWrongSpec)

/-- ITS FALSE NEIGHBOUR: 'it returns false'. Refute it at one input. -/
def shareWrongWrong : ChangeSpec := { name := "shareWrong", fn := fun _ => fun
  | [d1, d2, d3] => { results := [.lit (.bool false)], args := [d1, d2, d3] }
  | _ => none }
def ShareWrongWrongFalsely : Prop := shareWrongRow.holds Try.pinned (OpenSpec.ofChange shareWrongWrong)

/-- 'quantumlaw17.ShareSmall': WHATEVER THE INPUT: true; the input reads as it did. -/
def shareSmallSpec : ChangeSpec := { name := "shareSmall", fn := fun _ => fun
  | [] => { results := [.lit (.bool true)], args := [] }
  | _ => none }
def shareSmallRow : OpenClaim := { program := "ytjffikiebeneaaa", sum := "6ff4d93ccfcfac05208ffbbca77b9ec8c8f0f9c20133d227ef2b94c87bf57525", func := "quantum/quantumlaw17.ShareSmall", spec := "shareSmall", unfollowed := true, recurses := true, apart := false }
def ShareSmallSaid : Prop := shareSmallRow.holds Try.pinned (OpenSpec.ofChange shareSmallSpec)

/-- ITS FALSE NEIGHBOUR: 'it returns false'. Refute it at one input. -/
def shareSmallWrong : ChangeSpec := { name := "shareSmall", fn := fun _ => fun
  | [] => { results := [.lit (.bool false)], args := [] }
  | _ => none }
def ShareSmallWrongFalsely : Prop := shareSmallRow.holds Try.pinned (OpenSpec.ofChange shareSmallWrong)

/- THE SECOND FORM. 'bulk': how many values and letters a reading holds, each counted each time it is reached (what is shared counts as often as it is met; a slice's spare places count too). A statement '..UptoSaid' is the law's where the arguments, and the package variables that the reading takes, are together of bulk at most 1048576: NARROWER than '..Said'. Prove '..Said' where nothing that the law and all that it calls make is longer than what came in: it says more and counts as full. Else prove '..UptoSaid'. A law counts once. -/
mutual
def uptoBulk {H : Type} : DataW H → Nat
  | .lit (.string bytes) => bytes.length + 1
  | .lit _ => 1
  | .nil => 1
  | .ptr d => uptoBulk d + 1
  | .slice elems spare => uptoBulkAll elems + uptoBulkAll spare + 1
  | .agg parts => uptoBulkAll parts + 1
  | .iface _ d => uptoBulk d + 1
  | .map entries => uptoBulkEntries entries + 1
  | .held _ => 1
def uptoBulkAll {H : Type} : List (DataW H) → Nat
  | [] => 0
  | d :: r => uptoBulk d + uptoBulkAll r
def uptoBulkEntries {H : Type} : List (Lit × DataW H) → Nat
  | [] => 0
  | x :: r => uptoBulkEntry x + uptoBulkEntries r
def uptoBulkEntry {H : Type} : Lit × DataW H → Nat
  | (.string bytes, d) => bytes.length + uptoBulk d + 1
  | (_, d) => uptoBulk d + 1
 end
def uptoSmall : (H : Type) → List (DataW H) → Bool := fun _ ds => decide (uptoBulkAll ds ≤ 1048576)
def OpenSpec.upto (s : _root_.Go.ChangeSpec) : _root_.Go.OpenSpec := { _root_.Go.OpenSpec.ofChange s with cond := some uptoSmall }

/-- 'quantumlaw17.ShareLaws', WHERE WHAT IT READS IS OF BULK AT MOST 1048576: true; the input reads as it did. -/
def shareLawsUptoRow : OpenClaim := { program := "ytjffikiebeneaaa", sum := "6ff4d93ccfcfac05208ffbbca77b9ec8c8f0f9c20133d227ef2b94c87bf57525", func := "quantum/quantumlaw17.ShareLaws", spec := "shareLaws", unfollowed := true, recurses := true, apart := false, narrowed := true }
def ShareLawsUptoSaid : Prop := shareLawsUptoRow.holds Try.pinned (OpenSpec.upto shareLawsSpec)

/-- 'quantumlaw17.ShareOrder', WHERE WHAT IT READS IS OF BULK AT MOST 1048576: true; the input reads as it did. -/
def shareOrderUptoRow : OpenClaim := { program := "ytjffikiebeneaaa", sum := "6ff4d93ccfcfac05208ffbbca77b9ec8c8f0f9c20133d227ef2b94c87bf57525", func := "quantum/quantumlaw17.ShareOrder", spec := "shareOrder", unfollowed := true, recurses := true, apart := false, narrowed := true }
def ShareOrderUptoSaid : Prop := shareOrderUptoRow.holds Try.pinned (OpenSpec.upto shareOrderSpec)

/-- 'quantumlaw17.ShareLists', WHERE WHAT IT READS IS OF BULK AT MOST 1048576: true; the input reads as it did. -/
def shareListsUptoRow : OpenClaim := { program := "ytjffikiebeneaaa", sum := "6ff4d93ccfcfac05208ffbbca77b9ec8c8f0f9c20133d227ef2b94c87bf57525", func := "quantum/quantumlaw17.ShareLists", spec := "shareLists", unfollowed := true, recurses := true, apart := false, narrowed := true }
def ShareListsUptoSaid : Prop := shareListsUptoRow.holds Try.pinned (OpenSpec.upto shareListsSpec)

/-- 'quantumlaw17.ShareTells', WHERE WHAT IT READS IS OF BULK AT MOST 1048576: true; the input reads as it did. -/
def shareTellsUptoRow : OpenClaim := { program := "ytjffikiebeneaaa", sum := "6ff4d93ccfcfac05208ffbbca77b9ec8c8f0f9c20133d227ef2b94c87bf57525", func := "quantum/quantumlaw17.ShareTells", spec := "shareTells", unfollowed := true, recurses := true, apart := false, narrowed := true }
def ShareTellsUptoSaid : Prop := shareTellsUptoRow.holds Try.pinned (OpenSpec.upto shareTellsSpec)

/-- 'quantumlaw17.ShareParts', WHERE WHAT IT READS IS OF BULK AT MOST 1048576: true; the input reads as it did. -/
def sharePartsUptoRow : OpenClaim := { program := "ytjffikiebeneaaa", sum := "6ff4d93ccfcfac05208ffbbca77b9ec8c8f0f9c20133d227ef2b94c87bf57525", func := "quantum/quantumlaw17.ShareParts", spec := "shareParts", unfollowed := true, recurses := true, apart := false, narrowed := true }
def SharePartsUptoSaid : Prop := sharePartsUptoRow.holds Try.pinned (OpenSpec.upto sharePartsSpec)

/-- 'quantumlaw17.ShareScales', WHERE WHAT IT READS IS OF BULK AT MOST 1048576: true; the input reads as it did. -/
def shareScalesUptoRow : OpenClaim := { program := "ytjffikiebeneaaa", sum := "6ff4d93ccfcfac05208ffbbca77b9ec8c8f0f9c20133d227ef2b94c87bf57525", func := "quantum/quantumlaw17.ShareScales", spec := "shareScales", unfollowed := true, recurses := true, apart := false, narrowed := true }
def ShareScalesUptoSaid : Prop := shareScalesUptoRow.holds Try.pinned (OpenSpec.upto shareScalesSpec)

/-- 'quantumlaw17.SharePaths', WHERE WHAT IT READS IS OF BULK AT MOST 1048576: true; the input reads as it did. -/
def sharePathsUptoRow : OpenClaim := { program := "ytjffikiebeneaaa", sum := "6ff4d93ccfcfac05208ffbbca77b9ec8c8f0f9c20133d227ef2b94c87bf57525", func := "quantum/quantumlaw17.SharePaths", spec := "sharePaths", unfollowed := true, recurses := true, apart := false, narrowed := true }
def SharePathsUptoSaid : Prop := sharePathsUptoRow.holds Try.pinned (OpenSpec.upto sharePathsSpec)

/-- 'quantumlaw17.ShareWrong', WHERE WHAT IT READS IS OF BULK AT MOST 1048576: true; the input reads as it did. -/
def shareWrongUptoRow : OpenClaim := { program := "ytjffikiebeneaaa", sum := "6ff4d93ccfcfac05208ffbbca77b9ec8c8f0f9c20133d227ef2b94c87bf57525", func := "quantum/quantumlaw17.ShareWrong", spec := "shareWrong", unfollowed := true, recurses := true, apart := false, narrowed := true }
def ShareWrongUptoSaid : Prop := shareWrongUptoRow.holds Try.pinned (OpenSpec.upto shareWrongSpec)

/-- 'quantumlaw17.ShareSmall', WHERE WHAT IT READS IS OF BULK AT MOST 1048576: true; the input reads as it did. -/
def shareSmallUptoRow : OpenClaim := { program := "ytjffikiebeneaaa", sum := "6ff4d93ccfcfac05208ffbbca77b9ec8c8f0f9c20133d227ef2b94c87bf57525", func := "quantum/quantumlaw17.ShareSmall", spec := "shareSmall", unfollowed := true, recurses := true, apart := false, narrowed := true }
def ShareSmallUptoSaid : Prop := shareSmallUptoRow.holds Try.pinned (OpenSpec.upto shareSmallSpec)

end Rows
end Go.Proofs.Ytjffikiebeneaaa
