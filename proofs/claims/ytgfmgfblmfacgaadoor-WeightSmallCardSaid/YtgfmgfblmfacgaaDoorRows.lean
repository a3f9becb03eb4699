/-
  NARROWER THAN 'FOR EVERY INPUT', by the rows' own cells (each row's printed sentence says how): WeightTells: laid · WeightExact: laid · WeightAdds: laid · WeightOrder: laid · WeightApprox: laid · WeightLevels: laid · WeightSums: laid · WeightWrong: laid · WeightTotal: laid · WeightSmall: laid.
  DERIVED. THE GIVEN ROWS OF THIS SEAT. 10 by the template 'for every input the law returns true; each argument reads behind the call as it read before'; 0 by the template 'total and deterministic' (their statements: YtgfmgfblmfacgaaDoorTotals.lean).
  GIVEN WITH THE SEED: the statements are not yours to turn. If you find one false, say at which input.
  Laid BY PROGRAM, IN A SANDBOX (cutbox-rows.mjs): the forced cells as the released guide's own fill.sh prints them over the translation 5282c8cf454f79cf… (all of the seat's roots in one cut). By AI agents, Wed Nov 11 2026. No macro, syntax, notation, axiom, sorry.
-/
import Derived.Test.YtgfmgfblmfacgaaDoorChecked
import GoSem.Claim
import GoSem.ClaimJoined
import GoSem.ClaimMapViews
import Derived.JoinedTies
import Derived.KernelRfl
namespace Go.Proofs.YtgfmgfblmfacgaaDoor
/- THE CELL 'sum', in the pinned program and in every row, IS THE sha256 OF THE DUMP (.gsa) THAT YtgfmgfblmfacgaaDoorProg.lean LOADS. Nothing in Lean hashes anything: it is a label: what it is worth is what the hold of that sum in a sandbox is worth. -/
noncomputable def Tryd.pinned : Pinned := { name := "ytgfmgfblmfacgaadoor", sum := "5282c8cf454f79cf29778c3691326f74ecf265a4c0cfc22168001c7f769d091d", checked := Tryd.checked }
namespace Rows
def none {H : Type} : Left H := { results := [], args := [] }

/- WHAT THE LISTED PACKAGE-LEVEL VARIABLES READ AS WHEN THE CALL BEGINS. Each datum BY PROGRAM (the guide's laid-datum.mjs) off the statement by which the dump's own 'gosem.cut.vars' lays the variable. In a bare row this is a premise. The card (YtgfmgfblmfacgaaDoorCards.lean) ties it to the program's text. -/
def laid_quantum_weight_weights {H : Type} : DataW H := .agg [.lit (.int .i64 56856), .lit (.int .i64 45485), .lit (.int .i64 36388), .lit (.int .i64 29110), .lit (.int .i64 23288), .lit (.int .i64 18630), .lit (.int .i64 14904), .lit (.int .i64 11923), .lit (.int .i64 9538), .lit (.int .i64 7630), .lit (.int .i64 6104), .lit (.int .i64 4883), .lit (.int .i64 3906), .lit (.int .i64 3125), .lit (.int .i64 2500), .lit (.int .i64 2000), .lit (.int .i64 1600), .lit (.int .i64 1280), .lit (.int .i64 1024), .lit (.int .i64 819), .lit (.int .i64 655), .lit (.int .i64 524), .lit (.int .i64 419), .lit (.int .i64 335), .lit (.int .i64 268), .lit (.int .i64 214), .lit (.int .i64 171), .lit (.int .i64 137), .lit (.int .i64 110), .lit (.int .i64 88), .lit (.int .i64 70), .lit (.int .i64 56), .lit (.int .i64 45), .lit (.int .i64 36), .lit (.int .i64 29), .lit (.int .i64 23)]

/-- 'quantumlaw16.WeightTells': WHATEVER THE INPUT: true; the input reads as it did. -/
def weightTellsSpec : ChangeSpec := { name := "weightTells", fn := fun _ => fun
  | [d1, d2, d3, d4] => { results := [.lit (.bool true)], args := [d1, d2, d3, d4] }
  | _ => none }
def weightTellsRow : OpenClaim := { program := "ytgfmgfblmfacgaadoor", sum := "5282c8cf454f79cf29778c3691326f74ecf265a4c0cfc22168001c7f769d091d", func := "quantum/quantumlaw16.WeightTells", spec := "weightTells", named := ["quantum/weight.weights"], apart := false, laid := [("quantum/weight.weights", laid_quantum_weight_weights)] }
def WeightTellsSaid : Prop := weightTellsRow.holds Tryd.pinned (OpenSpec.ofChange weightTellsSpec)

/-- ITS FALSE NEIGHBOUR: 'it returns false'. Refute it at one input. -/
def weightTellsWrong : ChangeSpec := { name := "weightTells", fn := fun _ => fun
  | [d1, d2, d3, d4] => { results := [.lit (.bool false)], args := [d1, d2, d3, d4] }
  | _ => none }
def WeightTellsWrongFalsely : Prop := weightTellsRow.holds Tryd.pinned (OpenSpec.ofChange weightTellsWrong)

/-- 'quantumlaw16.WeightExact': WHATEVER THE INPUT: true; the input reads as it did. -/
def weightExactSpec : ChangeSpec := { name := "weightExact", fn := fun _ => fun
  | [d1, d2] => { results := [.lit (.bool true)], args := [d1, d2] }
  | _ => none }
def weightExactRow : OpenClaim := { program := "ytgfmgfblmfacgaadoor", sum := "5282c8cf454f79cf29778c3691326f74ecf265a4c0cfc22168001c7f769d091d", func := "quantum/quantumlaw16.WeightExact", spec := "weightExact", named := ["quantum/weight.weights"], apart := false, laid := [("quantum/weight.weights", laid_quantum_weight_weights)] }
def WeightExactSaid : Prop := weightExactRow.holds Tryd.pinned (OpenSpec.ofChange weightExactSpec)

/-- ITS FALSE NEIGHBOUR: 'it returns false'. Refute it at one input. -/
def weightExactWrong : ChangeSpec := { name := "weightExact", fn := fun _ => fun
  | [d1, d2] => { results := [.lit (.bool false)], args := [d1, d2] }
  | _ => none }
def WeightExactWrongFalsely : Prop := weightExactRow.holds Tryd.pinned (OpenSpec.ofChange weightExactWrong)

/-- 'quantumlaw16.WeightAdds': WHATEVER THE INPUT: true; the input reads as it did. -/
def weightAddsSpec : ChangeSpec := { name := "weightAdds", fn := fun _ => fun
  | [d1, d2] => { results := [.lit (.bool true)], args := [d1, d2] }
  | _ => none }
def weightAddsRow : OpenClaim := { program := "ytgfmgfblmfacgaadoor", sum := "5282c8cf454f79cf29778c3691326f74ecf265a4c0cfc22168001c7f769d091d", func := "quantum/quantumlaw16.WeightAdds", spec := "weightAdds", named := ["quantum/weight.weights"], apart := false, laid := [("quantum/weight.weights", laid_quantum_weight_weights)] }
def WeightAddsSaid : Prop := weightAddsRow.holds Tryd.pinned (OpenSpec.ofChange weightAddsSpec)

/-- ITS FALSE NEIGHBOUR: 'it returns false'. Refute it at one input. -/
def weightAddsWrong : ChangeSpec := { name := "weightAdds", fn := fun _ => fun
  | [d1, d2] => { results := [.lit (.bool false)], args := [d1, d2] }
  | _ => none }
def WeightAddsWrongFalsely : Prop := weightAddsRow.holds Tryd.pinned (OpenSpec.ofChange weightAddsWrong)

/-- 'quantumlaw16.WeightOrder': WHATEVER THE INPUT: true; the input reads as it did. -/
def weightOrderSpec : ChangeSpec := { name := "weightOrder", fn := fun _ => fun
  | [d1, d2, d3, d4] => { results := [.lit (.bool true)], args := [d1, d2, d3, d4] }
  | _ => none }
def weightOrderRow : OpenClaim := { program := "ytgfmgfblmfacgaadoor", sum := "5282c8cf454f79cf29778c3691326f74ecf265a4c0cfc22168001c7f769d091d", func := "quantum/quantumlaw16.WeightOrder", spec := "weightOrder", named := ["quantum/weight.weights"], apart := false, laid := [("quantum/weight.weights", laid_quantum_weight_weights)] }
def WeightOrderSaid : Prop := weightOrderRow.holds Tryd.pinned (OpenSpec.ofChange weightOrderSpec)

/-- ITS FALSE NEIGHBOUR: 'it returns false'. Refute it at one input. -/
def weightOrderWrong : ChangeSpec := { name := "weightOrder", fn := fun _ => fun
  | [d1, d2, d3, d4] => { results := [.lit (.bool false)], args := [d1, d2, d3, d4] }
  | _ => none }
def WeightOrderWrongFalsely : Prop := weightOrderRow.holds Tryd.pinned (OpenSpec.ofChange weightOrderWrong)

/-- 'quantumlaw16.WeightApprox': WHATEVER THE INPUT: true; the input reads as it did. -/
def weightApproxSpec : ChangeSpec := { name := "weightApprox", fn := fun _ => fun
  | [d1, d2, d3] => { results := [.lit (.bool true)], args := [d1, d2, d3] }
  | _ => none }
def weightApproxRow : OpenClaim := { program := "ytgfmgfblmfacgaadoor", sum := "5282c8cf454f79cf29778c3691326f74ecf265a4c0cfc22168001c7f769d091d", func := "quantum/quantumlaw16.WeightApprox", spec := "weightApprox", named := ["quantum/weight.weights"], apart := false, laid := [("quantum/weight.weights", laid_quantum_weight_weights)] }
def WeightApproxSaid : Prop := weightApproxRow.holds Tryd.pinned (OpenSpec.ofChange weightApproxSpec)

/-- ITS FALSE NEIGHBOUR: 'it returns false'. Refute it at one input. -/
def weightApproxWrong : ChangeSpec := { name := "weightApprox", fn := fun _ => fun
  | [d1, d2, d3] => { results := [.lit (.bool false)], args := [d1, d2, d3] }
  | _ => none }
def WeightApproxWrongFalsely : Prop := weightApproxRow.holds Tryd.pinned (OpenSpec.ofChange weightApproxWrong)

/-- 'quantumlaw16.WeightLevels': WHATEVER THE INPUT: true; the input reads as it did. -/
def weightLevelsSpec : ChangeSpec := { name := "weightLevels", fn := fun _ => fun
  | [d] => { results := [.lit (.bool true)], args := [d] }
  | _ => none }
def weightLevelsRow : OpenClaim := { program := "ytgfmgfblmfacgaadoor", sum := "5282c8cf454f79cf29778c3691326f74ecf265a4c0cfc22168001c7f769d091d", func := "quantum/quantumlaw16.WeightLevels", spec := "weightLevels", named := ["quantum/weight.weights"], apart := false, laid := [("quantum/weight.weights", laid_quantum_weight_weights)] }
def WeightLevelsSaid : Prop := weightLevelsRow.holds Tryd.pinned (OpenSpec.ofChange weightLevelsSpec)

/-- ITS FALSE NEIGHBOUR: 'it returns false'. Refute it at one input. -/
def weightLevelsWrong : ChangeSpec := { name := "weightLevels", fn := fun _ => fun
  | [d] => { results := [.lit (.bool false)], args := [d] }
  | _ => none }
def WeightLevelsWrongFalsely : Prop := weightLevelsRow.holds Tryd.pinned (OpenSpec.ofChange weightLevelsWrong)

/-- 'quantumlaw16.WeightSums': WHATEVER THE INPUT: true; the input reads as it did. -/
def weightSumsSpec : ChangeSpec := { name := "weightSums", fn := fun _ => fun
  | [d1, d2] => { results := [.lit (.bool true)], args := [d1, d2] }
  | _ => none }
def weightSumsRow : OpenClaim := { program := "ytgfmgfblmfacgaadoor", sum := "5282c8cf454f79cf29778c3691326f74ecf265a4c0cfc22168001c7f769d091d", func := "quantum/quantumlaw16.WeightSums", spec := "weightSums", unfollowed := true, recurses := true, named := ["quantum/weight.weights"], apart := false, laid := [("quantum/weight.weights", laid_quantum_weight_weights)] }
def WeightSumsSaid : Prop := weightSumsRow.holds Tryd.pinned (OpenSpec.ofChange weightSumsSpec)

/-- ITS FALSE NEIGHBOUR: 'it returns false'. Refute it at one input. -/
def weightSumsWrong : ChangeSpec := { name := "weightSums", fn := fun _ => fun
  | [d1, d2] => { results := [.lit (.bool false)], args := [d1, d2] }
  | _ => none }
def WeightSumsWrongFalsely : Prop := weightSumsRow.holds Tryd.pinned (OpenSpec.ofChange weightSumsWrong)

/-- 'quantumlaw16.WeightWrong': WHATEVER THE INPUT: true; the input reads as it did. -/
def weightWrongSpec : ChangeSpec := { name := "weightWrong", fn := fun _ => fun
  | [d1, d2, d3] => { results := [.lit (.bool true)], args := [d1, d2, d3] }
  | _ => none }
def weightWrongRow : OpenClaim := { program := "ytgfmgfblmfacgaadoor", sum := "5282c8cf454f79cf29778c3691326f74ecf265a4c0cfc22168001c7f769d091d", func := "quantum/quantumlaw16.WeightWrong", spec := "weightWrong", unfollowed := true, recurses := true, named := ["quantum/weight.weights"], apart := false, laid := [("quantum/weight.weights", laid_quantum_weight_weights)] }
def WeightWrongSaid : Prop := weightWrongRow.holds Tryd.pinned (OpenSpec.ofChange weightWrongSpec)

/-- ITS FALSE NEIGHBOUR: 'it returns false'. Refute it at one input. -/
def weightWrongWrong : ChangeSpec := { name := "weightWrong", fn := fun _ => fun
  | [d1, d2, d3] => { results := [.lit (.bool false)], args := [d1, d2, d3] }
  | _ => none }
def WeightWrongWrongFalsely : Prop := weightWrongRow.holds Tryd.pinned (OpenSpec.ofChange weightWrongWrong)

/-- 'quantumlaw16.WeightTotal': WHATEVER THE INPUT: true; the input reads as it did. -/
def weightTotalSpec : ChangeSpec := { name := "weightTotal", fn := fun _ => fun
  | [d] => { results := [.lit (.bool true)], args := [d] }
  | _ => none }
def weightTotalRow : OpenClaim := { program := "ytgfmgfblmfacgaadoor", sum := "5282c8cf454f79cf29778c3691326f74ecf265a4c0cfc22168001c7f769d091d", func := "quantum/quantumlaw16.WeightTotal", spec := "weightTotal", unfollowed := true, recurses := true, named := ["quantum/weight.weights"], apart := false, laid := [("quantum/weight.weights", laid_quantum_weight_weights)] }
def WeightTotalSaid : Prop := weightTotalRow.holds Tryd.pinned (OpenSpec.ofChange weightTotalSpec)

/-- ITS FALSE NEIGHBOUR: 'it returns false'. Refute it at one input. -/
def weightTotalWrong : ChangeSpec := { name := "weightTotal", fn := fun _ => fun
  | [d] => { results := [.lit (.bool false)], args := [d] }
  | _ => none }
def WeightTotalWrongFalsely : Prop := weightTotalRow.holds Tryd.pinned (OpenSpec.ofChange weightTotalWrong)

/-- 'quantumlaw16.WeightSmall': WHATEVER THE INPUT: true; the input reads as it did. -/
def weightSmallSpec : ChangeSpec := { name := "weightSmall", fn := fun _ => fun
  | [] => { results := [.lit (.bool true)], args := [] }
  | _ => none }
def weightSmallRow : OpenClaim := { program := "ytgfmgfblmfacgaadoor", sum := "5282c8cf454f79cf29778c3691326f74ecf265a4c0cfc22168001c7f769d091d", func := "quantum/quantumlaw16.WeightSmall", spec := "weightSmall", unfollowed := true, recurses := true, named := ["quantum/weight.weights"], apart := false, laid := [("quantum/weight.weights", laid_quantum_weight_weights)] }
def WeightSmallSaid : Prop := weightSmallRow.holds Tryd.pinned (OpenSpec.ofChange weightSmallSpec)

/-- ITS FALSE NEIGHBOUR: 'it returns false'. Refute it at one input. -/
def weightSmallWrong : ChangeSpec := { name := "weightSmall", fn := fun _ => fun
  | [] => { results := [.lit (.bool false)], args := [] }
  | _ => none }
def WeightSmallWrongFalsely : Prop := weightSmallRow.holds Tryd.pinned (OpenSpec.ofChange weightSmallWrong)

/- THE SECOND FORM. 'bulk': how many values and letters a reading holds, each counted each time it is reached (what is shared counts as often as it is met; a slice's spare places count too). A statement '..UptoSaid' is the law's where the arguments, and the package variables that the reading takes, are together of bulk at most 1048576: NARROWER than '..Said'. Prove '..Said' where nothing that the law and all that it calls make is longer than what came in: it says more and counts as full. Else prove '..UptoSaid'. A law counts once. -/
mutual
def uptoBulk {H : Type} : DataW H → Nat
  | .lit (.string bytes) => bytes.length + 1
  | .lit _ => 1
  | .nil => 1
  | .ptr d => uptoBulk d + 1
  | .slice elems spare => uptoBulkAll elems + uptoBulkAll spare + 1
  | .agg parts => uptoBulkAll parts + 1
  | .iface _ d => uptoBulk d + 1
  | .map entries => uptoBulkEntries entries + 1
  | .held _ => 1
def uptoBulkAll {H : Type} : List (DataW H) → Nat
  | [] => 0
  | d :: r => uptoBulk d + uptoBulkAll r
def uptoBulkEntries {H : Type} : List (Lit × DataW H) → Nat
  | [] => 0
  | x :: r => uptoBulkEntry x + uptoBulkEntries r
def uptoBulkEntry {H : Type} : Lit × DataW H → Nat
  | (.string bytes, d) => bytes.length + uptoBulk d + 1
  | (_, d) => uptoBulk d + 1
 end
def uptoSmall : (H : Type) → List (DataW H) → Bool := fun _ ds => decide (uptoBulkAll ds ≤ 1048576)
def OpenSpec.upto (s : _root_.Go.ChangeSpec) : _root_.Go.OpenSpec := { _root_.Go.OpenSpec.ofChange s with cond := some uptoSmall }

/-- 'quantumlaw16.WeightTells', WHERE WHAT IT READS IS OF BULK AT MOST 1048576: true; the input reads as it did. -/
def weightTellsUptoRow : OpenClaim := { program := "ytgfmgfblmfacgaadoor", sum := "5282c8cf454f79cf29778c3691326f74ecf265a4c0cfc22168001c7f769d091d", func := "quantum/quantumlaw16.WeightTells", spec := "weightTells", named := ["quantum/weight.weights"], apart := false, laid := [("quantum/weight.weights", laid_quantum_weight_weights)], narrowed := true }
def WeightTellsUptoSaid : Prop := weightTellsUptoRow.holds Tryd.pinned (OpenSpec.upto weightTellsSpec)

/-- 'quantumlaw16.WeightExact', WHERE WHAT IT READS IS OF BULK AT MOST 1048576: true; the input reads as it did. -/
def weightExactUptoRow : OpenClaim := { program := "ytgfmgfblmfacgaadoor", sum := "5282c8cf454f79cf29778c3691326f74ecf265a4c0cfc22168001c7f769d091d", func := "quantum/quantumlaw16.WeightExact", spec := "weightExact", named := ["quantum/weight.weights"], apart := false, laid := [("quantum/weight.weights", laid_quantum_weight_weights)], narrowed := true }
def WeightExactUptoSaid : Prop := weightExactUptoRow.holds Tryd.pinned (OpenSpec.upto weightExactSpec)

/-- 'quantumlaw16.WeightAdds', WHERE WHAT IT READS IS OF BULK AT MOST 1048576: true; the input reads as it did. -/
def weightAddsUptoRow : OpenClaim := { program := "ytgfmgfblmfacgaadoor", sum := "5282c8cf454f79cf29778c3691326f74ecf265a4c0cfc22168001c7f769d091d", func := "quantum/quantumlaw16.WeightAdds", spec := "weightAdds", named := ["quantum/weight.weights"], apart := false, laid := [("quantum/weight.weights", laid_quantum_weight_weights)], narrowed := true }
def WeightAddsUptoSaid : Prop := weightAddsUptoRow.holds Tryd.pinned (OpenSpec.upto weightAddsSpec)

/-- 'quantumlaw16.WeightOrder', WHERE WHAT IT READS IS OF BULK AT MOST 1048576: true; the input reads as it did. -/
def weightOrderUptoRow : OpenClaim := { program := "ytgfmgfblmfacgaadoor", sum := "5282c8cf454f79cf29778c3691326f74ecf265a4c0cfc22168001c7f769d091d", func := "quantum/quantumlaw16.WeightOrder", spec := "weightOrder", named := ["quantum/weight.weights"], apart := false, laid := [("quantum/weight.weights", laid_quantum_weight_weights)], narrowed := true }
def WeightOrderUptoSaid : Prop := weightOrderUptoRow.holds Tryd.pinned (OpenSpec.upto weightOrderSpec)

/-- 'quantumlaw16.WeightApprox', WHERE WHAT IT READS IS OF BULK AT MOST 1048576: true; the input reads as it did. -/
def weightApproxUptoRow : OpenClaim := { program := "ytgfmgfblmfacgaadoor", sum := "5282c8cf454f79cf29778c3691326f74ecf265a4c0cfc22168001c7f769d091d", func := "quantum/quantumlaw16.WeightApprox", spec := "weightApprox", named := ["quantum/weight.weights"], apart := false, laid := [("quantum/weight.weights", laid_quantum_weight_weights)], narrowed := true }
def WeightApproxUptoSaid : Prop := weightApproxUptoRow.holds Tryd.pinned (OpenSpec.upto weightApproxSpec)

/-- 'quantumlaw16.WeightLevels', WHERE WHAT IT READS IS OF BULK AT MOST 1048576: true; the input reads as it did. -/
def weightLevelsUptoRow : OpenClaim := { program := "ytgfmgfblmfacgaadoor", sum := "5282c8cf454f79cf29778c3691326f74ecf265a4c0cfc22168001c7f769d091d", func := "quantum/quantumlaw16.WeightLevels", spec := "weightLevels", named := ["quantum/weight.weights"], apart := false, laid := [("quantum/weight.weights", laid_quantum_weight_weights)], narrowed := true }
def WeightLevelsUptoSaid : Prop := weightLevelsUptoRow.holds Tryd.pinned (OpenSpec.upto weightLevelsSpec)

/-- 'quantumlaw16.WeightSums', WHERE WHAT IT READS IS OF BULK AT MOST 1048576: true; the input reads as it did. -/
def weightSumsUptoRow : OpenClaim := { program := "ytgfmgfblmfacgaadoor", sum := "5282c8cf454f79cf29778c3691326f74ecf265a4c0cfc22168001c7f769d091d", func := "quantum/quantumlaw16.WeightSums", spec := "weightSums", unfollowed := true, recurses := true, named := ["quantum/weight.weights"], apart := false, laid := [("quantum/weight.weights", laid_quantum_weight_weights)], narrowed := true }
def WeightSumsUptoSaid : Prop := weightSumsUptoRow.holds Tryd.pinned (OpenSpec.upto weightSumsSpec)

/-- 'quantumlaw16.WeightWrong', WHERE WHAT IT READS IS OF BULK AT MOST 1048576: true; the input reads as it did. -/
def weightWrongUptoRow : OpenClaim := { program := "ytgfmgfblmfacgaadoor", sum := "5282c8cf454f79cf29778c3691326f74ecf265a4c0cfc22168001c7f769d091d", func := "quantum/quantumlaw16.WeightWrong", spec := "weightWrong", unfollowed := true, recurses := true, named := ["quantum/weight.weights"], apart := false, laid := [("quantum/weight.weights", laid_quantum_weight_weights)], narrowed := true }
def WeightWrongUptoSaid : Prop := weightWrongUptoRow.holds Tryd.pinned (OpenSpec.upto weightWrongSpec)

/-- 'quantumlaw16.WeightTotal', WHERE WHAT IT READS IS OF BULK AT MOST 1048576: true; the input reads as it did. -/
def weightTotalUptoRow : OpenClaim := { program := "ytgfmgfblmfacgaadoor", sum := "5282c8cf454f79cf29778c3691326f74ecf265a4c0cfc22168001c7f769d091d", func := "quantum/quantumlaw16.WeightTotal", spec := "weightTotal", unfollowed := true, recurses := true, named := ["quantum/weight.weights"], apart := false, laid := [("quantum/weight.weights", laid_quantum_weight_weights)], narrowed := true }
def WeightTotalUptoSaid : Prop := weightTotalUptoRow.holds Tryd.pinned (OpenSpec.upto weightTotalSpec)

/-- 'quantumlaw16.WeightSmall', WHERE WHAT IT READS IS OF BULK AT MOST 1048576: true; the input reads as it did. -/
def weightSmallUptoRow : OpenClaim := { program := "ytgfmgfblmfacgaadoor", sum := "5282c8cf454f79cf29778c3691326f74ecf265a4c0cfc22168001c7f769d091d", func := "quantum/quantumlaw16.WeightSmall", spec := "weightSmall", unfollowed := true, recurses := true, named := ["quantum/weight.weights"], apart := false, laid := [("quantum/weight.weights", laid_quantum_weight_weights)], narrowed := true }
def WeightSmallUptoSaid : Prop := weightSmallUptoRow.holds Tryd.pinned (OpenSpec.upto weightSmallSpec)

end Rows
end Go.Proofs.YtgfmgfblmfacgaaDoor
