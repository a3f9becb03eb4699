/-
  No cell of these rows narrows 'for every input' (looked for: loops, veiled, ifaces, maps, wideKeys, modest, calm, conditions, laid).
  DERIVED. THE GIVEN ROWS OF THIS SEAT. 7 by the template 'for every input the law returns true; each argument reads behind the call as it read before'; 0 by the template 'total and deterministic' (their statements: YticgdfbknaholaaTotals.lean).
  GIVEN WITH THE SEED: the statements are not yours to turn. If you find one false, say at which input.
  Laid BY PROGRAM, IN A SANDBOX (cutbox-rows.mjs): the forced cells as the released guide's own fill.sh prints them over the translation 1d1fe95f99f8b09f… (all of the seat's roots in one cut). By AI agents, Wed Nov 11 2026. No macro, syntax, notation, axiom, sorry.
-/
import Derived.Test.YticgdfbknaholaaChecked
import GoSem.Claim
import GoSem.ClaimJoined
import GoSem.ClaimMapViews
import Derived.JoinedTies
import Derived.KernelRfl
namespace Go.Proofs.Yticgdfbknaholaa
/- THE CELL 'sum', in the pinned program and in every row, IS THE sha256 OF THE DUMP (.gsa) THAT YticgdfbknaholaaProg.lean LOADS. Nothing in Lean hashes anything: it is a label: what it is worth is what the hold of that sum in a sandbox is worth. -/
noncomputable def Try.pinned : Pinned := { name := "yticgdfbknaholaa", sum := "1d1fe95f99f8b09f30b9b83bed11e4adc1ced1c4578d6dea0790e60c4f678814", checked := Try.checked }
namespace Rows
def none {H : Type} : Left H := { results := [], args := [] }

/-- 'quantumlaw27.BalanceParts': WHATEVER THE INPUT: true; the input reads as it did. -/
def balancePartsSpec : ChangeSpec := { name := "balanceParts", fn := fun _ => fun
  | [d1, d2] => { results := [.lit (.bool true)], args := [d1, d2] }
  | _ => none }
def balancePartsRow : OpenClaim := { program := "yticgdfbknaholaa", sum := "1d1fe95f99f8b09f30b9b83bed11e4adc1ced1c4578d6dea0790e60c4f678814", func := "quantum/quantumlaw27.BalanceParts", spec := "balanceParts", unfollowed := true, recurses := true, apart := false }
def BalancePartsSaid : Prop := balancePartsRow.holds Try.pinned (OpenSpec.ofChange balancePartsSpec)

/-- ITS FALSE NEIGHBOUR: 'it returns false'. Refute it at one input. -/
def balancePartsWrong : ChangeSpec := { name := "balanceParts", fn := fun _ => fun
  | [d1, d2] => { results := [.lit (.bool false)], args := [d1, d2] }
  | _ => none }
def BalancePartsWrongFalsely : Prop := balancePartsRow.holds Try.pinned (OpenSpec.ofChange balancePartsWrong)

/-- 'quantumlaw27.BalanceFair': WHATEVER THE INPUT: true; the input reads as it did. -/
def balanceFairSpec : ChangeSpec := { name := "balanceFair", fn := fun _ => fun
  | [d1, d2, d3] => { results := [.lit (.bool true)], args := [d1, d2, d3] }
  | _ => none }
def balanceFairRow : OpenClaim := { program := "yticgdfbknaholaa", sum := "1d1fe95f99f8b09f30b9b83bed11e4adc1ced1c4578d6dea0790e60c4f678814", func := "quantum/quantumlaw27.BalanceFair", spec := "balanceFair", unfollowed := true, recurses := true, apart := false }
def BalanceFairSaid : Prop := balanceFairRow.holds Try.pinned (OpenSpec.ofChange balanceFairSpec)

/-- ITS FALSE NEIGHBOUR: 'it returns false'. Refute it at one input. -/
def balanceFairWrong : ChangeSpec := { name := "balanceFair", fn := fun _ => fun
  | [d1, d2, d3] => { results := [.lit (.bool false)], args := [d1, d2, d3] }
  | _ => none }
def BalanceFairWrongFalsely : Prop := balanceFairRow.holds Try.pinned (OpenSpec.ofChange balanceFairWrong)

/-- 'quantumlaw27.BalanceBest': WHATEVER THE INPUT: true; the input reads as it did. -/
def balanceBestSpec : ChangeSpec := { name := "balanceBest", fn := fun _ => fun
  | [d1, d2] => { results := [.lit (.bool true)], args := [d1, d2] }
  | _ => none }
def balanceBestRow : OpenClaim := { program := "yticgdfbknaholaa", sum := "1d1fe95f99f8b09f30b9b83bed11e4adc1ced1c4578d6dea0790e60c4f678814", func := "quantum/quantumlaw27.BalanceBest", spec := "balanceBest", unfollowed := true, recurses := true, apart := false }
def BalanceBestSaid : Prop := balanceBestRow.holds Try.pinned (OpenSpec.ofChange balanceBestSpec)

/-- ITS FALSE NEIGHBOUR: 'it returns false'. Refute it at one input. -/
def balanceBestWrong : ChangeSpec := { name := "balanceBest", fn := fun _ => fun
  | [d1, d2] => { results := [.lit (.bool false)], args := [d1, d2] }
  | _ => none }
def BalanceBestWrongFalsely : Prop := balanceBestRow.holds Try.pinned (OpenSpec.ofChange balanceBestWrong)

/-- 'quantumlaw27.BalanceWrong': WHATEVER THE INPUT: true; the input reads as it did. -/
def balanceWrongSpec : ChangeSpec := { name := "balanceWrong", fn := fun _ => fun
  | [d1, d2, d3] => { results := [.lit (.bool true)], args := [d1, d2, d3] }
  | _ => none }
def balanceWrongRow : OpenClaim := { program := "yticgdfbknaholaa", sum := "1d1fe95f99f8b09f30b9b83bed11e4adc1ced1c4578d6dea0790e60c4f678814", func := "quantum/quantumlaw27.BalanceWrong", spec := "balanceWrong", unfollowed := true, recurses := true, apart := false }
def BalanceWrongSaid : Prop := balanceWrongRow.holds Try.pinned (OpenSpec.ofChange balanceWrongSpec)

/-- ITS FALSE NEIGHBOUR: 'it returns false'. Refute it at one input. -/
def balanceWrongWrong : ChangeSpec := { name := "balanceWrong", fn := fun _ => fun
  | [d1, d2, d3] => { results := [.lit (.bool false)], args := [d1, d2, d3] }
  | _ => none }
def BalanceWrongWrongFalsely : Prop := balanceWrongRow.holds Try.pinned (OpenSpec.ofChange balanceWrongWrong)

/-- 'quantumlaw27.BalanceTells': WHATEVER THE INPUT: true; the input reads as it did. -/
def balanceTellsSpec : ChangeSpec := { name := "balanceTells", fn := fun _ => fun
  | [d1, d2, d3, d4] => { results := [.lit (.bool true)], args := [d1, d2, d3, d4] }
  | _ => none }
def balanceTellsRow : OpenClaim := { program := "yticgdfbknaholaa", sum := "1d1fe95f99f8b09f30b9b83bed11e4adc1ced1c4578d6dea0790e60c4f678814", func := "quantum/quantumlaw27.BalanceTells", spec := "balanceTells", unfollowed := true, recurses := true, apart := false }
def BalanceTellsSaid : Prop := balanceTellsRow.holds Try.pinned (OpenSpec.ofChange balanceTellsSpec)

/-- ITS FALSE NEIGHBOUR: 'it returns false'. Refute it at one input. -/
def balanceTellsWrong : ChangeSpec := { name := "balanceTells", fn := fun _ => fun
  | [d1, d2, d3, d4] => { results := [.lit (.bool false)], args := [d1, d2, d3, d4] }
  | _ => none }
def BalanceTellsWrongFalsely : Prop := balanceTellsRow.holds Try.pinned (OpenSpec.ofChange balanceTellsWrong)

/-- 'quantumlaw27.BalanceSmall': WHATEVER THE INPUT: true; the input reads as it did. -/
def balanceSmallSpec : ChangeSpec := { name := "balanceSmall", fn := fun _ => fun
  | [] => { results := [.lit (.bool true)], args := [] }
  | _ => none }
def balanceSmallRow : OpenClaim := { program := "yticgdfbknaholaa", sum := "1d1fe95f99f8b09f30b9b83bed11e4adc1ced1c4578d6dea0790e60c4f678814", func := "quantum/quantumlaw27.BalanceSmall", spec := "balanceSmall", unfollowed := true, recurses := true, apart := false }
def BalanceSmallSaid : Prop := balanceSmallRow.holds Try.pinned (OpenSpec.ofChange balanceSmallSpec)

/-- ITS FALSE NEIGHBOUR: 'it returns false'. Refute it at one input. -/
def balanceSmallWrong : ChangeSpec := { name := "balanceSmall", fn := fun _ => fun
  | [] => { results := [.lit (.bool false)], args := [] }
  | _ => none }
def BalanceSmallWrongFalsely : Prop := balanceSmallRow.holds Try.pinned (OpenSpec.ofChange balanceSmallWrong)

/-- 'quantumlaw27.BalanceMoves': WHATEVER THE INPUT: true; the input reads as it did. -/
def balanceMovesSpec : ChangeSpec := { name := "balanceMoves", fn := fun _ => fun
  | [d1, d2, d3] => { results := [.lit (.bool true)], args := [d1, d2, d3] }
  | _ => none }
def balanceMovesRow : OpenClaim := { program := "yticgdfbknaholaa", sum := "1d1fe95f99f8b09f30b9b83bed11e4adc1ced1c4578d6dea0790e60c4f678814", func := "quantum/quantumlaw27.BalanceMoves", spec := "balanceMoves", unfollowed := true, recurses := true, apart := false }
def BalanceMovesSaid : Prop := balanceMovesRow.holds Try.pinned (OpenSpec.ofChange balanceMovesSpec)

/-- ITS FALSE NEIGHBOUR: 'it returns false'. Refute it at one input. -/
def balanceMovesWrong : ChangeSpec := { name := "balanceMoves", fn := fun _ => fun
  | [d1, d2, d3] => { results := [.lit (.bool false)], args := [d1, d2, d3] }
  | _ => none }
def BalanceMovesWrongFalsely : Prop := balanceMovesRow.holds Try.pinned (OpenSpec.ofChange balanceMovesWrong)

/- THE SECOND FORM. 'bulk': how many values and letters a reading holds, each counted each time it is reached (what is shared counts as often as it is met; a slice's spare places count too). A statement '..UptoSaid' is the law's where the arguments, and the package variables that the reading takes, are together of bulk at most 1048576: NARROWER than '..Said'. Prove '..Said' where nothing that the law and all that it calls make is longer than what came in: it says more and counts as full. Else prove '..UptoSaid'. A law counts once. -/
mutual
def uptoBulk {H : Type} : DataW H → Nat
  | .lit (.string bytes) => bytes.length + 1
  | .lit _ => 1
  | .nil => 1
  | .ptr d => uptoBulk d + 1
  | .slice elems spare => uptoBulkAll elems + uptoBulkAll spare + 1
  | .agg parts => uptoBulkAll parts + 1
  | .iface _ d => uptoBulk d + 1
  | .map entries => uptoBulkEntries entries + 1
  | .held _ => 1
def uptoBulkAll {H : Type} : List (DataW H) → Nat
  | [] => 0
  | d :: r => uptoBulk d + uptoBulkAll r
def uptoBulkEntries {H : Type} : List (Lit × DataW H) → Nat
  | [] => 0
  | x :: r => uptoBulkEntry x + uptoBulkEntries r
def uptoBulkEntry {H : Type} : Lit × DataW H → Nat
  | (.string bytes, d) => bytes.length + uptoBulk d + 1
  | (_, d) => uptoBulk d + 1
 end
def uptoSmall : (H : Type) → List (DataW H) → Bool := fun _ ds => decide (uptoBulkAll ds ≤ 1048576)
def OpenSpec.upto (s : _root_.Go.ChangeSpec) : _root_.Go.OpenSpec := { _root_.Go.OpenSpec.ofChange s with cond := some uptoSmall }

/-- 'quantumlaw27.BalanceParts', WHERE WHAT IT READS IS OF BULK AT MOST 1048576: true; the input reads as it did. -/
def balancePartsUptoRow : OpenClaim := { program := "yticgdfbknaholaa", sum := "1d1fe95f99f8b09f30b9b83bed11e4adc1ced1c4578d6dea0790e60c4f678814", func := "quantum/quantumlaw27.BalanceParts", spec := "balanceParts", unfollowed := true, recurses := true, apart := false, narrowed := true }
def BalancePartsUptoSaid : Prop := balancePartsUptoRow.holds Try.pinned (OpenSpec.upto balancePartsSpec)

/-- 'quantumlaw27.BalanceFair', WHERE WHAT IT READS IS OF BULK AT MOST 1048576: true; the input reads as it did. -/
def balanceFairUptoRow : OpenClaim := { program := "yticgdfbknaholaa", sum := "1d1fe95f99f8b09f30b9b83bed11e4adc1ced1c4578d6dea0790e60c4f678814", func := "quantum/quantumlaw27.BalanceFair", spec := "balanceFair", unfollowed := true, recurses := true, apart := false, narrowed := true }
def BalanceFairUptoSaid : Prop := balanceFairUptoRow.holds Try.pinned (OpenSpec.upto balanceFairSpec)

/-- 'quantumlaw27.BalanceBest', WHERE WHAT IT READS IS OF BULK AT MOST 1048576: true; the input reads as it did. -/
def balanceBestUptoRow : OpenClaim := { program := "yticgdfbknaholaa", sum := "1d1fe95f99f8b09f30b9b83bed11e4adc1ced1c4578d6dea0790e60c4f678814", func := "quantum/quantumlaw27.BalanceBest", spec := "balanceBest", unfollowed := true, recurses := true, apart := false, narrowed := true }
def BalanceBestUptoSaid : Prop := balanceBestUptoRow.holds Try.pinned (OpenSpec.upto balanceBestSpec)

/-- 'quantumlaw27.BalanceWrong', WHERE WHAT IT READS IS OF BULK AT MOST 1048576: true; the input reads as it did. -/
def balanceWrongUptoRow : OpenClaim := { program := "yticgdfbknaholaa", sum := "1d1fe95f99f8b09f30b9b83bed11e4adc1ced1c4578d6dea0790e60c4f678814", func := "quantum/quantumlaw27.BalanceWrong", spec := "balanceWrong", unfollowed := true, recurses := true, apart := false, narrowed := true }
def BalanceWrongUptoSaid : Prop := balanceWrongUptoRow.holds Try.pinned (OpenSpec.upto balanceWrongSpec)

/-- 'quantumlaw27.BalanceTells', WHERE WHAT IT READS IS OF BULK AT MOST 1048576: true; the input reads as it did. -/
def balanceTellsUptoRow : OpenClaim := { program := "yticgdfbknaholaa", sum := "1d1fe95f99f8b09f30b9b83bed11e4adc1ced1c4578d6dea0790e60c4f678814", func := "quantum/quantumlaw27.BalanceTells", spec := "balanceTells", unfollowed := true, recurses := true, apart := false, narrowed := true }
def BalanceTellsUptoSaid : Prop := balanceTellsUptoRow.holds Try.pinned (OpenSpec.upto balanceTellsSpec)

/-- 'quantumlaw27.BalanceSmall', WHERE WHAT IT READS IS OF BULK AT MOST 1048576: true; the input reads as it did. -/
def balanceSmallUptoRow : OpenClaim := { program := "yticgdfbknaholaa", sum := "1d1fe95f99f8b09f30b9b83bed11e4adc1ced1c4578d6dea0790e60c4f678814", func := "quantum/quantumlaw27.BalanceSmall", spec := "balanceSmall", unfollowed := true, recurses := true, apart := false, narrowed := true }
def BalanceSmallUptoSaid : Prop := balanceSmallUptoRow.holds Try.pinned (OpenSpec.upto balanceSmallSpec)

/-- 'quantumlaw27.BalanceMoves', WHERE WHAT IT READS IS OF BULK AT MOST 1048576: true; the input reads as it did. -/
def balanceMovesUptoRow : OpenClaim := { program := "yticgdfbknaholaa", sum := "1d1fe95f99f8b09f30b9b83bed11e4adc1ced1c4578d6dea0790e60c4f678814", func := "quantum/quantumlaw27.BalanceMoves", spec := "balanceMoves", unfollowed := true, recurses := true, apart := false, narrowed := true }
def BalanceMovesUptoSaid : Prop := balanceMovesUptoRow.holds Try.pinned (OpenSpec.upto balanceMovesSpec)

end Rows
end Go.Proofs.Yticgdfbknaholaa
