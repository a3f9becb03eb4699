/-
  DERIVED. GIVEN WITH THE SEED: THE CARDS: each row of YtgfmgfblmfacgaaDoorRows.lean that lists a variable, with what it lists TIED to the program's text (the seventh form; the later family's looks); each row that meets fmt, with fmt's text TOLD by the authors' own Lean function (tested against real Go, not proved from fmt's source: count such statements apart). THE CARD IS WHAT COUNTS. Prove the row's statement (the work); the ties are given (YtgfmgfblmfacgaaDoorTie.lean); close each card by the builder's one call (the guide's Derived/Test/ToyasCard.lean, 'card_holds'). Laid BY PROGRAM, IN A SANDBOX (cutbox-door.mjs). By AI agents, Wed Nov 11 2026. No macro, syntax, notation, axiom, sorry.
-/
import Derived.Test.YtgfmgfblmfacgaaDoorRows
import GoSem.ClaimSeven
namespace Go.Proofs.YtgfmgfblmfacgaaDoor
namespace Rows

/-- THE TIED CARD OF 'quantumlaw16.WeightTells'. -/
def weightTellsCard : Claim7 := { stood := { row := weightTellsRow, standIns := [], harness := (true, "2f1a395b6a87630348c07a89c388fee981ae5ee75527ba18d9e4cbefdb17e3df"), looks := false }, kinds := [], alts := [], laidByText := true, laidKinds := [.data], laidTests := true, laidLooks := .later }
def WeightTellsCardSaid : Prop := Claim7.holds Tryd.pinned (.plain (OpenSpec.ofChange weightTellsSpec)) weightTellsCard

/-- THE TIED CARD OF 'quantumlaw16.WeightExact'. -/
def weightExactCard : Claim7 := { stood := { row := weightExactRow, standIns := [], harness := (true, "2f1a395b6a87630348c07a89c388fee981ae5ee75527ba18d9e4cbefdb17e3df"), looks := false }, kinds := [], alts := [], laidByText := true, laidKinds := [.data], laidTests := true, laidLooks := .later }
def WeightExactCardSaid : Prop := Claim7.holds Tryd.pinned (.plain (OpenSpec.ofChange weightExactSpec)) weightExactCard

/-- THE TIED CARD OF 'quantumlaw16.WeightAdds'. -/
def weightAddsCard : Claim7 := { stood := { row := weightAddsRow, standIns := [], harness := (true, "2f1a395b6a87630348c07a89c388fee981ae5ee75527ba18d9e4cbefdb17e3df"), looks := false }, kinds := [], alts := [], laidByText := true, laidKinds := [.data], laidTests := true, laidLooks := .later }
def WeightAddsCardSaid : Prop := Claim7.holds Tryd.pinned (.plain (OpenSpec.ofChange weightAddsSpec)) weightAddsCard

/-- THE TIED CARD OF 'quantumlaw16.WeightOrder'. -/
def weightOrderCard : Claim7 := { stood := { row := weightOrderRow, standIns := [], harness := (true, "2f1a395b6a87630348c07a89c388fee981ae5ee75527ba18d9e4cbefdb17e3df"), looks := false }, kinds := [], alts := [], laidByText := true, laidKinds := [.data], laidTests := true, laidLooks := .later }
def WeightOrderCardSaid : Prop := Claim7.holds Tryd.pinned (.plain (OpenSpec.ofChange weightOrderSpec)) weightOrderCard

/-- THE TIED CARD OF 'quantumlaw16.WeightApprox'. -/
def weightApproxCard : Claim7 := { stood := { row := weightApproxRow, standIns := [], harness := (true, "2f1a395b6a87630348c07a89c388fee981ae5ee75527ba18d9e4cbefdb17e3df"), looks := false }, kinds := [], alts := [], laidByText := true, laidKinds := [.data], laidTests := true, laidLooks := .later }
def WeightApproxCardSaid : Prop := Claim7.holds Tryd.pinned (.plain (OpenSpec.ofChange weightApproxSpec)) weightApproxCard

/-- THE TIED CARD OF 'quantumlaw16.WeightLevels'. -/
def weightLevelsCard : Claim7 := { stood := { row := weightLevelsRow, standIns := [], harness := (true, "2f1a395b6a87630348c07a89c388fee981ae5ee75527ba18d9e4cbefdb17e3df"), looks := false }, kinds := [], alts := [], laidByText := true, laidKinds := [.data], laidTests := true, laidLooks := .later }
def WeightLevelsCardSaid : Prop := Claim7.holds Tryd.pinned (.plain (OpenSpec.ofChange weightLevelsSpec)) weightLevelsCard

/-- THE TIED CARD OF 'quantumlaw16.WeightSums'. -/
def weightSumsCard : Claim7 := { stood := { row := weightSumsRow, standIns := [], harness := (true, "2f1a395b6a87630348c07a89c388fee981ae5ee75527ba18d9e4cbefdb17e3df"), looks := false }, kinds := [], alts := [], laidByText := true, laidKinds := [.data], laidTests := true, laidLooks := .later }
def WeightSumsCardSaid : Prop := Claim7.holds Tryd.pinned (.plain (OpenSpec.ofChange weightSumsSpec)) weightSumsCard

/-- THE TIED CARD OF 'quantumlaw16.WeightWrong'. -/
def weightWrongCard : Claim7 := { stood := { row := weightWrongRow, standIns := [], harness := (true, "2f1a395b6a87630348c07a89c388fee981ae5ee75527ba18d9e4cbefdb17e3df"), looks := false }, kinds := [], alts := [], laidByText := true, laidKinds := [.data], laidTests := true, laidLooks := .later }
def WeightWrongCardSaid : Prop := Claim7.holds Tryd.pinned (.plain (OpenSpec.ofChange weightWrongSpec)) weightWrongCard

/-- THE TIED CARD OF 'quantumlaw16.WeightTotal'. -/
def weightTotalCard : Claim7 := { stood := { row := weightTotalRow, standIns := [], harness := (true, "2f1a395b6a87630348c07a89c388fee981ae5ee75527ba18d9e4cbefdb17e3df"), looks := false }, kinds := [], alts := [], laidByText := true, laidKinds := [.data], laidTests := true, laidLooks := .later }
def WeightTotalCardSaid : Prop := Claim7.holds Tryd.pinned (.plain (OpenSpec.ofChange weightTotalSpec)) weightTotalCard

/-- THE TIED CARD OF 'quantumlaw16.WeightSmall'. -/
def weightSmallCard : Claim7 := { stood := { row := weightSmallRow, standIns := [], harness := (true, "2f1a395b6a87630348c07a89c388fee981ae5ee75527ba18d9e4cbefdb17e3df"), looks := false }, kinds := [], alts := [], laidByText := true, laidKinds := [.data], laidTests := true, laidLooks := .later }
def WeightSmallCardSaid : Prop := Claim7.holds Tryd.pinned (.plain (OpenSpec.ofChange weightSmallSpec)) weightSmallCard

/-- THE SECOND FORM's CARD OF 'quantumlaw16.WeightTells'. -/
def weightTellsUptoCard : Claim7 := { stood := { row := weightTellsUptoRow, standIns := [], harness := (true, "2f1a395b6a87630348c07a89c388fee981ae5ee75527ba18d9e4cbefdb17e3df"), looks := false }, kinds := [], alts := [], laidByText := true, laidKinds := [.data], laidTests := true, laidLooks := .later }
def WeightTellsUptoCardSaid : Prop := Claim7.holds Tryd.pinned (.plain (OpenSpec.upto weightTellsSpec)) weightTellsUptoCard

/-- THE SECOND FORM's CARD OF 'quantumlaw16.WeightExact'. -/
def weightExactUptoCard : Claim7 := { stood := { row := weightExactUptoRow, standIns := [], harness := (true, "2f1a395b6a87630348c07a89c388fee981ae5ee75527ba18d9e4cbefdb17e3df"), looks := false }, kinds := [], alts := [], laidByText := true, laidKinds := [.data], laidTests := true, laidLooks := .later }
def WeightExactUptoCardSaid : Prop := Claim7.holds Tryd.pinned (.plain (OpenSpec.upto weightExactSpec)) weightExactUptoCard

/-- THE SECOND FORM's CARD OF 'quantumlaw16.WeightAdds'. -/
def weightAddsUptoCard : Claim7 := { stood := { row := weightAddsUptoRow, standIns := [], harness := (true, "2f1a395b6a87630348c07a89c388fee981ae5ee75527ba18d9e4cbefdb17e3df"), looks := false }, kinds := [], alts := [], laidByText := true, laidKinds := [.data], laidTests := true, laidLooks := .later }
def WeightAddsUptoCardSaid : Prop := Claim7.holds Tryd.pinned (.plain (OpenSpec.upto weightAddsSpec)) weightAddsUptoCard

/-- THE SECOND FORM's CARD OF 'quantumlaw16.WeightOrder'. -/
def weightOrderUptoCard : Claim7 := { stood := { row := weightOrderUptoRow, standIns := [], harness := (true, "2f1a395b6a87630348c07a89c388fee981ae5ee75527ba18d9e4cbefdb17e3df"), looks := false }, kinds := [], alts := [], laidByText := true, laidKinds := [.data], laidTests := true, laidLooks := .later }
def WeightOrderUptoCardSaid : Prop := Claim7.holds Tryd.pinned (.plain (OpenSpec.upto weightOrderSpec)) weightOrderUptoCard

/-- THE SECOND FORM's CARD OF 'quantumlaw16.WeightApprox'. -/
def weightApproxUptoCard : Claim7 := { stood := { row := weightApproxUptoRow, standIns := [], harness := (true, "2f1a395b6a87630348c07a89c388fee981ae5ee75527ba18d9e4cbefdb17e3df"), looks := false }, kinds := [], alts := [], laidByText := true, laidKinds := [.data], laidTests := true, laidLooks := .later }
def WeightApproxUptoCardSaid : Prop := Claim7.holds Tryd.pinned (.plain (OpenSpec.upto weightApproxSpec)) weightApproxUptoCard

/-- THE SECOND FORM's CARD OF 'quantumlaw16.WeightLevels'. -/
def weightLevelsUptoCard : Claim7 := { stood := { row := weightLevelsUptoRow, standIns := [], harness := (true, "2f1a395b6a87630348c07a89c388fee981ae5ee75527ba18d9e4cbefdb17e3df"), looks := false }, kinds := [], alts := [], laidByText := true, laidKinds := [.data], laidTests := true, laidLooks := .later }
def WeightLevelsUptoCardSaid : Prop := Claim7.holds Tryd.pinned (.plain (OpenSpec.upto weightLevelsSpec)) weightLevelsUptoCard

/-- THE SECOND FORM's CARD OF 'quantumlaw16.WeightSums'. -/
def weightSumsUptoCard : Claim7 := { stood := { row := weightSumsUptoRow, standIns := [], harness := (true, "2f1a395b6a87630348c07a89c388fee981ae5ee75527ba18d9e4cbefdb17e3df"), looks := false }, kinds := [], alts := [], laidByText := true, laidKinds := [.data], laidTests := true, laidLooks := .later }
def WeightSumsUptoCardSaid : Prop := Claim7.holds Tryd.pinned (.plain (OpenSpec.upto weightSumsSpec)) weightSumsUptoCard

/-- THE SECOND FORM's CARD OF 'quantumlaw16.WeightWrong'. -/
def weightWrongUptoCard : Claim7 := { stood := { row := weightWrongUptoRow, standIns := [], harness := (true, "2f1a395b6a87630348c07a89c388fee981ae5ee75527ba18d9e4cbefdb17e3df"), looks := false }, kinds := [], alts := [], laidByText := true, laidKinds := [.data], laidTests := true, laidLooks := .later }
def WeightWrongUptoCardSaid : Prop := Claim7.holds Tryd.pinned (.plain (OpenSpec.upto weightWrongSpec)) weightWrongUptoCard

/-- THE SECOND FORM's CARD OF 'quantumlaw16.WeightTotal'. -/
def weightTotalUptoCard : Claim7 := { stood := { row := weightTotalUptoRow, standIns := [], harness := (true, "2f1a395b6a87630348c07a89c388fee981ae5ee75527ba18d9e4cbefdb17e3df"), looks := false }, kinds := [], alts := [], laidByText := true, laidKinds := [.data], laidTests := true, laidLooks := .later }
def WeightTotalUptoCardSaid : Prop := Claim7.holds Tryd.pinned (.plain (OpenSpec.upto weightTotalSpec)) weightTotalUptoCard

/-- THE SECOND FORM's CARD OF 'quantumlaw16.WeightSmall'. -/
def weightSmallUptoCard : Claim7 := { stood := { row := weightSmallUptoRow, standIns := [], harness := (true, "2f1a395b6a87630348c07a89c388fee981ae5ee75527ba18d9e4cbefdb17e3df"), looks := false }, kinds := [], alts := [], laidByText := true, laidKinds := [.data], laidTests := true, laidLooks := .later }
def WeightSmallUptoCardSaid : Prop := Claim7.holds Tryd.pinned (.plain (OpenSpec.upto weightSmallSpec)) weightSmallUptoCard
end Rows
end Go.Proofs.YtgfmgfblmfacgaaDoor
