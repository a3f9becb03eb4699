/-
  The seat's start: the listed table, out of a row's condition; a world for the witnesses.
-/
import Derived.Test.YtgfmgfblmfacgaaDoorCards
import Derived.Test.YtgfmgfblmfacgaaDoorTie
import Derived.Test.YtgfmgfblmfacgaaDoorFrame
import Derived.Test.YtgfmgfblmfacgaaDoorKit
namespace Go.Proofs.YtgfmgfblmfacgaaDoor
open Go.RowKit Go.ChangeShapes Go.WideShapes

theorem own : ownKnob Tryd.prog.godebug = none := by kernel_rfl
theorem laidOut : laidOutB Tryd.prog = true := by kernel_rfl
theorem gTab : Tryd.prog.globalNamed "quantum/weight.weights" = some 0 := by kernel_rfl
theorem gTabType : (Tryd.prog.globals[0]?).map (·.type) = some 55 := by kernel_rfl
theorem cells55 : Tryd.prog.cellsOf 55 = 36 := by kernel_rfl
theorem cells3 : Tryd.prog.cellsOf 3 = 1 := by kernel_rfl

theorem tabW_of_laid {W : World} (h : laidMetH Tryd.prog [("quantum/weight.weights", Rows.laid_quantum_weight_weights)] W) : TabW W := by
  have h1 : Lib.TabIs Tryd.prog W "quantum/weight.weights" .i64 tab :=
    Lib.tabIs_of_head (rest := []) gTab gTabType Tryd.underlying55 Tryd.underlying3 cells3 cells55 h
  unfold Lib.TabIs World.var? at h1
  rw [gTab] at h1
  simp only [Option.bind_some] at h1
  split at h1
  · rename_i cs t fr hc
    injection h1 with h1
    exact ⟨t, fr, by rw [hc, h1]; rfl⟩
  · cases h1

/-- A world for the witness: the settled one, the table (block 0) holding what its initialiser lays. -/
noncomputable def laidWorld (os : Os) : World :=
  { World.holding Tryd.prog os ⟨#[], #[], []⟩ with heap := (World.holding Tryd.prog os ⟨#[], #[], []⟩).heap.modify 0 fun
      | .cells _ t frozen => .cells tabRow t frozen
      | o => o }
end Go.Proofs.YtgfmgfblmfacgaaDoor
