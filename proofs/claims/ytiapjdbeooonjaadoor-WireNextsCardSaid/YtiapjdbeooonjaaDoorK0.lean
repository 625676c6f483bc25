/- What the rows of this seat have in common: the table that is laid; a world in which it lies. -/
import Derived.Test.YtiapjdbeooonjaaDoorCards
import Derived.Test.YtiapjdbeooonjaaDoorTie
import Derived.Test.YtiapjdbeooonjaaDoorD0
import Derived.WalkKit
import Derived.ProofKit
import Derived.OpenShut
import Derived.Deep.DeepHandedRow
import Derived.Lib.LaidTab
namespace Go.Proofs.YtiapjdbeooonjaaDoor
open Go.ChangeShapes Go.WideShapes Go.ChangeAt Go.RowKit Go.TM

theorem own : ownKnob Tryd.prog.godebug = none := by kernel_rfl
theorem laidOut : laidOutB Tryd.prog = true := by kernel_rfl
theorem gTab : Tryd.prog.globalNamed "tidemark/wire.rows" = some 0 := by kernel_rfl
theorem gTabType : (Tryd.prog.globals[0]?).map (·.type) = some 70 := by kernel_rfl
theorem cells70 : Tryd.prog.cellsOf 70 = 16 := by kernel_rfl
theorem cells32 : Tryd.prog.cellsOf 32 = 1 := by kernel_rfl

/-- WHAT THE ROWS' LIST GIVES: the table's cells hold its sixteen numbers. -/
theorem table {W : World} (h : laidMetH Tryd.prog Rows.wireFramesRow.laid W) : Lib.TabIs Tryd.prog W "tidemark/wire.rows" .u32 [0, 724315118, 1448630236, 2104785970, 2897260472, 2275181654, 4209571940, 3519337354, 3370071343, 3824361153, 2659672819, 3047901469, 1685035671, 1329836409, 842517835, 421258917] :=
  Lib.tabIs_of_head (rest := []) gTab gTabType Tryd.underlying70 Tryd.underlying32 cells32 cells70 h
theorem laid_of {W : World} (h : laidMetH Tryd.prog Rows.wireFramesRow.laid W) : Laid W := by
  intro i hi
  have := (table h).cell gTab i (by simpa using hi)
  have key : ∀ j : Fin 16, ([0, 724315118, 1448630236, 2104785970, 2897260472, 2275181654, 4209571940, 3519337354, 3370071343, 3824361153, 2659672819, 3047901469, 1685035671, 1329836409, 842517835, 421258917] : List Int).getD j.val 0 = (Crc.row j.val : Int) := by decide
  rw [this, key ⟨i, hi⟩]
/-- A WORLD FOR THE WITNESS. -/
noncomputable def laidWorld (os : Os) : World :=
  { World.holding Tryd.prog os ⟨#[], #[], []⟩ with heap := (World.holding Tryd.prog os ⟨#[], #[], []⟩).heap.modify 0 fun
      | .cells _ t frozen => .cells #[.int .u32 0, .int .u32 724315118, .int .u32 1448630236, .int .u32 2104785970, .int .u32 2897260472, .int .u32 2275181654, .int .u32 4209571940, .int .u32 3519337354, .int .u32 3370071343, .int .u32 3824361153, .int .u32 2659672819, .int .u32 3047901469, .int .u32 1685035671, .int .u32 1329836409, .int .u32 842517835, .int .u32 421258917] t frozen
      | o => o }
theorem laid_met (os : Os) (args : Array Value) : laidMet Tryd.prog Rows.wireFramesRow.laid ((laidWorld os).forCall (fun _ _ => 0) ⟨#[], args, []⟩).memory :=
  laidMet_of_run' 8 (by kernel_rfl) (by kernel_rfl)
end Go.Proofs.YtiapjdbeooonjaaDoor
