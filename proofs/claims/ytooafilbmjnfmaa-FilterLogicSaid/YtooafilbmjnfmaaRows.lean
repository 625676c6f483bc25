/-
  NARROWER THAN 'FOR EVERY INPUT', by the rows' own cells (each row's printed sentence says how): FilterChecks: loops · FilterLogic: loops · FilterBounds: loops · FilterPuts: loops · FilterBack: loops · FilterParts: loops · FilterHolds: loops · FilterPasses: loops.
  DERIVED. THE GIVEN ROWS OF THIS SEAT. 10 by the template 'for every input the law returns true; each argument reads behind the call as it read before'; 0 by the template 'total and deterministic' (their statements: YtooafilbmjnfmaaTotals.lean).
  GIVEN WITH THE SEED: the statements are not yours to turn. If you find one false, say at which input.
  Laid BY PROGRAM, IN A SANDBOX (cutbox-rows.mjs): the forced cells as the released guide's own fill.sh prints them over the translation 05c9c41913ddfa06… (all of the seat's roots in one cut). By AI agents, Wed Nov 11 2026. No macro, syntax, notation, axiom, sorry.
-/
import Derived.Test.YtooafilbmjnfmaaChecked
import GoSem.Claim
import GoSem.ClaimJoined
import GoSem.ClaimMapViews
import Derived.JoinedTies
import Derived.KernelRfl
namespace Go.Proofs.Ytooafilbmjnfmaa
/- THE CELL 'sum', in the pinned program and in every row, IS THE sha256 OF THE DUMP (.gsa) THAT YtooafilbmjnfmaaProg.lean LOADS. Nothing in Lean hashes anything: it is a label: what it is worth is what the hold of that sum in a sandbox is worth. -/
noncomputable def Try.pinned : Pinned := { name := "ytooafilbmjnfmaa", sum := "05c9c41913ddfa0697fd094764e212480c6795e762f09d7c11b9300d07a7d9ec", checked := Try.checked }
namespace Rows
def none {H : Type} : Left H := { results := [], args := [] }

/-- 'tidemarklaw07.FilterChecks': WHATEVER THE INPUT: true; the input reads as it did. -/
def filterChecksSpec : ChangeSpec := { name := "filterChecks", fn := fun _ => fun
  | [d] => { results := [.lit (.bool true)], args := [d] }
  | _ => none }
def filterChecksRow : OpenClaim := { program := "ytooafilbmjnfmaa", sum := "05c9c41913ddfa0697fd094764e212480c6795e762f09d7c11b9300d07a7d9ec", func := "tidemark/tidemarklaw07.FilterChecks", spec := "filterChecks", unfollowed := true, recurses := true, loops := true, apart := false }
def FilterChecksSaid : Prop := filterChecksRow.holds Try.pinned (OpenSpec.ofChange filterChecksSpec)

/-- ITS FALSE NEIGHBOUR: 'it returns false'. Refute it at one input. -/
def filterChecksWrong : ChangeSpec := { name := "filterChecks", fn := fun _ => fun
  | [d] => { results := [.lit (.bool false)], args := [d] }
  | _ => none }
def FilterChecksWrongFalsely : Prop := filterChecksRow.holds Try.pinned (OpenSpec.ofChange filterChecksWrong)

/-- 'tidemarklaw07.FilterTakes': WHATEVER THE INPUT: true; the input reads as it did. -/
def filterTakesSpec : ChangeSpec := { name := "filterTakes", fn := fun _ => fun
  | [d] => { results := [.lit (.bool true)], args := [d] }
  | _ => none }
def filterTakesRow : OpenClaim := { program := "ytooafilbmjnfmaa", sum := "05c9c41913ddfa0697fd094764e212480c6795e762f09d7c11b9300d07a7d9ec", func := "tidemark/tidemarklaw07.FilterTakes", spec := "filterTakes", unfollowed := true, recurses := true, apart := false }
def FilterTakesSaid : Prop := filterTakesRow.holds Try.pinned (OpenSpec.ofChange filterTakesSpec)

/-- ITS FALSE NEIGHBOUR: 'it returns false'. Refute it at one input. -/
def filterTakesWrong : ChangeSpec := { name := "filterTakes", fn := fun _ => fun
  | [d] => { results := [.lit (.bool false)], args := [d] }
  | _ => none }
def FilterTakesWrongFalsely : Prop := filterTakesRow.holds Try.pinned (OpenSpec.ofChange filterTakesWrong)

/-- 'tidemarklaw07.FilterLogic': WHATEVER THE INPUT: true; the input reads as it did. -/
def filterLogicSpec : ChangeSpec := { name := "filterLogic", fn := fun _ => fun
  | [d1, d2, d3] => { results := [.lit (.bool true)], args := [d1, d2, d3] }
  | _ => none }
def filterLogicRow : OpenClaim := { program := "ytooafilbmjnfmaa", sum := "05c9c41913ddfa0697fd094764e212480c6795e762f09d7c11b9300d07a7d9ec", func := "tidemark/tidemarklaw07.FilterLogic", spec := "filterLogic", unfollowed := true, recurses := true, loops := true, apart := false }
def FilterLogicSaid : Prop := filterLogicRow.holds Try.pinned (OpenSpec.ofChange filterLogicSpec)

/-- ITS FALSE NEIGHBOUR: 'it returns false'. Refute it at one input. -/
def filterLogicWrong : ChangeSpec := { name := "filterLogic", fn := fun _ => fun
  | [d1, d2, d3] => { results := [.lit (.bool false)], args := [d1, d2, d3] }
  | _ => none }
def FilterLogicWrongFalsely : Prop := filterLogicRow.holds Try.pinned (OpenSpec.ofChange filterLogicWrong)

/-- 'tidemarklaw07.FilterBounds': WHATEVER THE INPUT: true; the input reads as it did. -/
def filterBoundsSpec : ChangeSpec := { name := "filterBounds", fn := fun _ => fun
  | [d1, d2] => { results := [.lit (.bool true)], args := [d1, d2] }
  | _ => none }
def filterBoundsRow : OpenClaim := { program := "ytooafilbmjnfmaa", sum := "05c9c41913ddfa0697fd094764e212480c6795e762f09d7c11b9300d07a7d9ec", func := "tidemark/tidemarklaw07.FilterBounds", spec := "filterBounds", unfollowed := true, recurses := true, loops := true, apart := false }
def FilterBoundsSaid : Prop := filterBoundsRow.holds Try.pinned (OpenSpec.ofChange filterBoundsSpec)

/-- ITS FALSE NEIGHBOUR: 'it returns false'. Refute it at one input. -/
def filterBoundsWrong : ChangeSpec := { name := "filterBounds", fn := fun _ => fun
  | [d1, d2] => { results := [.lit (.bool false)], args := [d1, d2] }
  | _ => none }
def FilterBoundsWrongFalsely : Prop := filterBoundsRow.holds Try.pinned (OpenSpec.ofChange filterBoundsWrong)

/-- 'tidemarklaw07.FilterPuts': WHATEVER THE INPUT: true; the input reads as it did. -/
def filterPutsSpec : ChangeSpec := { name := "filterPuts", fn := fun _ => fun
  | [d] => { results := [.lit (.bool true)], args := [d] }
  | _ => none }
def filterPutsRow : OpenClaim := { program := "ytooafilbmjnfmaa", sum := "05c9c41913ddfa0697fd094764e212480c6795e762f09d7c11b9300d07a7d9ec", func := "tidemark/tidemarklaw07.FilterPuts", spec := "filterPuts", unfollowed := true, recurses := true, loops := true, apart := false }
def FilterPutsSaid : Prop := filterPutsRow.holds Try.pinned (OpenSpec.ofChange filterPutsSpec)

/-- ITS FALSE NEIGHBOUR: 'it returns false'. Refute it at one input. -/
def filterPutsWrong : ChangeSpec := { name := "filterPuts", fn := fun _ => fun
  | [d] => { results := [.lit (.bool false)], args := [d] }
  | _ => none }
def FilterPutsWrongFalsely : Prop := filterPutsRow.holds Try.pinned (OpenSpec.ofChange filterPutsWrong)

/-- 'tidemarklaw07.FilterBack': WHATEVER THE INPUT: true; the input reads as it did. -/
def filterBackSpec : ChangeSpec := { name := "filterBack", fn := fun _ => fun
  | [d1, d2] => { results := [.lit (.bool true)], args := [d1, d2] }
  | _ => none }
def filterBackRow : OpenClaim := { program := "ytooafilbmjnfmaa", sum := "05c9c41913ddfa0697fd094764e212480c6795e762f09d7c11b9300d07a7d9ec", func := "tidemark/tidemarklaw07.FilterBack", spec := "filterBack", unfollowed := true, recurses := true, loops := true, apart := false }
def FilterBackSaid : Prop := filterBackRow.holds Try.pinned (OpenSpec.ofChange filterBackSpec)

/-- ITS FALSE NEIGHBOUR: 'it returns false'. Refute it at one input. -/
def filterBackWrong : ChangeSpec := { name := "filterBack", fn := fun _ => fun
  | [d1, d2] => { results := [.lit (.bool false)], args := [d1, d2] }
  | _ => none }
def FilterBackWrongFalsely : Prop := filterBackRow.holds Try.pinned (OpenSpec.ofChange filterBackWrong)

/-- 'tidemarklaw07.FilterGets': WHATEVER THE INPUT: true; the input reads as it did. -/
def filterGetsSpec : ChangeSpec := { name := "filterGets", fn := fun _ => fun
  | [d] => { results := [.lit (.bool true)], args := [d] }
  | _ => none }
def filterGetsRow : OpenClaim := { program := "ytooafilbmjnfmaa", sum := "05c9c41913ddfa0697fd094764e212480c6795e762f09d7c11b9300d07a7d9ec", func := "tidemark/tidemarklaw07.FilterGets", spec := "filterGets", unfollowed := true, recurses := true, apart := false }
def FilterGetsSaid : Prop := filterGetsRow.holds Try.pinned (OpenSpec.ofChange filterGetsSpec)

/-- ITS FALSE NEIGHBOUR: 'it returns false'. Refute it at one input. -/
def filterGetsWrong : ChangeSpec := { name := "filterGets", fn := fun _ => fun
  | [d] => { results := [.lit (.bool false)], args := [d] }
  | _ => none }
def FilterGetsWrongFalsely : Prop := filterGetsRow.holds Try.pinned (OpenSpec.ofChange filterGetsWrong)

/-- 'tidemarklaw07.FilterParts': WHATEVER THE INPUT: true; the input reads as it did. -/
def filterPartsSpec : ChangeSpec := { name := "filterParts", fn := fun _ => fun
  | [d1, d2] => { results := [.lit (.bool true)], args := [d1, d2] }
  | _ => none }
def filterPartsRow : OpenClaim := { program := "ytooafilbmjnfmaa", sum := "05c9c41913ddfa0697fd094764e212480c6795e762f09d7c11b9300d07a7d9ec", func := "tidemark/tidemarklaw07.FilterParts", spec := "filterParts", unfollowed := true, recurses := true, loops := true, apart := false }
def FilterPartsSaid : Prop := filterPartsRow.holds Try.pinned (OpenSpec.ofChange filterPartsSpec)

/-- ITS FALSE NEIGHBOUR: 'it returns false'. Refute it at one input. -/
def filterPartsWrong : ChangeSpec := { name := "filterParts", fn := fun _ => fun
  | [d1, d2] => { results := [.lit (.bool false)], args := [d1, d2] }
  | _ => none }
def FilterPartsWrongFalsely : Prop := filterPartsRow.holds Try.pinned (OpenSpec.ofChange filterPartsWrong)

/-- 'tidemarklaw07.FilterHolds': WHATEVER THE INPUT: true; the input reads as it did. -/
def filterHoldsSpec : ChangeSpec := { name := "filterHolds", fn := fun _ => fun
  | [d1, d2] => { results := [.lit (.bool true)], args := [d1, d2] }
  | _ => none }
def filterHoldsRow : OpenClaim := { program := "ytooafilbmjnfmaa", sum := "05c9c41913ddfa0697fd094764e212480c6795e762f09d7c11b9300d07a7d9ec", func := "tidemark/tidemarklaw07.FilterHolds", spec := "filterHolds", unfollowed := true, recurses := true, loops := true, apart := false }
def FilterHoldsSaid : Prop := filterHoldsRow.holds Try.pinned (OpenSpec.ofChange filterHoldsSpec)

/-- ITS FALSE NEIGHBOUR: 'it returns false'. Refute it at one input. -/
def filterHoldsWrong : ChangeSpec := { name := "filterHolds", fn := fun _ => fun
  | [d1, d2] => { results := [.lit (.bool false)], args := [d1, d2] }
  | _ => none }
def FilterHoldsWrongFalsely : Prop := filterHoldsRow.holds Try.pinned (OpenSpec.ofChange filterHoldsWrong)

/-- 'tidemarklaw07.FilterPasses': WHATEVER THE INPUT: true; the input reads as it did. -/
def filterPassesSpec : ChangeSpec := { name := "filterPasses", fn := fun _ => fun
  | [d1, d2, d3] => { results := [.lit (.bool true)], args := [d1, d2, d3] }
  | _ => none }
def filterPassesRow : OpenClaim := { program := "ytooafilbmjnfmaa", sum := "05c9c41913ddfa0697fd094764e212480c6795e762f09d7c11b9300d07a7d9ec", func := "tidemark/tidemarklaw07.FilterPasses", spec := "filterPasses", unfollowed := true, recurses := true, loops := true, apart := false }
def FilterPassesSaid : Prop := filterPassesRow.holds Try.pinned (OpenSpec.ofChange filterPassesSpec)

/-- ITS FALSE NEIGHBOUR: 'it returns false'. Refute it at one input. -/
def filterPassesWrong : ChangeSpec := { name := "filterPasses", fn := fun _ => fun
  | [d1, d2, d3] => { results := [.lit (.bool false)], args := [d1, d2, d3] }
  | _ => none }
def FilterPassesWrongFalsely : Prop := filterPassesRow.holds Try.pinned (OpenSpec.ofChange filterPassesWrong)

/- THE SECOND FORM. 'bulk': how many values and letters a reading holds, each counted each time it is reached (what is shared counts as often as it is met; a slice's spare places count too). A statement '..UptoSaid' is the law's where the arguments, and the package variables that the reading takes, are together of bulk at most 1048576: NARROWER than '..Said'. Prove '..Said' where nothing that the law and all that it calls make is longer than what came in: it says more and counts as full. Else prove '..UptoSaid'. A law counts once. -/
mutual
def uptoBulk {H : Type} : DataW H → Nat
  | .lit (.string bytes) => bytes.length + 1
  | .lit _ => 1
  | .nil => 1
  | .ptr d => uptoBulk d + 1
  | .slice elems spare => uptoBulkAll elems + uptoBulkAll spare + 1
  | .agg parts => uptoBulkAll parts + 1
  | .iface _ d => uptoBulk d + 1
  | .map entries => uptoBulkEntries entries + 1
  | .held _ => 1
def uptoBulkAll {H : Type} : List (DataW H) → Nat
  | [] => 0
  | d :: r => uptoBulk d + uptoBulkAll r
def uptoBulkEntries {H : Type} : List (Lit × DataW H) → Nat
  | [] => 0
  | x :: r => uptoBulkEntry x + uptoBulkEntries r
def uptoBulkEntry {H : Type} : Lit × DataW H → Nat
  | (.string bytes, d) => bytes.length + uptoBulk d + 1
  | (_, d) => uptoBulk d + 1
 end
def uptoSmall : (H : Type) → List (DataW H) → Bool := fun _ ds => decide (uptoBulkAll ds ≤ 1048576)
def OpenSpec.upto (s : _root_.Go.ChangeSpec) : _root_.Go.OpenSpec := { _root_.Go.OpenSpec.ofChange s with cond := some uptoSmall }

/-- 'tidemarklaw07.FilterChecks', WHERE WHAT IT READS IS OF BULK AT MOST 1048576: true; the input reads as it did. -/
def filterChecksUptoRow : OpenClaim := { program := "ytooafilbmjnfmaa", sum := "05c9c41913ddfa0697fd094764e212480c6795e762f09d7c11b9300d07a7d9ec", func := "tidemark/tidemarklaw07.FilterChecks", spec := "filterChecks", unfollowed := true, recurses := true, loops := true, apart := false, narrowed := true }
def FilterChecksUptoSaid : Prop := filterChecksUptoRow.holds Try.pinned (OpenSpec.upto filterChecksSpec)

/-- 'tidemarklaw07.FilterTakes', WHERE WHAT IT READS IS OF BULK AT MOST 1048576: true; the input reads as it did. -/
def filterTakesUptoRow : OpenClaim := { program := "ytooafilbmjnfmaa", sum := "05c9c41913ddfa0697fd094764e212480c6795e762f09d7c11b9300d07a7d9ec", func := "tidemark/tidemarklaw07.FilterTakes", spec := "filterTakes", unfollowed := true, recurses := true, apart := false, narrowed := true }
def FilterTakesUptoSaid : Prop := filterTakesUptoRow.holds Try.pinned (OpenSpec.upto filterTakesSpec)

/-- 'tidemarklaw07.FilterLogic', WHERE WHAT IT READS IS OF BULK AT MOST 1048576: true; the input reads as it did. -/
def filterLogicUptoRow : OpenClaim := { program := "ytooafilbmjnfmaa", sum := "05c9c41913ddfa0697fd094764e212480c6795e762f09d7c11b9300d07a7d9ec", func := "tidemark/tidemarklaw07.FilterLogic", spec := "filterLogic", unfollowed := true, recurses := true, loops := true, apart := false, narrowed := true }
def FilterLogicUptoSaid : Prop := filterLogicUptoRow.holds Try.pinned (OpenSpec.upto filterLogicSpec)

/-- 'tidemarklaw07.FilterBounds', WHERE WHAT IT READS IS OF BULK AT MOST 1048576: true; the input reads as it did. -/
def filterBoundsUptoRow : OpenClaim := { program := "ytooafilbmjnfmaa", sum := "05c9c41913ddfa0697fd094764e212480c6795e762f09d7c11b9300d07a7d9ec", func := "tidemark/tidemarklaw07.FilterBounds", spec := "filterBounds", unfollowed := true, recurses := true, loops := true, apart := false, narrowed := true }
def FilterBoundsUptoSaid : Prop := filterBoundsUptoRow.holds Try.pinned (OpenSpec.upto filterBoundsSpec)

/-- 'tidemarklaw07.FilterPuts', WHERE WHAT IT READS IS OF BULK AT MOST 1048576: true; the input reads as it did. -/
def filterPutsUptoRow : OpenClaim := { program := "ytooafilbmjnfmaa", sum := "05c9c41913ddfa0697fd094764e212480c6795e762f09d7c11b9300d07a7d9ec", func := "tidemark/tidemarklaw07.FilterPuts", spec := "filterPuts", unfollowed := true, recurses := true, loops := true, apart := false, narrowed := true }
def FilterPutsUptoSaid : Prop := filterPutsUptoRow.holds Try.pinned (OpenSpec.upto filterPutsSpec)

/-- 'tidemarklaw07.FilterBack', WHERE WHAT IT READS IS OF BULK AT MOST 1048576: true; the input reads as it did. -/
def filterBackUptoRow : OpenClaim := { program := "ytooafilbmjnfmaa", sum := "05c9c41913ddfa0697fd094764e212480c6795e762f09d7c11b9300d07a7d9ec", func := "tidemark/tidemarklaw07.FilterBack", spec := "filterBack", unfollowed := true, recurses := true, loops := true, apart := false, narrowed := true }
def FilterBackUptoSaid : Prop := filterBackUptoRow.holds Try.pinned (OpenSpec.upto filterBackSpec)

/-- 'tidemarklaw07.FilterGets', WHERE WHAT IT READS IS OF BULK AT MOST 1048576: true; the input reads as it did. -/
def filterGetsUptoRow : OpenClaim := { program := "ytooafilbmjnfmaa", sum := "05c9c41913ddfa0697fd094764e212480c6795e762f09d7c11b9300d07a7d9ec", func := "tidemark/tidemarklaw07.FilterGets", spec := "filterGets", unfollowed := true, recurses := true, apart := false, narrowed := true }
def FilterGetsUptoSaid : Prop := filterGetsUptoRow.holds Try.pinned (OpenSpec.upto filterGetsSpec)

/-- 'tidemarklaw07.FilterParts', WHERE WHAT IT READS IS OF BULK AT MOST 1048576: true; the input reads as it did. -/
def filterPartsUptoRow : OpenClaim := { program := "ytooafilbmjnfmaa", sum := "05c9c41913ddfa0697fd094764e212480c6795e762f09d7c11b9300d07a7d9ec", func := "tidemark/tidemarklaw07.FilterParts", spec := "filterParts", unfollowed := true, recurses := true, loops := true, apart := false, narrowed := true }
def FilterPartsUptoSaid : Prop := filterPartsUptoRow.holds Try.pinned (OpenSpec.upto filterPartsSpec)

/-- 'tidemarklaw07.FilterHolds', WHERE WHAT IT READS IS OF BULK AT MOST 1048576: true; the input reads as it did. -/
def filterHoldsUptoRow : OpenClaim := { program := "ytooafilbmjnfmaa", sum := "05c9c41913ddfa0697fd094764e212480c6795e762f09d7c11b9300d07a7d9ec", func := "tidemark/tidemarklaw07.FilterHolds", spec := "filterHolds", unfollowed := true, recurses := true, loops := true, apart := false, narrowed := true }
def FilterHoldsUptoSaid : Prop := filterHoldsUptoRow.holds Try.pinned (OpenSpec.upto filterHoldsSpec)

/-- 'tidemarklaw07.FilterPasses', WHERE WHAT IT READS IS OF BULK AT MOST 1048576: true; the input reads as it did. -/
def filterPassesUptoRow : OpenClaim := { program := "ytooafilbmjnfmaa", sum := "05c9c41913ddfa0697fd094764e212480c6795e762f09d7c11b9300d07a7d9ec", func := "tidemark/tidemarklaw07.FilterPasses", spec := "filterPasses", unfollowed := true, recurses := true, loops := true, apart := false, narrowed := true }
def FilterPassesUptoSaid : Prop := filterPassesUptoRow.holds Try.pinned (OpenSpec.upto filterPassesSpec)

end Rows
end Go.Proofs.Ytooafilbmjnfmaa
