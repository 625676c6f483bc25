/-
  NARROWER THAN 'FOR EVERY INPUT', by the rows' own cells (each row's printed sentence says how): WireTurned: laid · WireCut: laid · WireFrames: laid · WireForm: laid · WireOrder: laid · WireNumbers: laid · WireTexts: laid · WireNexts: laid · WireBack: laid · WireNobody: laid · WireReads: laid.
  DERIVED. THE GIVEN ROWS OF THIS SEAT. 11 by the template 'for every input the law returns true; each argument reads behind the call as it read before'; 0 by the template 'total and deterministic' (their statements: YtiapjdbeooonjaaDoorTotals.lean).
  GIVEN WITH THE SEED: the statements are not yours to turn. If you find one false, say at which input.
  Laid BY PROGRAM, IN A SANDBOX (cutbox-rows.mjs): the forced cells as the released guide's own fill.sh prints them over the translation 21378d566aa1b885… (all of the seat's roots in one cut). By AI agents, Wed Nov 11 2026. No macro, syntax, notation, axiom, sorry.
-/
import Derived.Test.YtiapjdbeooonjaaDoorChecked
import GoSem.Claim
import GoSem.ClaimJoined
import GoSem.ClaimMapViews
import Derived.JoinedTies
import Derived.KernelRfl
namespace Go.Proofs.YtiapjdbeooonjaaDoor
/- THE CELL 'sum', in the pinned program and in every row, IS THE sha256 OF THE DUMP (.gsa) THAT YtiapjdbeooonjaaDoorProg.lean LOADS. Nothing in Lean hashes anything: it is a label: what it is worth is what the hold of that sum in a sandbox is worth. -/
noncomputable def Tryd.pinned : Pinned := { name := "ytiapjdbeooonjaadoor", sum := "21378d566aa1b8858b651fc6ce21f2d5bb0da5888381023f3021d7fe84f54d4f", checked := Tryd.checked }
namespace Rows
def none {H : Type} : Left H := { results := [], args := [] }

/- WHAT THE LISTED PACKAGE-LEVEL VARIABLES READ AS WHEN THE CALL BEGINS. Each datum BY PROGRAM (the guide's laid-datum.mjs) off the statement by which the dump's own 'gosem.cut.vars' lays the variable. In a bare row this is a premise. The card (YtiapjdbeooonjaaDoorCards.lean) ties it to the program's text. -/
def laid_tidemark_wire_rows {H : Type} : DataW H := .agg [.lit (.int .u32 0), .lit (.int .u32 724315118), .lit (.int .u32 1448630236), .lit (.int .u32 2104785970), .lit (.int .u32 2897260472), .lit (.int .u32 2275181654), .lit (.int .u32 4209571940), .lit (.int .u32 3519337354), .lit (.int .u32 3370071343), .lit (.int .u32 3824361153), .lit (.int .u32 2659672819), .lit (.int .u32 3047901469), .lit (.int .u32 1685035671), .lit (.int .u32 1329836409), .lit (.int .u32 842517835), .lit (.int .u32 421258917)]

/-- 'tidemarklaw01.WireTurned': WHATEVER THE INPUT: true; the input reads as it did. -/
def wireTurnedSpec : ChangeSpec := { name := "wireTurned", fn := fun _ => fun
  | [d1, d2, d3] => { results := [.lit (.bool true)], args := [d1, d2, d3] }
  | _ => none }
def wireTurnedRow : OpenClaim := { program := "ytiapjdbeooonjaadoor", sum := "21378d566aa1b8858b651fc6ce21f2d5bb0da5888381023f3021d7fe84f54d4f", func := "tidemark/tidemarklaw01.WireTurned", spec := "wireTurned", named := ["tidemark/wire.rows"], apart := false, laid := [("tidemark/wire.rows", laid_tidemark_wire_rows)] }
def WireTurnedSaid : Prop := wireTurnedRow.holds Tryd.pinned (OpenSpec.ofChange wireTurnedSpec)

/-- ITS FALSE NEIGHBOUR: 'it returns false'. Refute it at one input. -/
def wireTurnedWrong : ChangeSpec := { name := "wireTurned", fn := fun _ => fun
  | [d1, d2, d3] => { results := [.lit (.bool false)], args := [d1, d2, d3] }
  | _ => none }
def WireTurnedWrongFalsely : Prop := wireTurnedRow.holds Tryd.pinned (OpenSpec.ofChange wireTurnedWrong)

/-- 'tidemarklaw01.WireCut': WHATEVER THE INPUT: true; the input reads as it did. -/
def wireCutSpec : ChangeSpec := { name := "wireCut", fn := fun _ => fun
  | [d1, d2] => { results := [.lit (.bool true)], args := [d1, d2] }
  | _ => none }
def wireCutRow : OpenClaim := { program := "ytiapjdbeooonjaadoor", sum := "21378d566aa1b8858b651fc6ce21f2d5bb0da5888381023f3021d7fe84f54d4f", func := "tidemark/tidemarklaw01.WireCut", spec := "wireCut", named := ["tidemark/wire.rows"], apart := false, laid := [("tidemark/wire.rows", laid_tidemark_wire_rows)] }
def WireCutSaid : Prop := wireCutRow.holds Tryd.pinned (OpenSpec.ofChange wireCutSpec)

/-- ITS FALSE NEIGHBOUR: 'it returns false'. Refute it at one input. -/
def wireCutWrong : ChangeSpec := { name := "wireCut", fn := fun _ => fun
  | [d1, d2] => { results := [.lit (.bool false)], args := [d1, d2] }
  | _ => none }
def WireCutWrongFalsely : Prop := wireCutRow.holds Tryd.pinned (OpenSpec.ofChange wireCutWrong)

/-- 'tidemarklaw01.WireFrames': WHATEVER THE INPUT: true; the input reads as it did. -/
def wireFramesSpec : ChangeSpec := { name := "wireFrames", fn := fun _ => fun
  | [d] => { results := [.lit (.bool true)], args := [d] }
  | _ => none }
def wireFramesRow : OpenClaim := { program := "ytiapjdbeooonjaadoor", sum := "21378d566aa1b8858b651fc6ce21f2d5bb0da5888381023f3021d7fe84f54d4f", func := "tidemark/tidemarklaw01.WireFrames", spec := "wireFrames", named := ["tidemark/wire.rows"], apart := false, laid := [("tidemark/wire.rows", laid_tidemark_wire_rows)] }
def WireFramesSaid : Prop := wireFramesRow.holds Tryd.pinned (OpenSpec.ofChange wireFramesSpec)

/-- ITS FALSE NEIGHBOUR: 'it returns false'. Refute it at one input. -/
def wireFramesWrong : ChangeSpec := { name := "wireFrames", fn := fun _ => fun
  | [d] => { results := [.lit (.bool false)], args := [d] }
  | _ => none }
def WireFramesWrongFalsely : Prop := wireFramesRow.holds Tryd.pinned (OpenSpec.ofChange wireFramesWrong)

/-- 'tidemarklaw01.WireForm': WHATEVER THE INPUT: true; the input reads as it did. -/
def wireFormSpec : ChangeSpec := { name := "wireForm", fn := fun _ => fun
  | [d] => { results := [.lit (.bool true)], args := [d] }
  | _ => none }
def wireFormRow : OpenClaim := { program := "ytiapjdbeooonjaadoor", sum := "21378d566aa1b8858b651fc6ce21f2d5bb0da5888381023f3021d7fe84f54d4f", func := "tidemark/tidemarklaw01.WireForm", spec := "wireForm", named := ["tidemark/wire.rows"], apart := false, laid := [("tidemark/wire.rows", laid_tidemark_wire_rows)] }
def WireFormSaid : Prop := wireFormRow.holds Tryd.pinned (OpenSpec.ofChange wireFormSpec)

/-- ITS FALSE NEIGHBOUR: 'it returns false'. Refute it at one input. -/
def wireFormWrong : ChangeSpec := { name := "wireForm", fn := fun _ => fun
  | [d] => { results := [.lit (.bool false)], args := [d] }
  | _ => none }
def WireFormWrongFalsely : Prop := wireFormRow.holds Tryd.pinned (OpenSpec.ofChange wireFormWrong)

/-- 'tidemarklaw01.WireOrder': WHATEVER THE INPUT: true; the input reads as it did. -/
def wireOrderSpec : ChangeSpec := { name := "wireOrder", fn := fun _ => fun
  | [d1, d2] => { results := [.lit (.bool true)], args := [d1, d2] }
  | _ => none }
def wireOrderRow : OpenClaim := { program := "ytiapjdbeooonjaadoor", sum := "21378d566aa1b8858b651fc6ce21f2d5bb0da5888381023f3021d7fe84f54d4f", func := "tidemark/tidemarklaw01.WireOrder", spec := "wireOrder", inPlace := ["internal/bytealg.Compare"], named := ["tidemark/wire.rows"], apart := false, laid := [("tidemark/wire.rows", laid_tidemark_wire_rows)] }
def WireOrderSaid : Prop := wireOrderRow.holds Tryd.pinned (OpenSpec.ofChange wireOrderSpec)

/-- ITS FALSE NEIGHBOUR: 'it returns false'. Refute it at one input. -/
def wireOrderWrong : ChangeSpec := { name := "wireOrder", fn := fun _ => fun
  | [d1, d2] => { results := [.lit (.bool false)], args := [d1, d2] }
  | _ => none }
def WireOrderWrongFalsely : Prop := wireOrderRow.holds Tryd.pinned (OpenSpec.ofChange wireOrderWrong)

/-- 'tidemarklaw01.WireNumbers': WHATEVER THE INPUT: true; the input reads as it did. -/
def wireNumbersSpec : ChangeSpec := { name := "wireNumbers", fn := fun _ => fun
  | [d1, d2] => { results := [.lit (.bool true)], args := [d1, d2] }
  | _ => none }
def wireNumbersRow : OpenClaim := { program := "ytiapjdbeooonjaadoor", sum := "21378d566aa1b8858b651fc6ce21f2d5bb0da5888381023f3021d7fe84f54d4f", func := "tidemark/tidemarklaw01.WireNumbers", spec := "wireNumbers", named := ["tidemark/wire.rows"], apart := false, laid := [("tidemark/wire.rows", laid_tidemark_wire_rows)] }
def WireNumbersSaid : Prop := wireNumbersRow.holds Tryd.pinned (OpenSpec.ofChange wireNumbersSpec)

/-- ITS FALSE NEIGHBOUR: 'it returns false'. Refute it at one input. -/
def wireNumbersWrong : ChangeSpec := { name := "wireNumbers", fn := fun _ => fun
  | [d1, d2] => { results := [.lit (.bool false)], args := [d1, d2] }
  | _ => none }
def WireNumbersWrongFalsely : Prop := wireNumbersRow.holds Tryd.pinned (OpenSpec.ofChange wireNumbersWrong)

/-- 'tidemarklaw01.WireTexts': WHATEVER THE INPUT: true; the input reads as it did. -/
def wireTextsSpec : ChangeSpec := { name := "wireTexts", fn := fun _ => fun
  | [d1, d2, d3, d4] => { results := [.lit (.bool true)], args := [d1, d2, d3, d4] }
  | _ => none }
def wireTextsRow : OpenClaim := { program := "ytiapjdbeooonjaadoor", sum := "21378d566aa1b8858b651fc6ce21f2d5bb0da5888381023f3021d7fe84f54d4f", func := "tidemark/tidemarklaw01.WireTexts", spec := "wireTexts", named := ["tidemark/wire.rows"], apart := false, laid := [("tidemark/wire.rows", laid_tidemark_wire_rows)] }
def WireTextsSaid : Prop := wireTextsRow.holds Tryd.pinned (OpenSpec.ofChange wireTextsSpec)

/-- ITS FALSE NEIGHBOUR: 'it returns false'. Refute it at one input. -/
def wireTextsWrong : ChangeSpec := { name := "wireTexts", fn := fun _ => fun
  | [d1, d2, d3, d4] => { results := [.lit (.bool false)], args := [d1, d2, d3, d4] }
  | _ => none }
def WireTextsWrongFalsely : Prop := wireTextsRow.holds Tryd.pinned (OpenSpec.ofChange wireTextsWrong)

/-- 'tidemarklaw01.WireNexts': WHATEVER THE INPUT: true; the input reads as it did. -/
def wireNextsSpec : ChangeSpec := { name := "wireNexts", fn := fun _ => fun
  | [d] => { results := [.lit (.bool true)], args := [d] }
  | _ => none }
def wireNextsRow : OpenClaim := { program := "ytiapjdbeooonjaadoor", sum := "21378d566aa1b8858b651fc6ce21f2d5bb0da5888381023f3021d7fe84f54d4f", func := "tidemark/tidemarklaw01.WireNexts", spec := "wireNexts", unfollowed := true, recurses := true, named := ["tidemark/wire.rows"], apart := false, laid := [("tidemark/wire.rows", laid_tidemark_wire_rows)] }
def WireNextsSaid : Prop := wireNextsRow.holds Tryd.pinned (OpenSpec.ofChange wireNextsSpec)

/-- ITS FALSE NEIGHBOUR: 'it returns false'. Refute it at one input. -/
def wireNextsWrong : ChangeSpec := { name := "wireNexts", fn := fun _ => fun
  | [d] => { results := [.lit (.bool false)], args := [d] }
  | _ => none }
def WireNextsWrongFalsely : Prop := wireNextsRow.holds Tryd.pinned (OpenSpec.ofChange wireNextsWrong)

/-- 'tidemarklaw01.WireBack': WHATEVER THE INPUT: true; the input reads as it did. -/
def wireBackSpec : ChangeSpec := { name := "wireBack", fn := fun _ => fun
  | [d1, d2, d3, d4, d5] => { results := [.lit (.bool true)], args := [d1, d2, d3, d4, d5] }
  | _ => none }
def wireBackRow : OpenClaim := { program := "ytiapjdbeooonjaadoor", sum := "21378d566aa1b8858b651fc6ce21f2d5bb0da5888381023f3021d7fe84f54d4f", func := "tidemark/tidemarklaw01.WireBack", spec := "wireBack", named := ["tidemark/wire.rows"], apart := false, laid := [("tidemark/wire.rows", laid_tidemark_wire_rows)] }
def WireBackSaid : Prop := wireBackRow.holds Tryd.pinned (OpenSpec.ofChange wireBackSpec)

/-- ITS FALSE NEIGHBOUR: 'it returns false'. Refute it at one input. -/
def wireBackWrong : ChangeSpec := { name := "wireBack", fn := fun _ => fun
  | [d1, d2, d3, d4, d5] => { results := [.lit (.bool false)], args := [d1, d2, d3, d4, d5] }
  | _ => none }
def WireBackWrongFalsely : Prop := wireBackRow.holds Tryd.pinned (OpenSpec.ofChange wireBackWrong)

/-- 'tidemarklaw01.WireNobody': WHATEVER THE INPUT: true; the input reads as it did. -/
def wireNobodySpec : ChangeSpec := { name := "wireNobody", fn := fun _ => fun
  | [d] => { results := [.lit (.bool true)], args := [d] }
  | _ => none }
def wireNobodyRow : OpenClaim := { program := "ytiapjdbeooonjaadoor", sum := "21378d566aa1b8858b651fc6ce21f2d5bb0da5888381023f3021d7fe84f54d4f", func := "tidemark/tidemarklaw01.WireNobody", spec := "wireNobody", named := ["tidemark/wire.rows"], apart := false, laid := [("tidemark/wire.rows", laid_tidemark_wire_rows)] }
def WireNobodySaid : Prop := wireNobodyRow.holds Tryd.pinned (OpenSpec.ofChange wireNobodySpec)

/-- ITS FALSE NEIGHBOUR: 'it returns false'. Refute it at one input. -/
def wireNobodyWrong : ChangeSpec := { name := "wireNobody", fn := fun _ => fun
  | [d] => { results := [.lit (.bool false)], args := [d] }
  | _ => none }
def WireNobodyWrongFalsely : Prop := wireNobodyRow.holds Tryd.pinned (OpenSpec.ofChange wireNobodyWrong)

/-- 'tidemarklaw01.WireReads': WHATEVER THE INPUT: true; the input reads as it did. -/
def wireReadsSpec : ChangeSpec := { name := "wireReads", fn := fun _ => fun
  | [d1, d2] => { results := [.lit (.bool true)], args := [d1, d2] }
  | _ => none }
def wireReadsRow : OpenClaim := { program := "ytiapjdbeooonjaadoor", sum := "21378d566aa1b8858b651fc6ce21f2d5bb0da5888381023f3021d7fe84f54d4f", func := "tidemark/tidemarklaw01.WireReads", spec := "wireReads", named := ["tidemark/wire.rows"], apart := false, laid := [("tidemark/wire.rows", laid_tidemark_wire_rows)] }
def WireReadsSaid : Prop := wireReadsRow.holds Tryd.pinned (OpenSpec.ofChange wireReadsSpec)

/-- ITS FALSE NEIGHBOUR: 'it returns false'. Refute it at one input. -/
def wireReadsWrong : ChangeSpec := { name := "wireReads", fn := fun _ => fun
  | [d1, d2] => { results := [.lit (.bool false)], args := [d1, d2] }
  | _ => none }
def WireReadsWrongFalsely : Prop := wireReadsRow.holds Tryd.pinned (OpenSpec.ofChange wireReadsWrong)

/- THE SECOND FORM. 'bulk': how many values and letters a reading holds, each counted each time it is reached (what is shared counts as often as it is met; a slice's spare places count too). A statement '..UptoSaid' is the law's where the arguments, and the package variables that the reading takes, are together of bulk at most 1048576: NARROWER than '..Said'. Prove '..Said' where nothing that the law and all that it calls make is longer than what came in: it says more and counts as full. Else prove '..UptoSaid'. A law counts once. -/
mutual
def uptoBulk {H : Type} : DataW H → Nat
  | .lit (.string bytes) => bytes.length + 1
  | .lit _ => 1
  | .nil => 1
  | .ptr d => uptoBulk d + 1
  | .slice elems spare => uptoBulkAll elems + uptoBulkAll spare + 1
  | .agg parts => uptoBulkAll parts + 1
  | .iface _ d => uptoBulk d + 1
  | .map entries => uptoBulkEntries entries + 1
  | .held _ => 1
def uptoBulkAll {H : Type} : List (DataW H) → Nat
  | [] => 0
  | d :: r => uptoBulk d + uptoBulkAll r
def uptoBulkEntries {H : Type} : List (Lit × DataW H) → Nat
  | [] => 0
  | x :: r => uptoBulkEntry x + uptoBulkEntries r
def uptoBulkEntry {H : Type} : Lit × DataW H → Nat
  | (.string bytes, d) => bytes.length + uptoBulk d + 1
  | (_, d) => uptoBulk d + 1
 end
def uptoSmall : (H : Type) → List (DataW H) → Bool := fun _ ds => decide (uptoBulkAll ds ≤ 1048576)
def OpenSpec.upto (s : _root_.Go.ChangeSpec) : _root_.Go.OpenSpec := { _root_.Go.OpenSpec.ofChange s with cond := some uptoSmall }

/-- 'tidemarklaw01.WireTurned', WHERE WHAT IT READS IS OF BULK AT MOST 1048576: true; the input reads as it did. -/
def wireTurnedUptoRow : OpenClaim := { program := "ytiapjdbeooonjaadoor", sum := "21378d566aa1b8858b651fc6ce21f2d5bb0da5888381023f3021d7fe84f54d4f", func := "tidemark/tidemarklaw01.WireTurned", spec := "wireTurned", named := ["tidemark/wire.rows"], apart := false, laid := [("tidemark/wire.rows", laid_tidemark_wire_rows)], narrowed := true }
def WireTurnedUptoSaid : Prop := wireTurnedUptoRow.holds Tryd.pinned (OpenSpec.upto wireTurnedSpec)

/-- 'tidemarklaw01.WireCut', WHERE WHAT IT READS IS OF BULK AT MOST 1048576: true; the input reads as it did. -/
def wireCutUptoRow : OpenClaim := { program := "ytiapjdbeooonjaadoor", sum := "21378d566aa1b8858b651fc6ce21f2d5bb0da5888381023f3021d7fe84f54d4f", func := "tidemark/tidemarklaw01.WireCut", spec := "wireCut", named := ["tidemark/wire.rows"], apart := false, laid := [("tidemark/wire.rows", laid_tidemark_wire_rows)], narrowed := true }
def WireCutUptoSaid : Prop := wireCutUptoRow.holds Tryd.pinned (OpenSpec.upto wireCutSpec)

/-- 'tidemarklaw01.WireFrames', WHERE WHAT IT READS IS OF BULK AT MOST 1048576: true; the input reads as it did. -/
def wireFramesUptoRow : OpenClaim := { program := "ytiapjdbeooonjaadoor", sum := "21378d566aa1b8858b651fc6ce21f2d5bb0da5888381023f3021d7fe84f54d4f", func := "tidemark/tidemarklaw01.WireFrames", spec := "wireFrames", named := ["tidemark/wire.rows"], apart := false, laid := [("tidemark/wire.rows", laid_tidemark_wire_rows)], narrowed := true }
def WireFramesUptoSaid : Prop := wireFramesUptoRow.holds Tryd.pinned (OpenSpec.upto wireFramesSpec)

/-- 'tidemarklaw01.WireForm', WHERE WHAT IT READS IS OF BULK AT MOST 1048576: true; the input reads as it did. -/
def wireFormUptoRow : OpenClaim := { program := "ytiapjdbeooonjaadoor", sum := "21378d566aa1b8858b651fc6ce21f2d5bb0da5888381023f3021d7fe84f54d4f", func := "tidemark/tidemarklaw01.WireForm", spec := "wireForm", named := ["tidemark/wire.rows"], apart := false, laid := [("tidemark/wire.rows", laid_tidemark_wire_rows)], narrowed := true }
def WireFormUptoSaid : Prop := wireFormUptoRow.holds Tryd.pinned (OpenSpec.upto wireFormSpec)

/-- 'tidemarklaw01.WireOrder', WHERE WHAT IT READS IS OF BULK AT MOST 1048576: true; the input reads as it did. -/
def wireOrderUptoRow : OpenClaim := { program := "ytiapjdbeooonjaadoor", sum := "21378d566aa1b8858b651fc6ce21f2d5bb0da5888381023f3021d7fe84f54d4f", func := "tidemark/tidemarklaw01.WireOrder", spec := "wireOrder", inPlace := ["internal/bytealg.Compare"], named := ["tidemark/wire.rows"], apart := false, laid := [("tidemark/wire.rows", laid_tidemark_wire_rows)], narrowed := true }
def WireOrderUptoSaid : Prop := wireOrderUptoRow.holds Tryd.pinned (OpenSpec.upto wireOrderSpec)

/-- 'tidemarklaw01.WireNumbers', WHERE WHAT IT READS IS OF BULK AT MOST 1048576: true; the input reads as it did. -/
def wireNumbersUptoRow : OpenClaim := { program := "ytiapjdbeooonjaadoor", sum := "21378d566aa1b8858b651fc6ce21f2d5bb0da5888381023f3021d7fe84f54d4f", func := "tidemark/tidemarklaw01.WireNumbers", spec := "wireNumbers", named := ["tidemark/wire.rows"], apart := false, laid := [("tidemark/wire.rows", laid_tidemark_wire_rows)], narrowed := true }
def WireNumbersUptoSaid : Prop := wireNumbersUptoRow.holds Tryd.pinned (OpenSpec.upto wireNumbersSpec)

/-- 'tidemarklaw01.WireTexts', WHERE WHAT IT READS IS OF BULK AT MOST 1048576: true; the input reads as it did. -/
def wireTextsUptoRow : OpenClaim := { program := "ytiapjdbeooonjaadoor", sum := "21378d566aa1b8858b651fc6ce21f2d5bb0da5888381023f3021d7fe84f54d4f", func := "tidemark/tidemarklaw01.WireTexts", spec := "wireTexts", named := ["tidemark/wire.rows"], apart := false, laid := [("tidemark/wire.rows", laid_tidemark_wire_rows)], narrowed := true }
def WireTextsUptoSaid : Prop := wireTextsUptoRow.holds Tryd.pinned (OpenSpec.upto wireTextsSpec)

/-- 'tidemarklaw01.WireNexts', WHERE WHAT IT READS IS OF BULK AT MOST 1048576: true; the input reads as it did. -/
def wireNextsUptoRow : OpenClaim := { program := "ytiapjdbeooonjaadoor", sum := "21378d566aa1b8858b651fc6ce21f2d5bb0da5888381023f3021d7fe84f54d4f", func := "tidemark/tidemarklaw01.WireNexts", spec := "wireNexts", unfollowed := true, recurses := true, named := ["tidemark/wire.rows"], apart := false, laid := [("tidemark/wire.rows", laid_tidemark_wire_rows)], narrowed := true }
def WireNextsUptoSaid : Prop := wireNextsUptoRow.holds Tryd.pinned (OpenSpec.upto wireNextsSpec)

/-- 'tidemarklaw01.WireBack', WHERE WHAT IT READS IS OF BULK AT MOST 1048576: true; the input reads as it did. -/
def wireBackUptoRow : OpenClaim := { program := "ytiapjdbeooonjaadoor", sum := "21378d566aa1b8858b651fc6ce21f2d5bb0da5888381023f3021d7fe84f54d4f", func := "tidemark/tidemarklaw01.WireBack", spec := "wireBack", named := ["tidemark/wire.rows"], apart := false, laid := [("tidemark/wire.rows", laid_tidemark_wire_rows)], narrowed := true }
def WireBackUptoSaid : Prop := wireBackUptoRow.holds Tryd.pinned (OpenSpec.upto wireBackSpec)

/-- 'tidemarklaw01.WireNobody', WHERE WHAT IT READS IS OF BULK AT MOST 1048576: true; the input reads as it did. -/
def wireNobodyUptoRow : OpenClaim := { program := "ytiapjdbeooonjaadoor", sum := "21378d566aa1b8858b651fc6ce21f2d5bb0da5888381023f3021d7fe84f54d4f", func := "tidemark/tidemarklaw01.WireNobody", spec := "wireNobody", named := ["tidemark/wire.rows"], apart := false, laid := [("tidemark/wire.rows", laid_tidemark_wire_rows)], narrowed := true }
def WireNobodyUptoSaid : Prop := wireNobodyUptoRow.holds Tryd.pinned (OpenSpec.upto wireNobodySpec)

/-- 'tidemarklaw01.WireReads', WHERE WHAT IT READS IS OF BULK AT MOST 1048576: true; the input reads as it did. -/
def wireReadsUptoRow : OpenClaim := { program := "ytiapjdbeooonjaadoor", sum := "21378d566aa1b8858b651fc6ce21f2d5bb0da5888381023f3021d7fe84f54d4f", func := "tidemark/tidemarklaw01.WireReads", spec := "wireReads", named := ["tidemark/wire.rows"], apart := false, laid := [("tidemark/wire.rows", laid_tidemark_wire_rows)], narrowed := true }
def WireReadsUptoSaid : Prop := wireReadsUptoRow.holds Tryd.pinned (OpenSpec.upto wireReadsSpec)

end Rows
end Go.Proofs.YtiapjdbeooonjaaDoor
