/-
  No cell of these rows narrows 'for every input' (looked for: loops, veiled, ifaces, maps, wideKeys, modest, calm, conditions, laid).
  DERIVED. THE GIVEN ROWS OF THIS SEAT. 8 by the template 'for every input the law returns true; each argument reads behind the call as it read before'; 0 by the template 'total and deterministic' (their statements: YtiebnjkjgobklaaTotals.lean).
  GIVEN WITH THE SEED: the statements are not yours to turn. If you find one false, say at which input.
  Laid BY PROGRAM, IN A SANDBOX (cutbox-rows.mjs): the forced cells as the released guide's own fill.sh prints them over the translation 3e32820a0becacac… (all of the seat's roots in one cut). By AI agents, Wed Nov 11 2026. No macro, syntax, notation, axiom, sorry.
-/
import Derived.Test.YtiebnjkjgobklaaChecked
import GoSem.Claim
import GoSem.ClaimJoined
import GoSem.ClaimMapViews
import Derived.JoinedTies
import Derived.KernelRfl
namespace Go.Proofs.Ytiebnjkjgobklaa
/- THE CELL 'sum', in the pinned program and in every row, IS THE sha256 OF THE DUMP (.gsa) THAT YtiebnjkjgobklaaProg.lean LOADS. Nothing in Lean hashes anything: it is a label: what it is worth is what the hold of that sum in a sandbox is worth. -/
noncomputable def Try.pinned : Pinned := { name := "ytiebnjkjgobklaa", sum := "3e32820a0becacac1137a07dbe190523b5a04f17528de5bec6603495b9c98f21", checked := Try.checked }
namespace Rows
def none {H : Type} : Left H := { results := [], args := [] }

/-- 'tidemarklaw14.SessOnce': WHATEVER THE INPUT: true; the input reads as it did. -/
def sessOnceSpec : ChangeSpec := { name := "sessOnce", fn := fun _ => fun
  | [d1, d2, d3] => { results := [.lit (.bool true)], args := [d1, d2, d3] }
  | _ => none }
def sessOnceRow : OpenClaim := { program := "ytiebnjkjgobklaa", sum := "3e32820a0becacac1137a07dbe190523b5a04f17528de5bec6603495b9c98f21", func := "tidemark/tidemarklaw14.SessOnce", spec := "sessOnce", unfollowed := true, recurses := true, apart := false }
def SessOnceSaid : Prop := sessOnceRow.holds Try.pinned (OpenSpec.ofChange sessOnceSpec)

/-- ITS FALSE NEIGHBOUR: 'it returns false'. Refute it at one input. -/
def sessOnceWrong : ChangeSpec := { name := "sessOnce", fn := fun _ => fun
  | [d1, d2, d3] => { results := [.lit (.bool false)], args := [d1, d2, d3] }
  | _ => none }
def SessOnceWrongFalsely : Prop := sessOnceRow.holds Try.pinned (OpenSpec.ofChange sessOnceWrong)

/-- 'tidemarklaw14.SessPlays': WHATEVER THE INPUT: true; the input reads as it did. -/
def sessPlaysSpec : ChangeSpec := { name := "sessPlays", fn := fun _ => fun
  | [d] => { results := [.lit (.bool true)], args := [d] }
  | _ => none }
def sessPlaysRow : OpenClaim := { program := "ytiebnjkjgobklaa", sum := "3e32820a0becacac1137a07dbe190523b5a04f17528de5bec6603495b9c98f21", func := "tidemark/tidemarklaw14.SessPlays", spec := "sessPlays", unfollowed := true, recurses := true, apart := false }
def SessPlaysSaid : Prop := sessPlaysRow.holds Try.pinned (OpenSpec.ofChange sessPlaysSpec)

/-- ITS FALSE NEIGHBOUR: 'it returns false'. Refute it at one input. -/
def sessPlaysWrong : ChangeSpec := { name := "sessPlays", fn := fun _ => fun
  | [d] => { results := [.lit (.bool false)], args := [d] }
  | _ => none }
def SessPlaysWrongFalsely : Prop := sessPlaysRow.holds Try.pinned (OpenSpec.ofChange sessPlaysWrong)

/-- 'tidemarklaw14.SessNext': WHATEVER THE INPUT: true; the input reads as it did. -/
def sessNextSpec : ChangeSpec := { name := "sessNext", fn := fun _ => fun
  | [d1, d2, d3] => { results := [.lit (.bool true)], args := [d1, d2, d3] }
  | _ => none }
def sessNextRow : OpenClaim := { program := "ytiebnjkjgobklaa", sum := "3e32820a0becacac1137a07dbe190523b5a04f17528de5bec6603495b9c98f21", func := "tidemark/tidemarklaw14.SessNext", spec := "sessNext", unfollowed := true, recurses := true, apart := false }
def SessNextSaid : Prop := sessNextRow.holds Try.pinned (OpenSpec.ofChange sessNextSpec)

/-- ITS FALSE NEIGHBOUR: 'it returns false'. Refute it at one input. -/
def sessNextWrong : ChangeSpec := { name := "sessNext", fn := fun _ => fun
  | [d1, d2, d3] => { results := [.lit (.bool false)], args := [d1, d2, d3] }
  | _ => none }
def SessNextWrongFalsely : Prop := sessNextRow.holds Try.pinned (OpenSpec.ofChange sessNextWrong)

/-- 'tidemarklaw14.SessNumbers': WHATEVER THE INPUT: true; the input reads as it did. -/
def sessNumbersSpec : ChangeSpec := { name := "sessNumbers", fn := fun _ => fun
  | [d] => { results := [.lit (.bool true)], args := [d] }
  | _ => none }
def sessNumbersRow : OpenClaim := { program := "ytiebnjkjgobklaa", sum := "3e32820a0becacac1137a07dbe190523b5a04f17528de5bec6603495b9c98f21", func := "tidemark/tidemarklaw14.SessNumbers", spec := "sessNumbers", unfollowed := true, recurses := true, apart := false }
def SessNumbersSaid : Prop := sessNumbersRow.holds Try.pinned (OpenSpec.ofChange sessNumbersSpec)

/-- ITS FALSE NEIGHBOUR: 'it returns false'. Refute it at one input. -/
def sessNumbersWrong : ChangeSpec := { name := "sessNumbers", fn := fun _ => fun
  | [d] => { results := [.lit (.bool false)], args := [d] }
  | _ => none }
def SessNumbersWrongFalsely : Prop := sessNumbersRow.holds Try.pinned (OpenSpec.ofChange sessNumbersWrong)

/-- 'tidemarklaw14.SessNobody': WHATEVER THE INPUT: true; the input reads as it did. -/
def sessNobodySpec : ChangeSpec := { name := "sessNobody", fn := fun _ => fun
  | [d1, d2] => { results := [.lit (.bool true)], args := [d1, d2] }
  | _ => none }
def sessNobodyRow : OpenClaim := { program := "ytiebnjkjgobklaa", sum := "3e32820a0becacac1137a07dbe190523b5a04f17528de5bec6603495b9c98f21", func := "tidemark/tidemarklaw14.SessNobody", spec := "sessNobody", unfollowed := true, recurses := true, apart := false }
def SessNobodySaid : Prop := sessNobodyRow.holds Try.pinned (OpenSpec.ofChange sessNobodySpec)

/-- ITS FALSE NEIGHBOUR: 'it returns false'. Refute it at one input. -/
def sessNobodyWrong : ChangeSpec := { name := "sessNobody", fn := fun _ => fun
  | [d1, d2] => { results := [.lit (.bool false)], args := [d1, d2] }
  | _ => none }
def SessNobodyWrongFalsely : Prop := sessNobodyRow.holds Try.pinned (OpenSpec.ofChange sessNobodyWrong)

/-- 'tidemarklaw14.SessRefused': WHATEVER THE INPUT: true; the input reads as it did. -/
def sessRefusedSpec : ChangeSpec := { name := "sessRefused", fn := fun _ => fun
  | [d1, d2] => { results := [.lit (.bool true)], args := [d1, d2] }
  | _ => none }
def sessRefusedRow : OpenClaim := { program := "ytiebnjkjgobklaa", sum := "3e32820a0becacac1137a07dbe190523b5a04f17528de5bec6603495b9c98f21", func := "tidemark/tidemarklaw14.SessRefused", spec := "sessRefused", unfollowed := true, recurses := true, apart := false }
def SessRefusedSaid : Prop := sessRefusedRow.holds Try.pinned (OpenSpec.ofChange sessRefusedSpec)

/-- ITS FALSE NEIGHBOUR: 'it returns false'. Refute it at one input. -/
def sessRefusedWrong : ChangeSpec := { name := "sessRefused", fn := fun _ => fun
  | [d1, d2] => { results := [.lit (.bool false)], args := [d1, d2] }
  | _ => none }
def SessRefusedWrongFalsely : Prop := sessRefusedRow.holds Try.pinned (OpenSpec.ofChange sessRefusedWrong)

/-- 'tidemarklaw14.SessGets': WHATEVER THE INPUT: true; the input reads as it did. -/
def sessGetsSpec : ChangeSpec := { name := "sessGets", fn := fun _ => fun
  | [d] => { results := [.lit (.bool true)], args := [d] }
  | _ => none }
def sessGetsRow : OpenClaim := { program := "ytiebnjkjgobklaa", sum := "3e32820a0becacac1137a07dbe190523b5a04f17528de5bec6603495b9c98f21", func := "tidemark/tidemarklaw14.SessGets", spec := "sessGets", unfollowed := true, recurses := true, apart := false }
def SessGetsSaid : Prop := sessGetsRow.holds Try.pinned (OpenSpec.ofChange sessGetsSpec)

/-- ITS FALSE NEIGHBOUR: 'it returns false'. Refute it at one input. -/
def sessGetsWrong : ChangeSpec := { name := "sessGets", fn := fun _ => fun
  | [d] => { results := [.lit (.bool false)], args := [d] }
  | _ => none }
def SessGetsWrongFalsely : Prop := sessGetsRow.holds Try.pinned (OpenSpec.ofChange sessGetsWrong)

/-- 'tidemarklaw14.SessBytes': WHATEVER THE INPUT: true; the input reads as it did. -/
def sessBytesSpec : ChangeSpec := { name := "sessBytes", fn := fun _ => fun
  | [d1, d2, d3] => { results := [.lit (.bool true)], args := [d1, d2, d3] }
  | _ => none }
def sessBytesRow : OpenClaim := { program := "ytiebnjkjgobklaa", sum := "3e32820a0becacac1137a07dbe190523b5a04f17528de5bec6603495b9c98f21", func := "tidemark/tidemarklaw14.SessBytes", spec := "sessBytes", unfollowed := true, recurses := true, apart := false }
def SessBytesSaid : Prop := sessBytesRow.holds Try.pinned (OpenSpec.ofChange sessBytesSpec)

/-- ITS FALSE NEIGHBOUR: 'it returns false'. Refute it at one input. -/
def sessBytesWrong : ChangeSpec := { name := "sessBytes", fn := fun _ => fun
  | [d1, d2, d3] => { results := [.lit (.bool false)], args := [d1, d2, d3] }
  | _ => none }
def SessBytesWrongFalsely : Prop := sessBytesRow.holds Try.pinned (OpenSpec.ofChange sessBytesWrong)

/- THE SECOND FORM. 'bulk': how many values and letters a reading holds, each counted each time it is reached (what is shared counts as often as it is met; a slice's spare places count too). A statement '..UptoSaid' is the law's where the arguments, and the package variables that the reading takes, are together of bulk at most 1048576: NARROWER than '..Said'. Prove '..Said' where nothing that the law and all that it calls make is longer than what came in: it says more and counts as full. Else prove '..UptoSaid'. A law counts once. -/
mutual
def uptoBulk {H : Type} : DataW H → Nat
  | .lit (.string bytes) => bytes.length + 1
  | .lit _ => 1
  | .nil => 1
  | .ptr d => uptoBulk d + 1
  | .slice elems spare => uptoBulkAll elems + uptoBulkAll spare + 1
  | .agg parts => uptoBulkAll parts + 1
  | .iface _ d => uptoBulk d + 1
  | .map entries => uptoBulkEntries entries + 1
  | .held _ => 1
def uptoBulkAll {H : Type} : List (DataW H) → Nat
  | [] => 0
  | d :: r => uptoBulk d + uptoBulkAll r
def uptoBulkEntries {H : Type} : List (Lit × DataW H) → Nat
  | [] => 0
  | x :: r => uptoBulkEntry x + uptoBulkEntries r
def uptoBulkEntry {H : Type} : Lit × DataW H → Nat
  | (.string bytes, d) => bytes.length + uptoBulk d + 1
  | (_, d) => uptoBulk d + 1
 end
def uptoSmall : (H : Type) → List (DataW H) → Bool := fun _ ds => decide (uptoBulkAll ds ≤ 1048576)
def OpenSpec.upto (s : _root_.Go.ChangeSpec) : _root_.Go.OpenSpec := { _root_.Go.OpenSpec.ofChange s with cond := some uptoSmall }

/-- 'tidemarklaw14.SessOnce', WHERE WHAT IT READS IS OF BULK AT MOST 1048576: true; the input reads as it did. -/
def sessOnceUptoRow : OpenClaim := { program := "ytiebnjkjgobklaa", sum := "3e32820a0becacac1137a07dbe190523b5a04f17528de5bec6603495b9c98f21", func := "tidemark/tidemarklaw14.SessOnce", spec := "sessOnce", unfollowed := true, recurses := true, apart := false, narrowed := true }
def SessOnceUptoSaid : Prop := sessOnceUptoRow.holds Try.pinned (OpenSpec.upto sessOnceSpec)

/-- 'tidemarklaw14.SessPlays', WHERE WHAT IT READS IS OF BULK AT MOST 1048576: true; the input reads as it did. -/
def sessPlaysUptoRow : OpenClaim := { program := "ytiebnjkjgobklaa", sum := "3e32820a0becacac1137a07dbe190523b5a04f17528de5bec6603495b9c98f21", func := "tidemark/tidemarklaw14.SessPlays", spec := "sessPlays", unfollowed := true, recurses := true, apart := false, narrowed := true }
def SessPlaysUptoSaid : Prop := sessPlaysUptoRow.holds Try.pinned (OpenSpec.upto sessPlaysSpec)

/-- 'tidemarklaw14.SessNext', WHERE WHAT IT READS IS OF BULK AT MOST 1048576: true; the input reads as it did. -/
def sessNextUptoRow : OpenClaim := { program := "ytiebnjkjgobklaa", sum := "3e32820a0becacac1137a07dbe190523b5a04f17528de5bec6603495b9c98f21", func := "tidemark/tidemarklaw14.SessNext", spec := "sessNext", unfollowed := true, recurses := true, apart := false, narrowed := true }
def SessNextUptoSaid : Prop := sessNextUptoRow.holds Try.pinned (OpenSpec.upto sessNextSpec)

/-- 'tidemarklaw14.SessNumbers', WHERE WHAT IT READS IS OF BULK AT MOST 1048576: true; the input reads as it did. -/
def sessNumbersUptoRow : OpenClaim := { program := "ytiebnjkjgobklaa", sum := "3e32820a0becacac1137a07dbe190523b5a04f17528de5bec6603495b9c98f21", func := "tidemark/tidemarklaw14.SessNumbers", spec := "sessNumbers", unfollowed := true, recurses := true, apart := false, narrowed := true }
def SessNumbersUptoSaid : Prop := sessNumbersUptoRow.holds Try.pinned (OpenSpec.upto sessNumbersSpec)

/-- 'tidemarklaw14.SessNobody', WHERE WHAT IT READS IS OF BULK AT MOST 1048576: true; the input reads as it did. -/
def sessNobodyUptoRow : OpenClaim := { program := "ytiebnjkjgobklaa", sum := "3e32820a0becacac1137a07dbe190523b5a04f17528de5bec6603495b9c98f21", func := "tidemark/tidemarklaw14.SessNobody", spec := "sessNobody", unfollowed := true, recurses := true, apart := false, narrowed := true }
def SessNobodyUptoSaid : Prop := sessNobodyUptoRow.holds Try.pinned (OpenSpec.upto sessNobodySpec)

/-- 'tidemarklaw14.SessRefused', WHERE WHAT IT READS IS OF BULK AT MOST 1048576: true; the input reads as it did. -/
def sessRefusedUptoRow : OpenClaim := { program := "ytiebnjkjgobklaa", sum := "3e32820a0becacac1137a07dbe190523b5a04f17528de5bec6603495b9c98f21", func := "tidemark/tidemarklaw14.SessRefused", spec := "sessRefused", unfollowed := true, recurses := true, apart := false, narrowed := true }
def SessRefusedUptoSaid : Prop := sessRefusedUptoRow.holds Try.pinned (OpenSpec.upto sessRefusedSpec)

/-- 'tidemarklaw14.SessGets', WHERE WHAT IT READS IS OF BULK AT MOST 1048576: true; the input reads as it did. -/
def sessGetsUptoRow : OpenClaim := { program := "ytiebnjkjgobklaa", sum := "3e32820a0becacac1137a07dbe190523b5a04f17528de5bec6603495b9c98f21", func := "tidemark/tidemarklaw14.SessGets", spec := "sessGets", unfollowed := true, recurses := true, apart := false, narrowed := true }
def SessGetsUptoSaid : Prop := sessGetsUptoRow.holds Try.pinned (OpenSpec.upto sessGetsSpec)

/-- 'tidemarklaw14.SessBytes', WHERE WHAT IT READS IS OF BULK AT MOST 1048576: true; the input reads as it did. -/
def sessBytesUptoRow : OpenClaim := { program := "ytiebnjkjgobklaa", sum := "3e32820a0becacac1137a07dbe190523b5a04f17528de5bec6603495b9c98f21", func := "tidemark/tidemarklaw14.SessBytes", spec := "sessBytes", unfollowed := true, recurses := true, apart := false, narrowed := true }
def SessBytesUptoSaid : Prop := sessBytesUptoRow.holds Try.pinned (OpenSpec.upto sessBytesSpec)

end Rows
end Go.Proofs.Ytiebnjkjgobklaa
