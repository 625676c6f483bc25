/-
  NARROWER THAN 'FOR EVERY INPUT', by the rows' own cells (each row's printed sentence says how): FeedApart: loops · FeedPlays: loops · FeedExact: loops · FeedBounds: loops · FeedLets: loops · FeedRefused: loops · FeedNobody: loops · FeedBytes: loops.
  DERIVED. THE GIVEN ROWS OF THIS SEAT. 8 by the template 'for every input the law returns true; each argument reads behind the call as it read before'; 0 by the template 'total and deterministic' (their statements: YtdjfijdnhfmeeaaTotals.lean).
  GIVEN WITH THE SEED: the statements are not yours to turn. If you find one false, say at which input.
  Laid BY PROGRAM, IN A SANDBOX (cutbox-rows.mjs): the forced cells as the released guide's own fill.sh prints them over the translation 1c20c4e2cafd38ae… (all of the seat's roots in one cut). By AI agents, Wed Nov 11 2026. No macro, syntax, notation, axiom, sorry.
-/
import Derived.Test.YtdjfijdnhfmeeaaChecked
import GoSem.Claim
import GoSem.ClaimJoined
import GoSem.ClaimMapViews
import Derived.JoinedTies
import Derived.KernelRfl
namespace Go.Proofs.Ytdjfijdnhfmeeaa
/- THE CELL 'sum', in the pinned program and in every row, IS THE sha256 OF THE DUMP (.gsa) THAT YtdjfijdnhfmeeaaProg.lean LOADS. Nothing in Lean hashes anything: it is a label: what it is worth is what the hold of that sum in a sandbox is worth. -/
noncomputable def Try.pinned : Pinned := { name := "ytdjfijdnhfmeeaa", sum := "1c20c4e2cafd38aef4499f8364baf610c4b4db0bb6a90e4c3a3a70275b9d2548", checked := Try.checked }
namespace Rows
def none {H : Type} : Left H := { results := [], args := [] }

/-- 'tidemarklaw12.FeedApart': WHATEVER THE INPUT: true; the input reads as it did. -/
def feedApartSpec : ChangeSpec := { name := "feedApart", fn := fun _ => fun
  | [d1, d2, d3, d4] => { results := [.lit (.bool true)], args := [d1, d2, d3, d4] }
  | _ => none }
def feedApartRow : OpenClaim := { program := "ytdjfijdnhfmeeaa", sum := "1c20c4e2cafd38aef4499f8364baf610c4b4db0bb6a90e4c3a3a70275b9d2548", func := "tidemark/tidemarklaw12.FeedApart", spec := "feedApart", unfollowed := true, recurses := true, loops := true, apart := false }
def FeedApartSaid : Prop := feedApartRow.holds Try.pinned (OpenSpec.ofChange feedApartSpec)

/-- ITS FALSE NEIGHBOUR: 'it returns false'. Refute it at one input. -/
def feedApartWrong : ChangeSpec := { name := "feedApart", fn := fun _ => fun
  | [d1, d2, d3, d4] => { results := [.lit (.bool false)], args := [d1, d2, d3, d4] }
  | _ => none }
def FeedApartWrongFalsely : Prop := feedApartRow.holds Try.pinned (OpenSpec.ofChange feedApartWrong)

/-- 'tidemarklaw12.FeedPlays': WHATEVER THE INPUT: true; the input reads as it did. -/
def feedPlaysSpec : ChangeSpec := { name := "feedPlays", fn := fun _ => fun
  | [d] => { results := [.lit (.bool true)], args := [d] }
  | _ => none }
def feedPlaysRow : OpenClaim := { program := "ytdjfijdnhfmeeaa", sum := "1c20c4e2cafd38aef4499f8364baf610c4b4db0bb6a90e4c3a3a70275b9d2548", func := "tidemark/tidemarklaw12.FeedPlays", spec := "feedPlays", unfollowed := true, recurses := true, loops := true, apart := false }
def FeedPlaysSaid : Prop := feedPlaysRow.holds Try.pinned (OpenSpec.ofChange feedPlaysSpec)

/-- ITS FALSE NEIGHBOUR: 'it returns false'. Refute it at one input. -/
def feedPlaysWrong : ChangeSpec := { name := "feedPlays", fn := fun _ => fun
  | [d] => { results := [.lit (.bool false)], args := [d] }
  | _ => none }
def FeedPlaysWrongFalsely : Prop := feedPlaysRow.holds Try.pinned (OpenSpec.ofChange feedPlaysWrong)

/-- 'tidemarklaw12.FeedExact': WHATEVER THE INPUT: true; the input reads as it did. -/
def feedExactSpec : ChangeSpec := { name := "feedExact", fn := fun _ => fun
  | [d1, d2, d3] => { results := [.lit (.bool true)], args := [d1, d2, d3] }
  | _ => none }
def feedExactRow : OpenClaim := { program := "ytdjfijdnhfmeeaa", sum := "1c20c4e2cafd38aef4499f8364baf610c4b4db0bb6a90e4c3a3a70275b9d2548", func := "tidemark/tidemarklaw12.FeedExact", spec := "feedExact", unfollowed := true, recurses := true, loops := true, apart := false }
def FeedExactSaid : Prop := feedExactRow.holds Try.pinned (OpenSpec.ofChange feedExactSpec)

/-- ITS FALSE NEIGHBOUR: 'it returns false'. Refute it at one input. -/
def feedExactWrong : ChangeSpec := { name := "feedExact", fn := fun _ => fun
  | [d1, d2, d3] => { results := [.lit (.bool false)], args := [d1, d2, d3] }
  | _ => none }
def FeedExactWrongFalsely : Prop := feedExactRow.holds Try.pinned (OpenSpec.ofChange feedExactWrong)

/-- 'tidemarklaw12.FeedBounds': WHATEVER THE INPUT: true; the input reads as it did. -/
def feedBoundsSpec : ChangeSpec := { name := "feedBounds", fn := fun _ => fun
  | [d] => { results := [.lit (.bool true)], args := [d] }
  | _ => none }
def feedBoundsRow : OpenClaim := { program := "ytdjfijdnhfmeeaa", sum := "1c20c4e2cafd38aef4499f8364baf610c4b4db0bb6a90e4c3a3a70275b9d2548", func := "tidemark/tidemarklaw12.FeedBounds", spec := "feedBounds", unfollowed := true, recurses := true, loops := true, apart := false }
def FeedBoundsSaid : Prop := feedBoundsRow.holds Try.pinned (OpenSpec.ofChange feedBoundsSpec)

/-- ITS FALSE NEIGHBOUR: 'it returns false'. Refute it at one input. -/
def feedBoundsWrong : ChangeSpec := { name := "feedBounds", fn := fun _ => fun
  | [d] => { results := [.lit (.bool false)], args := [d] }
  | _ => none }
def FeedBoundsWrongFalsely : Prop := feedBoundsRow.holds Try.pinned (OpenSpec.ofChange feedBoundsWrong)

/-- 'tidemarklaw12.FeedLets': WHATEVER THE INPUT: true; the input reads as it did. -/
def feedLetsSpec : ChangeSpec := { name := "feedLets", fn := fun _ => fun
  | [d1, d2] => { results := [.lit (.bool true)], args := [d1, d2] }
  | _ => none }
def feedLetsRow : OpenClaim := { program := "ytdjfijdnhfmeeaa", sum := "1c20c4e2cafd38aef4499f8364baf610c4b4db0bb6a90e4c3a3a70275b9d2548", func := "tidemark/tidemarklaw12.FeedLets", spec := "feedLets", unfollowed := true, recurses := true, loops := true, apart := false }
def FeedLetsSaid : Prop := feedLetsRow.holds Try.pinned (OpenSpec.ofChange feedLetsSpec)

/-- ITS FALSE NEIGHBOUR: 'it returns false'. Refute it at one input. -/
def feedLetsWrong : ChangeSpec := { name := "feedLets", fn := fun _ => fun
  | [d1, d2] => { results := [.lit (.bool false)], args := [d1, d2] }
  | _ => none }
def FeedLetsWrongFalsely : Prop := feedLetsRow.holds Try.pinned (OpenSpec.ofChange feedLetsWrong)

/-- 'tidemarklaw12.FeedRefused': WHATEVER THE INPUT: true; the input reads as it did. -/
def feedRefusedSpec : ChangeSpec := { name := "feedRefused", fn := fun _ => fun
  | [d1, d2] => { results := [.lit (.bool true)], args := [d1, d2] }
  | _ => none }
def feedRefusedRow : OpenClaim := { program := "ytdjfijdnhfmeeaa", sum := "1c20c4e2cafd38aef4499f8364baf610c4b4db0bb6a90e4c3a3a70275b9d2548", func := "tidemark/tidemarklaw12.FeedRefused", spec := "feedRefused", unfollowed := true, recurses := true, loops := true, apart := false }
def FeedRefusedSaid : Prop := feedRefusedRow.holds Try.pinned (OpenSpec.ofChange feedRefusedSpec)

/-- ITS FALSE NEIGHBOUR: 'it returns false'. Refute it at one input. -/
def feedRefusedWrong : ChangeSpec := { name := "feedRefused", fn := fun _ => fun
  | [d1, d2] => { results := [.lit (.bool false)], args := [d1, d2] }
  | _ => none }
def FeedRefusedWrongFalsely : Prop := feedRefusedRow.holds Try.pinned (OpenSpec.ofChange feedRefusedWrong)

/-- 'tidemarklaw12.FeedNobody': WHATEVER THE INPUT: true; the input reads as it did. -/
def feedNobodySpec : ChangeSpec := { name := "feedNobody", fn := fun _ => fun
  | [d1, d2] => { results := [.lit (.bool true)], args := [d1, d2] }
  | _ => none }
def feedNobodyRow : OpenClaim := { program := "ytdjfijdnhfmeeaa", sum := "1c20c4e2cafd38aef4499f8364baf610c4b4db0bb6a90e4c3a3a70275b9d2548", func := "tidemark/tidemarklaw12.FeedNobody", spec := "feedNobody", unfollowed := true, recurses := true, loops := true, apart := false }
def FeedNobodySaid : Prop := feedNobodyRow.holds Try.pinned (OpenSpec.ofChange feedNobodySpec)

/-- ITS FALSE NEIGHBOUR: 'it returns false'. Refute it at one input. -/
def feedNobodyWrong : ChangeSpec := { name := "feedNobody", fn := fun _ => fun
  | [d1, d2] => { results := [.lit (.bool false)], args := [d1, d2] }
  | _ => none }
def FeedNobodyWrongFalsely : Prop := feedNobodyRow.holds Try.pinned (OpenSpec.ofChange feedNobodyWrong)

/-- 'tidemarklaw12.FeedBytes': WHATEVER THE INPUT: true; the input reads as it did. -/
def feedBytesSpec : ChangeSpec := { name := "feedBytes", fn := fun _ => fun
  | [d1, d2, d3] => { results := [.lit (.bool true)], args := [d1, d2, d3] }
  | _ => none }
def feedBytesRow : OpenClaim := { program := "ytdjfijdnhfmeeaa", sum := "1c20c4e2cafd38aef4499f8364baf610c4b4db0bb6a90e4c3a3a70275b9d2548", func := "tidemark/tidemarklaw12.FeedBytes", spec := "feedBytes", unfollowed := true, recurses := true, loops := true, apart := false }
def FeedBytesSaid : Prop := feedBytesRow.holds Try.pinned (OpenSpec.ofChange feedBytesSpec)

/-- ITS FALSE NEIGHBOUR: 'it returns false'. Refute it at one input. -/
def feedBytesWrong : ChangeSpec := { name := "feedBytes", fn := fun _ => fun
  | [d1, d2, d3] => { results := [.lit (.bool false)], args := [d1, d2, d3] }
  | _ => none }
def FeedBytesWrongFalsely : Prop := feedBytesRow.holds Try.pinned (OpenSpec.ofChange feedBytesWrong)

/- THE SECOND FORM. 'bulk': how many values and letters a reading holds, each counted each time it is reached (what is shared counts as often as it is met; a slice's spare places count too). A statement '..UptoSaid' is the law's where the arguments, and the package variables that the reading takes, are together of bulk at most 1048576: NARROWER than '..Said'. Prove '..Said' where nothing that the law and all that it calls make is longer than what came in: it says more and counts as full. Else prove '..UptoSaid'. A law counts once. -/
mutual
def uptoBulk {H : Type} : DataW H → Nat
  | .lit (.string bytes) => bytes.length + 1
  | .lit _ => 1
  | .nil => 1
  | .ptr d => uptoBulk d + 1
  | .slice elems spare => uptoBulkAll elems + uptoBulkAll spare + 1
  | .agg parts => uptoBulkAll parts + 1
  | .iface _ d => uptoBulk d + 1
  | .map entries => uptoBulkEntries entries + 1
  | .held _ => 1
def uptoBulkAll {H : Type} : List (DataW H) → Nat
  | [] => 0
  | d :: r => uptoBulk d + uptoBulkAll r
def uptoBulkEntries {H : Type} : List (Lit × DataW H) → Nat
  | [] => 0
  | x :: r => uptoBulkEntry x + uptoBulkEntries r
def uptoBulkEntry {H : Type} : Lit × DataW H → Nat
  | (.string bytes, d) => bytes.length + uptoBulk d + 1
  | (_, d) => uptoBulk d + 1
 end
def uptoSmall : (H : Type) → List (DataW H) → Bool := fun _ ds => decide (uptoBulkAll ds ≤ 1048576)
def OpenSpec.upto (s : _root_.Go.ChangeSpec) : _root_.Go.OpenSpec := { _root_.Go.OpenSpec.ofChange s with cond := some uptoSmall }

/-- 'tidemarklaw12.FeedApart', WHERE WHAT IT READS IS OF BULK AT MOST 1048576: true; the input reads as it did. -/
def feedApartUptoRow : OpenClaim := { program := "ytdjfijdnhfmeeaa", sum := "1c20c4e2cafd38aef4499f8364baf610c4b4db0bb6a90e4c3a3a70275b9d2548", func := "tidemark/tidemarklaw12.FeedApart", spec := "feedApart", unfollowed := true, recurses := true, loops := true, apart := false, narrowed := true }
def FeedApartUptoSaid : Prop := feedApartUptoRow.holds Try.pinned (OpenSpec.upto feedApartSpec)

/-- 'tidemarklaw12.FeedPlays', WHERE WHAT IT READS IS OF BULK AT MOST 1048576: true; the input reads as it did. -/
def feedPlaysUptoRow : OpenClaim := { program := "ytdjfijdnhfmeeaa", sum := "1c20c4e2cafd38aef4499f8364baf610c4b4db0bb6a90e4c3a3a70275b9d2548", func := "tidemark/tidemarklaw12.FeedPlays", spec := "feedPlays", unfollowed := true, recurses := true, loops := true, apart := false, narrowed := true }
def FeedPlaysUptoSaid : Prop := feedPlaysUptoRow.holds Try.pinned (OpenSpec.upto feedPlaysSpec)

/-- 'tidemarklaw12.FeedExact', WHERE WHAT IT READS IS OF BULK AT MOST 1048576: true; the input reads as it did. -/
def feedExactUptoRow : OpenClaim := { program := "ytdjfijdnhfmeeaa", sum := "1c20c4e2cafd38aef4499f8364baf610c4b4db0bb6a90e4c3a3a70275b9d2548", func := "tidemark/tidemarklaw12.FeedExact", spec := "feedExact", unfollowed := true, recurses := true, loops := true, apart := false, narrowed := true }
def FeedExactUptoSaid : Prop := feedExactUptoRow.holds Try.pinned (OpenSpec.upto feedExactSpec)

/-- 'tidemarklaw12.FeedBounds', WHERE WHAT IT READS IS OF BULK AT MOST 1048576: true; the input reads as it did. -/
def feedBoundsUptoRow : OpenClaim := { program := "ytdjfijdnhfmeeaa", sum := "1c20c4e2cafd38aef4499f8364baf610c4b4db0bb6a90e4c3a3a70275b9d2548", func := "tidemark/tidemarklaw12.FeedBounds", spec := "feedBounds", unfollowed := true, recurses := true, loops := true, apart := false, narrowed := true }
def FeedBoundsUptoSaid : Prop := feedBoundsUptoRow.holds Try.pinned (OpenSpec.upto feedBoundsSpec)

/-- 'tidemarklaw12.FeedLets', WHERE WHAT IT READS IS OF BULK AT MOST 1048576: true; the input reads as it did. -/
def feedLetsUptoRow : OpenClaim := { program := "ytdjfijdnhfmeeaa", sum := "1c20c4e2cafd38aef4499f8364baf610c4b4db0bb6a90e4c3a3a70275b9d2548", func := "tidemark/tidemarklaw12.FeedLets", spec := "feedLets", unfollowed := true, recurses := true, loops := true, apart := false, narrowed := true }
def FeedLetsUptoSaid : Prop := feedLetsUptoRow.holds Try.pinned (OpenSpec.upto feedLetsSpec)

/-- 'tidemarklaw12.FeedRefused', WHERE WHAT IT READS IS OF BULK AT MOST 1048576: true; the input reads as it did. -/
def feedRefusedUptoRow : OpenClaim := { program := "ytdjfijdnhfmeeaa", sum := "1c20c4e2cafd38aef4499f8364baf610c4b4db0bb6a90e4c3a3a70275b9d2548", func := "tidemark/tidemarklaw12.FeedRefused", spec := "feedRefused", unfollowed := true, recurses := true, loops := true, apart := false, narrowed := true }
def FeedRefusedUptoSaid : Prop := feedRefusedUptoRow.holds Try.pinned (OpenSpec.upto feedRefusedSpec)

/-- 'tidemarklaw12.FeedNobody', WHERE WHAT IT READS IS OF BULK AT MOST 1048576: true; the input reads as it did. -/
def feedNobodyUptoRow : OpenClaim := { program := "ytdjfijdnhfmeeaa", sum := "1c20c4e2cafd38aef4499f8364baf610c4b4db0bb6a90e4c3a3a70275b9d2548", func := "tidemark/tidemarklaw12.FeedNobody", spec := "feedNobody", unfollowed := true, recurses := true, loops := true, apart := false, narrowed := true }
def FeedNobodyUptoSaid : Prop := feedNobodyUptoRow.holds Try.pinned (OpenSpec.upto feedNobodySpec)

/-- 'tidemarklaw12.FeedBytes', WHERE WHAT IT READS IS OF BULK AT MOST 1048576: true; the input reads as it did. -/
def feedBytesUptoRow : OpenClaim := { program := "ytdjfijdnhfmeeaa", sum := "1c20c4e2cafd38aef4499f8364baf610c4b4db0bb6a90e4c3a3a70275b9d2548", func := "tidemark/tidemarklaw12.FeedBytes", spec := "feedBytes", unfollowed := true, recurses := true, loops := true, apart := false, narrowed := true }
def FeedBytesUptoSaid : Prop := feedBytesUptoRow.holds Try.pinned (OpenSpec.upto feedBytesSpec)

end Rows
end Go.Proofs.Ytdjfijdnhfmeeaa
