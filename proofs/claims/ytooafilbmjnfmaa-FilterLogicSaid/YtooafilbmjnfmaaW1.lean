/- What the laws' arguments read as: filters as values. -/
import Derived.Test.YtooafilbmjnfmaaGA
namespace Go.Proofs.Ytooafilbmjnfmaa
open Go.RowKit Go.TM Go.ChangeShapes Go.WideShapes Go.ChangeAt Go.Deep
section
variable {H : Type} {enc : TypeId × Value → H} {w : World} {base b0 : Nat} {spare : Nat → Bool} {held : Bool} {r : Reach}
set_option maxRecDepth 100000 in
theorem open_fv {v : Value} {d : DataW H} {p : List MemPlace} (hv : Value.okWide Try.prog w r b0 24 v) (h : DataW.Trod enc Try.prog w base spare held 24 v d p) :
    ∃ (n : Nat) (f : Flt), FV n w (fun k => k < w.heap.size) v f ∧ okF (n + 1) f := by
  obtain ⟨n, f, hk, ho⟩ := open_flt h
  obtain ⟨cs, rfl, _⟩ := okWide_struct Try.underlying24 hv
  cases n with
  | zero => exact hk.elim
  | succ n =>
    obtain ⟨u, hu, hr⟩ := hk
    refine ⟨n, f, ⟨u, ?_, hr⟩, ho⟩
    have hu' : cs.toList = [.int .i64 f.op, .string f.key, .string f.val, u] := hu
    rw [show cs = #[.int .i64 f.op, .string f.key, .string f.val, u] from by rw [← hu']]
end
end Go.Proofs.Ytooafilbmjnfmaa
