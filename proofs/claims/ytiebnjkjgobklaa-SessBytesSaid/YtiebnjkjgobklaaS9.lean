/- Sessions: bytes that a law is handed. -/
import Derived.Test.YtiebnjkjgobklaaS8
namespace Go.Proofs.Ytiebnjkjgobklaa
open Go.RowKit Go.TM Go.ChangeShapes Go.WideShapes Go.ChangeAt Go.Deep

section
variable {H : Type} {enc : TypeId × Value → H} {w : World} {base b0 : Nat} {spare : Nat → Bool} {held : Bool} {r : Reach}
theorem trod_byte {n : Nat} {cs : List Value} {y : DataW H × List MemPlace} (h : DataW.trod enc Try.prog w base spare held n 5 cs = some y) : ∃ b : UInt8, cs = [.int .u8 b.toNat] := by
  obtain ⟨a, ha, _, wa⟩ := DataW.trod_int Try.underlying5 h
  obtain ⟨h0, h1⟩ := bounds_u8 wa
  refine ⟨UInt8.ofNat a.toNat, ?_⟩
  have e : ((UInt8.ofNat a.toNat).toNat : Int) = a := by
    have : (UInt8.ofNat a.toNat).toNat = a.toNat % 256 := by simp
    rw [this]
    omega
  rw [e]
  exact ha
theorem open_bytes {v : Value} {d : DataW H} {p : List MemPlace} (hv : Value.okWide Try.prog w r b0 52 v) (h : DataW.Trod enc Try.prog w base spare held 52 v d p) :
    ∃ A c, ∃ l : List UInt8, v = .slice A l.length c ∧ Rd Kd.u8 w (fun k => k < w.heap.size) (.slice A l.length c) l := by
  obtain ⟨A, len, cap, rfl⟩ := okWide_slice Try.underlying52 hv
  obtain ⟨fuel, hf⟩ := h
  obtain ⟨l, rfl, hr, hl, _⟩ := open_rd Kd.u8 (fun _ => True) Try.underlying52 (by kernel_rfl) (by decide) (fun n cs y hy => let ⟨b, hb⟩ := trod_byte hy; ⟨b, hb, trivial⟩) hf
  exact ⟨A, cap, l, rfl, hr⟩
end
end Go.Proofs.Ytiebnjkjgobklaa
