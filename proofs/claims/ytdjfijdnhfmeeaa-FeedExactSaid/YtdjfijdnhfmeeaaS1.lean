/- What the laws' arguments read as: bytes, numbers, lists of filters. -/
import Derived.Test.YtdjfijdnhfmeeaaR9
import Derived.Laws.MakeOwn
import Derived.Laws.Bits64b
namespace Go.Proofs.Ytdjfijdnhfmeeaa
open Go.RowKit Go.TM Go.ChangeShapes Go.WideShapes Go.ChangeAt Go.Deep

section
variable {H : Type} {enc : TypeId × Value → H} {w : World} {base b0 : Nat} {spare : Nat → Bool} {held : Bool} {r : Reach}
set_option maxRecDepth 100000 in
theorem trod_byte {n : Nat} {cs : List Value} {y : DataW H × List MemPlace} (h : DataW.trod enc Try.prog w base spare held n 5 cs = some y) : ∃ b : UInt8, cs = [.int .u8 b.toNat] := by
  obtain ⟨a, ha, _, wa⟩ := DataW.trod_int Try.underlying5 h
  obtain ⟨h0, h1⟩ := bounds_u8 wa
  refine ⟨UInt8.ofNat a.toNat, ?_⟩
  have e : ((UInt8.ofNat a.toNat).toNat : Int) = a := by
    have : (UInt8.ofNat a.toNat).toNat = a.toNat % 256 := by simp
    rw [this]
    omega
  rw [e]
  exact ha
set_option maxRecDepth 100000 in
theorem open_bytes {v : Value} {d : DataW H} {p : List MemPlace} (hv : Value.okWide Try.prog w r b0 70 v) (h : DataW.Trod enc Try.prog w base spare held 70 v d p) :
    ∃ A c, ∃ l : List UInt8, v = .slice A l.length c ∧ Rd Kd.u8 w (fun k => k < w.heap.size) (.slice A l.length c) l := by
  obtain ⟨A, len, cap, rfl⟩ := okWide_slice Try.underlying70 hv
  obtain ⟨fuel, hf⟩ := h
  obtain ⟨l, rfl, hr, _⟩ := open_rd Kd.u8 (fun _ => True) Try.underlying70 (by kernel_rfl) (by decide) (fun n cs y _ hy => let ⟨b, hb⟩ := trod_byte hy; ⟨b, hb, trivial⟩) hf
  exact ⟨A, cap, l, rfl, hr⟩
set_option maxRecDepth 100000 in
theorem open_ints {v : Value} {d : DataW H} {p : List MemPlace} (hv : Value.okWide Try.prog w r b0 59 v) (h : DataW.Trod enc Try.prog w base spare held 59 v d p) :
    ∃ A c, ∃ l : List Int, v = .slice A l.length c ∧ Rd Kd.i64 w (fun k => k < w.heap.size) (.slice A l.length c) l := by
  obtain ⟨A, len, cap, rfl⟩ := okWide_slice Try.underlying59 hv
  obtain ⟨fuel, hf⟩ := h
  obtain ⟨l, rfl, hr, _⟩ := open_rd Kd.i64 (fun _ => True) Try.underlying59 (by kernel_rfl) (by decide) (fun n cs y _ hy => let ⟨b, hb, _, _⟩ := DataW.trod_int Try.underlying3 hy; ⟨b, hb, trivial⟩) hf
  exact ⟨A, cap, l, rfl, hr⟩
set_option maxRecDepth 100000 in
theorem open_flts {v : Value} {d : DataW H} {p : List MemPlace} (hv : Value.okWide Try.prog w r b0 22 v) (h : DataW.Trod enc Try.prog w base spare held 22 v d p) :
    ∃ n A c, ∃ l : List Flt, v = .slice A l.length c ∧ Rd (fltK n) w (fun k => k < w.heap.size) (.slice A l.length c) l ∧ ∀ x ∈ l, okF n x := by
  obtain ⟨A, len, cap, rfl⟩ := okWide_slice Try.underlying22 hv
  obtain ⟨fuel, hf⟩ := h
  obtain ⟨l, rfl, hr, hok⟩ := open_rd (fltK fuel) (okF fuel) Try.underlying22 ((by kernel_rfl : Try.prog.cellsOf 24 = 4).trans (fltK_sz fuel).symm) (by rw [fltK_sz]; decide) (fun n cs y hn hy => let ⟨e, he, ho⟩ := trod_flt n hy; ⟨e, fltK_le (by omega) he, okF_le (by omega) ho⟩) hf
  exact ⟨fuel, A, cap, l, rfl, hr, hok⟩
end
end Go.Proofs.Ytdjfijdnhfmeeaa
