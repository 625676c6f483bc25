/- A call, and lists of bytes, that a law is handed. -/
import Derived.Test.YtpmncppfopbaaaaC7
namespace Go.Proofs.Ytpmncppfopbaaaa
open Go.RowKit Go.TM Go.ChangeShapes Go.WideShapes Go.ChangeAt Go.Deep

/-- Slices of bytes. -/
def bytesK : Kd (List UInt8) where
  sz := 1
  K := fun w ok x cs => ∃ v, cs = [v] ∧ Rd Kd.u8 w ok v x
  len := fun ⟨_, h, _⟩ => by rw [h]; rfl
  one := fun ⟨v, h, hr⟩ u hu => by
    rw [h] at hu
    simp only [List.mem_cons, List.not_mem_nil, or_false] at hu
    subst hu
    exact rd_one hr
  mono := fun hok ⟨v, h, hr⟩ => ⟨v, h, hr.mono hok⟩
  bound := fun ⟨v, h, hr⟩ => ⟨v, h, hr.bound⟩
  move := fun hm ⟨v, h, hr⟩ => ⟨v, h, hr.move' hm⟩
section
variable {H : Type} {enc : TypeId × Value → H} {w : World} {base b0 : Nat} {spare : Nat → Bool} {held : Bool} {r : Reach}
theorem open_call {v : Value} {d : DataW H} {p : List MemPlace} (hv : Value.okWide Try.prog w r b0 43 v) (h : DataW.Trod enc Try.prog w base spare held 43 v d p) :
    ∃ k : TM.Call, ∃ A n c, v = .agg #[.int .i64 k.op, .int .i64 k.i, .int .i64 k.keep, .int .i64 k.tear, .slice A n c] := by
  obtain ⟨cs, rfl, hsz⟩ := okWide_struct Try.underlying43 hv
  obtain ⟨fuel, hf⟩ := h
  obtain ⟨k, ⟨v, hk, hr⟩, ho⟩ := trod_call hf
  obtain ⟨A, n, c, rfl, -⟩ := rd_abs hr
  refine ⟨k, A, n, c, ?_⟩
  have : cs.toList = [.int .i64 k.op, .int .i64 k.i, .int .i64 k.keep, .int .i64 k.tear, .slice A n c] := hk
  have e : cs = [.int .i64 k.op, .int .i64 k.i, .int .i64 k.keep, .int .i64 k.tear, .slice A n c].toArray := by rw [← this]
  rw [e]
theorem open_parts {v : Value} {d : DataW H} {p : List MemPlace} (hv : Value.okWide Try.prog w r b0 70 v) (h : DataW.Trod enc Try.prog w base spare held 70 v d p) :
    ∃ A n c, ∃ l : List (List UInt8), v = .slice A n c ∧ Rd bytesK w (fun k => k < w.heap.size) (.slice A n c) l := by
  obtain ⟨A, len, cap, rfl⟩ := okWide_slice Try.underlying70 hv
  obtain ⟨fuel, hf⟩ := h
  obtain ⟨l, rfl, hr, hl, _⟩ := open_rd bytesK (fun _ => True) Try.underlying70 (by kernel_rfl) (by decide) (fun n cs y hy => let ⟨v, hv, b, hb⟩ := trod_bytes hy; ⟨b, ⟨v, hv, hb⟩, trivial⟩) hf
  exact ⟨A, _, cap, l, rfl, hr⟩
end
end Go.Proofs.Ytpmncppfopbaaaa
