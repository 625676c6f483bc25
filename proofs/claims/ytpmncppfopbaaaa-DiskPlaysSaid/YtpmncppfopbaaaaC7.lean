/- What the laws' arguments read as. -/
import Derived.Test.YtpmncppfopbaaaaO
import Derived.Test.YtpmncppfopbaaaaC6
namespace Go.Proofs.Ytpmncppfopbaaaa
open Go.RowKit Go.TM Go.ChangeShapes Go.WideShapes Go.ChangeAt Go.Deep

theorem wf_i64 {n : Int} (h : (Lit.int .i64 n).wf = true) : inI n := by
  simp only [Lit.wf, Bool.and_eq_true, decide_eq_true_eq] at h
  obtain ⟨h1, h2⟩ := h
  have e1 : IntKind.i64.min = -9223372036854775808 := by decide
  have e2 : IntKind.i64.max = 9223372036854775807 := by decide
  rw [e1] at h1
  rw [e2] at h2
  exact ⟨h1, h2⟩
theorem trod_struct5 {H : Type} {enc : TypeId × Value → H} {P : Program} {w : World} {base : Nat} {spare : Nat → Bool} {held : Bool} {t : TypeId} {f0 f1 f2 f3 f4 : Field} {fuel : Nat} {cs : List Value} {x : DataW H × List MemPlace} (ht : P.underlying t = some (.struct #[f0, f1, f2, f3, f4])) (h : DataW.trod enc P w base spare held fuel t cs = some x) :
    ∃ y0 y1 y2 y3 y4 n, cs.length = P.cellsOf t ∧ DataW.trod enc P w base spare held n f0.type ((cs.drop f0.offset).take (P.cellsOf f0.type)) = some y0 ∧
      DataW.trod enc P w base spare held n f1.type ((cs.drop f1.offset).take (P.cellsOf f1.type)) = some y1 ∧ DataW.trod enc P w base spare held n f2.type ((cs.drop f2.offset).take (P.cellsOf f2.type)) = some y2 ∧
      DataW.trod enc P w base spare held n f3.type ((cs.drop f3.offset).take (P.cellsOf f3.type)) = some y3 ∧ DataW.trod enc P w base spare held n f4.type ((cs.drop f4.offset).take (P.cellsOf f4.type)) = some y4 := by
  obtain ⟨xs, n, _, rfl, hl, hlen, hf⟩ := DataW.trod_struct ht h
  match xs, hlen with
  | [y0, y1, y2, y3, y4], _ => exact ⟨y0, y1, y2, y3, y4, n, hl, by simpa using hf 0 f0 rfl, by simpa using hf 1 f1 rfl, by simpa using hf 2 f2 rfl, by simpa using hf 3 f3 rfl, by simpa using hf 4 f4 rfl⟩

section
variable {H : Type} {enc : TypeId × Value → H} {w : World} {base b0 : Nat} {spare : Nat → Bool} {held : Bool} {r : Reach}
theorem trod_byte {n : Nat} {cs : List Value} {y : DataW H × List MemPlace} (h : DataW.trod enc Try.prog w base spare held n 5 cs = some y) : ∃ b : UInt8, cs = [.int .u8 b.toNat] := by
  obtain ⟨a, ha, _, wa⟩ := DataW.trod_int Try.underlying5 h
  obtain ⟨h0, h1⟩ := bounds_u8 wa
  refine ⟨UInt8.ofNat a.toNat, ?_⟩
  have e : ((UInt8.ofNat a.toNat).toNat : Int) = a := by
    have : (UInt8.ofNat a.toNat).toNat = a.toNat % 256 := by simp
    rw [this]
    omega
  rw [e]
  exact ha
theorem trod_bytes {n : Nat} {cs : List Value} {y : DataW H × List MemPlace} (h : DataW.trod enc Try.prog w base spare held n 30 cs = some y) : ∃ v, cs = [v] ∧ ∃ b : List UInt8, Rd Kd.u8 w (fun k => k < w.heap.size) v b := by
  have hs : ∃ A len cap, cs = [.slice A len cap] := by
    rcases open_slice Try.underlying30 h with ⟨h1, _⟩ | ⟨a, len, cap, _, _, _, _, h1, _⟩
    · exact ⟨_, _, _, h1⟩
    · exact ⟨_, _, _, h1⟩
  obtain ⟨A, len, cap, rfl⟩ := hs
  obtain ⟨l, rfl, hr, hl, _⟩ := open_rd Kd.u8 (fun _ => True) Try.underlying30 (by kernel_rfl) (by decide) (fun n cs y hy => let ⟨b, hb⟩ := trod_byte hy; ⟨b, hb, trivial⟩) h
  exact ⟨_, rfl, l, hr⟩
theorem trod_call {n : Nat} {cs : List Value} {y : DataW H × List MemPlace} (h : DataW.trod enc Try.prog w base spare held n 43 cs = some y) : ∃ k : TM.Call, callK.K w (fun k => k < w.heap.size) k cs ∧ k.Ok := by
  obtain ⟨y0, y1, y2, y3, y4, m, hl, h0, h1, h2, h3, h4⟩ := trod_struct5 Try.underlying43 h
  have hC : Try.prog.cellsOf 43 = 5 := by kernel_rfl
  have hC0 : Try.prog.cellsOf 30 = 1 := by kernel_rfl
  have hC1 : Try.prog.cellsOf 3 = 1 := by kernel_rfl
  rw [hC] at hl
  match cs, hl with
  | [c0, c1, c2, c3, c4], _ =>
    simp only [hC0, hC1, List.drop_zero, List.take_succ_cons, List.take_zero, List.drop_succ_cons] at h0 h1 h2 h3 h4
    obtain ⟨a0, g0, _, w0⟩ := DataW.trod_int Try.underlying3 h0
    obtain ⟨a1, g1, _, w1⟩ := DataW.trod_int Try.underlying3 h1
    obtain ⟨a2, g2, _, w2⟩ := DataW.trod_int Try.underlying3 h2
    obtain ⟨a3, g3, _, w3⟩ := DataW.trod_int Try.underlying3 h3
    obtain ⟨v, g4, b, hb⟩ := trod_bytes h4
    simp at g0 g1 g2 g3 g4
    exact ⟨⟨a0, a1, a2, a3, b⟩, ⟨v, by rw [g0, g1, g2, g3, g4], hb⟩, ⟨wf_i64 w0, wf_i64 w1, wf_i64 w2, wf_i64 w3⟩⟩
theorem open_calls {v : Value} {d : DataW H} {p : List MemPlace} (hv : Value.okWide Try.prog w r b0 22 v) (h : DataW.Trod enc Try.prog w base spare held 22 v d p) :
    ∃ A n c, ∃ l : List TM.Call, v = .slice A n c ∧ Rd callK w (fun k => k < w.heap.size) (.slice A n c) l ∧ ∀ k ∈ l, k.Ok := by
  obtain ⟨A, len, cap, rfl⟩ := okWide_slice Try.underlying22 hv
  obtain ⟨fuel, hf⟩ := h
  obtain ⟨l, rfl, hr, hl, _⟩ := open_rd callK TM.Call.Ok Try.underlying22 (by kernel_rfl) (by decide) (fun n cs y hy => trod_call hy) hf
  exact ⟨A, _, cap, l, rfl, hr, hl⟩
theorem open_bytes {v : Value} {d : DataW H} {p : List MemPlace} (hv : Value.okWide Try.prog w r b0 30 v) (h : DataW.Trod enc Try.prog w base spare held 30 v d p) :
    ∃ A n c, ∃ l : List UInt8, v = .slice A n c ∧ Rd Kd.u8 w (fun k => k < w.heap.size) (.slice A n c) l := by
  obtain ⟨A, len, cap, rfl⟩ := okWide_slice Try.underlying30 hv
  obtain ⟨fuel, hf⟩ := h
  obtain ⟨v, hv', l, hl⟩ := trod_bytes hf
  cases hv'
  exact ⟨A, _, cap, l, rfl, hl⟩
end
end Go.Proofs.Ytpmncppfopbaaaa
