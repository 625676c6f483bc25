/- Sessions: what the laws' arguments read as. -/
import Derived.Test.YtiebnjkjgobklaaO
import Derived.Test.YtiebnjkjgobklaaS6
namespace Go.Proofs.Ytiebnjkjgobklaa
open Go.RowKit Go.TM Go.ChangeShapes Go.WideShapes Go.ChangeAt Go.Deep

theorem wf_i64 {n : Int} (h : (Lit.int .i64 n).wf = true) : I64 n := by
  simp only [Lit.wf, Bool.and_eq_true, decide_eq_true_eq] at h
  obtain ⟨h1, h2⟩ := h
  have e1 : IntKind.i64.min = -9223372036854775808 := by decide
  have e2 : IntKind.i64.max = 9223372036854775807 := by decide
  rw [e1] at h1
  rw [e2] at h2
  exact ⟨h1, h2⟩

section
variable {H : Type} {enc : TypeId × Value → H} {w : World} {base : Nat} {spare : Nat → Bool} {held : Bool}

theorem trod_reply {n : Nat} {cs : List Value} {y : DataW H × List MemPlace} (h : DataW.trod enc Try.prog w base spare held n 25 cs = some y) : ∃ a b, cs = [.int .i64 a, .int .i64 b] ∧ I64 a ∧ I64 b := by
  obtain ⟨y0, y1, m, _, hl, h0, h1⟩ := trod_struct2 Try.underlying25 h
  have hC : Try.prog.cellsOf 25 = 2 := by kernel_rfl
  have hC0 : Try.prog.cellsOf 23 = 1 := by kernel_rfl
  have hC1 : Try.prog.cellsOf 3 = 1 := by kernel_rfl
  rw [hC] at hl
  match cs, hl with
  | [c0, c1], _ =>
    simp only [hC0, hC1, List.drop_zero, List.take_succ_cons, List.take_zero, List.drop_succ_cons] at h0 h1
    obtain ⟨a, ha, _, wa⟩ := DataW.trod_int Try.underlying23 h0
    obtain ⟨b, hb, _, wb⟩ := DataW.trod_int Try.underlying3 h1
    simp at ha hb
    exact ⟨a, b, by rw [ha, hb], wf_i64 wa, wf_i64 wb⟩

theorem trod_do {n : Nat} {cs : List Value} {y : DataW H × List MemPlace} (h : DataW.trod enc Try.prog w base spare held n 27 cs = some y) : ∃ k : Do, cs = k.cells ∧ k.ok := by
  obtain ⟨y0, y1, y2, y3, m, _, hl, h0, h1, h2, h3⟩ := Go.Joins.trod_struct4 Try.underlying27 h
  have hC : Try.prog.cellsOf 27 = 5 := by kernel_rfl
  have hC0 : Try.prog.cellsOf 25 = 2 := by kernel_rfl
  have hC1 : Try.prog.cellsOf 3 = 1 := by kernel_rfl
  rw [hC] at hl
  match cs, hl with
  | [c0, c1, c2, c3, c4], _ =>
    simp only [hC0, hC1, List.drop_zero, List.take_succ_cons, List.take_zero, List.drop_succ_cons] at h0 h1 h2 h3
    obtain ⟨a0, g0, _, w0⟩ := DataW.trod_int Try.underlying3 h0
    obtain ⟨a1, g1, _, w1⟩ := DataW.trod_int Try.underlying3 h1
    obtain ⟨a2, g2, _, w2⟩ := DataW.trod_int Try.underlying3 h2
    obtain ⟨a3, a4, g3, w3, w4⟩ := trod_reply h3
    simp at g0 g1 g2 g3
    exact ⟨⟨a0, a1, a2, a3, a4⟩, by simp [Do.cells, g0, g1, g2, g3], ⟨wf_i64 w0, wf_i64 w1, wf_i64 w2, w3, w4⟩⟩
end

section
variable {H : Type} {enc : TypeId × Value → H} {w : World} {base b0 : Nat} {spare : Nat → Bool} {held : Bool} {r : Reach}
theorem open_dos {v : Value} {d : DataW H} {p : List MemPlace} (hv : Value.okWide Try.prog w r b0 22 v) (h : DataW.Trod enc Try.prog w base spare held 22 v d p) :
    ∃ A c, ∃ l : List Do, v = .slice A l.length c ∧ Rd doK w (fun k => k < w.heap.size) (.slice A l.length c) l ∧ ∀ k ∈ l, k.ok := by
  obtain ⟨A, len, cap, rfl⟩ := okWide_slice Try.underlying22 hv
  obtain ⟨fuel, hf⟩ := h
  obtain ⟨l, rfl, hr, hl, _⟩ := open_rd doK Do.ok Try.underlying22 (by kernel_rfl) (by decide) (fun n cs y hy => let ⟨k, hk, ho⟩ := trod_do hy; ⟨k, hk, ho⟩) hf
  exact ⟨A, cap, l, rfl, hr, hl⟩
theorem open_do {v : Value} {d : DataW H} {p : List MemPlace} (hv : Value.okWide Try.prog w r b0 27 v) (h : DataW.Trod enc Try.prog w base spare held 27 v d p) :
    ∃ k : Do, v = .agg #[.int .i64 k.op, .int .i64 k.ses, .int .i64 k.seq, .int .i64 k.err, .int .i64 k.n] ∧ k.ok := by
  obtain ⟨cs, rfl, hsz⟩ := okWide_struct Try.underlying27 hv
  obtain ⟨fuel, hf⟩ := h
  obtain ⟨k, hk, ho⟩ := trod_do hf
  refine ⟨k, ?_, ho⟩
  have : cs.toList = k.cells := hk
  have e : cs = k.cells.toArray := by rw [← this]
  rw [e]
  rfl
end
end Go.Proofs.Ytiebnjkjgobklaa
