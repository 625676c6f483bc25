/- Asks that a law is handed. -/
import Derived.Test.YtiapjdbeooonjaaDoorW1
import Derived.Deep.Strs
namespace Go.Proofs.YtiapjdbeooonjaaDoor
open Go.RowKit Go.TM Go.ChangeShapes Go.WideShapes Go.ChangeAt Go.Deep

structure Ask where
  op : Int
  lo : Int
  hi : Int
def Ask.cells (k : Ask) : List Value := [.int .i64 k.op, .int .i64 k.lo, .int .i64 k.hi]
def Ask.ok (k : Ask) : Prop := (-9223372036854775808 ≤ k.op ∧ k.op ≤ 9223372036854775807) ∧ (-9223372036854775808 ≤ k.lo ∧ k.lo ≤ 9223372036854775807) ∧ (-9223372036854775808 ≤ k.hi ∧ k.hi ≤ 9223372036854775807)
def askK : Kd Ask := Kd.flat 3 Ask.cells (fun _ => rfl) (by simp [Value.oneCell', Ask.cells])
section
variable {H : Type} {enc : TypeId × Value → H} {w : World} {base b0 : Nat} {spare : Nat → Bool} {held : Bool} {r : Reach}
theorem trod_ask {n : Nat} {cs : List Value} {y : DataW H × List MemPlace} (h : DataW.trod enc Tryd.prog w base spare held n 59 cs = some y) : ∃ k : Ask, cs = k.cells ∧ k.ok := by
  obtain ⟨y0, y1, y2, m, _, hl, h0, h1, h2⟩ := trod_struct3 Tryd.underlying59 h
  have hC : Tryd.prog.cellsOf 59 = 3 := by kernel_rfl
  have hC1 : Tryd.prog.cellsOf 3 = 1 := by kernel_rfl
  rw [hC] at hl
  match cs, hl with
  | [c0, c1, c2], _ =>
    simp only [hC1, List.drop_zero, List.take_succ_cons, List.take_zero, List.drop_succ_cons] at h0 h1 h2
    obtain ⟨a0, g0, _, w0⟩ := DataW.trod_int Tryd.underlying3 h0
    obtain ⟨a1, g1, _, w1⟩ := DataW.trod_int Tryd.underlying3 h1
    obtain ⟨a2, g2, _, w2⟩ := DataW.trod_int Tryd.underlying3 h2
    simp at g0 g1 g2
    exact ⟨⟨a0, a1, a2⟩, by simp [Ask.cells, g0, g1, g2], ⟨wf_i64 w0, wf_i64 w1, wf_i64 w2⟩⟩
theorem open_ask {v : Value} {d : DataW H} {p : List MemPlace} (hv : Value.okWide Tryd.prog w r b0 59 v) (h : DataW.Trod enc Tryd.prog w base spare held 59 v d p) :
    ∃ k : Ask, v = .agg #[.int .i64 k.op, .int .i64 k.lo, .int .i64 k.hi] ∧ k.ok := by
  obtain ⟨cs, rfl, hsz⟩ := okWide_struct Tryd.underlying59 hv
  obtain ⟨fuel, hf⟩ := h
  obtain ⟨k, hk, ho⟩ := trod_ask hf
  refine ⟨k, ?_, ho⟩
  have : cs.toList = k.cells := hk
  have e : cs = k.cells.toArray := by rw [← this]
  rw [e]
  rfl
theorem open_asks {v : Value} {d : DataW H} {p : List MemPlace} (hv : Value.okWide Tryd.prog w r b0 65 v) (h : DataW.Trod enc Tryd.prog w base spare held 65 v d p) :
    ∃ A c, ∃ l : List Ask, v = .slice A l.length c ∧ Rd askK w (fun k => k < w.heap.size) (.slice A l.length c) l ∧ ∀ k ∈ l, k.ok := by
  obtain ⟨A, len, cap, rfl⟩ := okWide_slice Tryd.underlying65 hv
  obtain ⟨fuel, hf⟩ := h
  obtain ⟨l, rfl, hr, hl, _⟩ := open_rd askK Ask.ok Tryd.underlying65 (by kernel_rfl) (by decide) (fun n cs y hy => let ⟨k, hk, ho⟩ := trod_ask hy; ⟨k, hk, ho⟩) hf
  exact ⟨A, cap, l, rfl, hr, hl⟩
end
end Go.Proofs.YtiapjdbeooonjaaDoor
