/- What the laws' arguments read as: events. -/
import Derived.Test.YtooafilbmjnfmaaM3
namespace Go.Proofs.Ytooafilbmjnfmaa
open Go.RowKit Go.TM Go.ChangeShapes Go.WideShapes Go.ChangeAt Go.Deep
section
variable {H : Type} {enc : TypeId × Value → H} {w : World} {base b0 : Nat} {spare : Nat → Bool} {held : Bool} {r : Reach}
set_option maxRecDepth 100000 in
theorem trod_ev {fuel : Nat} {cs : List Value} {y : DataW H × List MemPlace} (h : DataW.trod enc Try.prog w base spare held fuel 42 cs = some y) : ∃ e : Ev, cs = e.cells ∧ e.ok := by
  obtain ⟨xs, n, rfl, rfl, hl, hlen, hf⟩ := DataW.trod_struct Try.underlying42 h
  have hC : Try.prog.cellsOf 42 = 6 := by kernel_rfl
  have hC0 : Try.prog.cellsOf 3 = 1 := by kernel_rfl
  have hC1 : Try.prog.cellsOf 9 = 1 := by kernel_rfl
  have hC2 : Try.prog.cellsOf 4 = 1 := by kernel_rfl
  rw [hC] at hl
  match xs, hlen with
  | [y0, y1, y2, y3, y4, y5], _ =>
    have h0 := hf 0 _ rfl
    have h1 := hf 1 _ rfl
    have h2 := hf 2 _ rfl
    have h3 := hf 3 _ rfl
    have h4 := hf 4 _ rfl
    have h5 := hf 5 _ rfl
    match cs, hl with
    | [c0, c1, c2, c3, c4, c5], _ =>
      simp [hC0, hC1, hC2] at h0 h1 h2 h3 h4 h5
      obtain ⟨a0, g0, _, _⟩ := DataW.trod_int Try.underlying3 h0
      obtain ⟨s1, g1, _, l1⟩ := DataW.trod_string Try.underlying9 h1
      obtain ⟨b2, g2, _⟩ := DataW.trod_bool Try.underlying4 h2
      obtain ⟨s3, g3, _, l3⟩ := DataW.trod_string Try.underlying9 h3
      obtain ⟨b4, g4, _⟩ := DataW.trod_bool Try.underlying4 h4
      obtain ⟨s5, g5, _, l5⟩ := DataW.trod_string Try.underlying9 h5
      simp at g0 g1 g2 g3 g4 g5
      subst g0 g1 g2 g3 g4 g5
      exact ⟨⟨a0, s1, b2, s3, b4, s5⟩, rfl, l1, l3, l5⟩
set_option maxRecDepth 100000 in
theorem open_ev {v : Value} {d : DataW H} {p : List MemPlace} (hv : Value.okWide Try.prog w r b0 42 v) (h : DataW.Trod enc Try.prog w base spare held 42 v d p) : ∃ e : Ev, v = evV e ∧ e.ok := by
  obtain ⟨fuel, hf⟩ := h
  obtain ⟨e, he, ho⟩ := trod_ev hf
  obtain ⟨cs, rfl, _⟩ := okWide_struct Try.underlying42 hv
  refine ⟨e, ?_, ho⟩
  have hu' : cs.toList = e.cells := he
  rw [evV_cells, ← hu']
set_option maxRecDepth 100000 in
theorem open_evs {v : Value} {d : DataW H} {p : List MemPlace} (hv : Value.okWide Try.prog w r b0 44 v) (h : DataW.Trod enc Try.prog w base spare held 44 v d p) :
    ∃ A c, ∃ l : List Ev, v = .slice A l.length c ∧ Rd evK w (fun k => k < w.heap.size) (.slice A l.length c) l ∧ ∀ x ∈ l, x.ok := by
  obtain ⟨A, len, cap, rfl⟩ := okWide_slice Try.underlying44 hv
  obtain ⟨fuel, hf⟩ := h
  obtain ⟨l, rfl, hr, hok⟩ := open_rd evK Ev.ok Try.underlying44 (by kernel_rfl) (by decide) (fun n cs y _ hy => let ⟨e, he, ho⟩ := trod_ev hy; ⟨e, he, ho⟩) hf
  exact ⟨A, cap, l, rfl, hr, hok⟩
end
end Go.Proofs.Ytooafilbmjnfmaa
