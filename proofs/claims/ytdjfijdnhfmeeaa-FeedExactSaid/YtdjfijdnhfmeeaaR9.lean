/- What the laws' arguments read as: calls. -/
import Derived.Test.YtdjfijdnhfmeeaaR8
import Derived.Test.YtdjfijdnhfmeeaaM4
import Derived.Test.YtdjfijdnhfmeeaaHC
namespace Go.Proofs.Ytdjfijdnhfmeeaa
open Go.RowKit Go.TM Go.ChangeShapes Go.WideShapes Go.ChangeAt Go.Deep
theorem doK_le {n m : Nat} (hnm : n ≤ m) {w : World} {ok : Nat → Prop} {x : Dc} {cs : List Value} (h : (doK n).K w ok x cs) : (doK m).K w ok x cs := by
  obtain ⟨u, v, rfl, hu, hr⟩ := h
  exact ⟨u, v, rfl, hu, rd_up hnm hr⟩
theorem dos_up {n m : Nat} (hnm : n ≤ m) {w : World} {ok : Nat → Prop} {v : Value} {l : List Dc} (h : Rd (doK n) w ok v l) : Rd (doK m) w ok v l := h.kind rfl (fun _ _ _ hk => doK_le hnm hk)
theorem DV.up {n m : Nat} (hnm : n ≤ m) {w : World} {ok : Nat → Prop} {x : Value} {k : Dc} (h : DV n w ok x k) : DV m w ok x k := by
  obtain ⟨u, v, rfl, hu, hr⟩ := h
  exact ⟨u, v, rfl, hu, rd_up hnm hr⟩
theorem DcV.up {n m : Nat} (hnm : n ≤ m) {k : Dc} (h : DcV n k) : DcV m k := ⟨okF_le (by omega) h.1, h.2⟩
section
variable {H : Type} {enc : TypeId × Value → H} {w : World} {base b0 : Nat} {spare : Nat → Bool} {held : Bool} {r : Reach}
set_option maxRecDepth 100000 in
theorem trod_do {fuel : Nat} {cs : List Value} {y : DataW H × List MemPlace} (h : DataW.trod enc Try.prog w base spare held fuel 36 cs = some y) : ∃ k : Dc, (doK fuel).K w (fun k => k < w.heap.size) k cs ∧ DcV fuel k := by
  obtain ⟨xs, n, rfl, rfl, hl, hlen, hf⟩ := DataW.trod_struct Try.underlying36 h
  have hC : Try.prog.cellsOf 36 = 10 := by kernel_rfl
  have hC0 : Try.prog.cellsOf 3 = 1 := by kernel_rfl
  have hC1 : Try.prog.cellsOf 34 = 1 := by kernel_rfl
  have hC2 : Try.prog.cellsOf 24 = 4 := by kernel_rfl
  rw [hC] at hl
  match xs, hlen with
  | [y0, y1, y2, y3, y4, y5, y6], _ =>
    have h0 := hf 0 _ rfl
    have h1 := hf 1 _ rfl
    have h2 := hf 2 _ rfl
    have h3 := hf 3 _ rfl
    have h4 := hf 4 _ rfl
    have h5 := hf 5 _ rfl
    have h6 := hf 6 _ rfl
    match cs, hl with
    | [c0, c1, c2, c3, c4, c5, c6, c7, c8, c9], _ =>
      simp [hC0, hC1, hC2] at h0 h1 h2 h3 h4 h5 h6
      obtain ⟨a0, g0, _, _⟩ := DataW.trod_int Try.underlying3 h0
      obtain ⟨a1, g1, _, _⟩ := DataW.trod_int Try.underlying3 h1
      obtain ⟨a2, g2, _, _⟩ := DataW.trod_int Try.underlying3 h2
      obtain ⟨a3, g3, _, _⟩ := DataW.trod_int Try.underlying3 h3
      obtain ⟨a4, g4, _, _⟩ := DataW.trod_int Try.underlying3 h4
      have hs : ∃ A len cap, [c5] = [Value.slice A len cap] := by
        rcases open_elems Try.underlying34 h5 with h | ⟨a, len, cap, _, _, h, _⟩
        · exact ⟨_, _, _, h⟩
        · exact ⟨_, _, _, h⟩
      obtain ⟨A, len, cap, g5⟩ := hs
      simp at g0 g1 g2 g3 g4 g5
      subst g0 g1 g2 g3 g4 g5
      obtain ⟨l, rfl, hr, hok⟩ := open_rd evK Ev.ok Try.underlying34 (by kernel_rfl) (by decide) (fun n cs y _ hy => let ⟨e, he, ho⟩ := trod_ev hy; ⟨e, he, ho⟩) h5
      obtain ⟨f, hk, ho⟩ := trod_flt n h6
      match n, hk, ho with
      | m + 1, hk, ho =>
        obtain ⟨v, hcs, hv⟩ := hk
        simp only [List.cons.injEq, and_true] at hcs
        obtain ⟨rfl, rfl, rfl, rfl⟩ := hcs
        exact ⟨⟨a0, a1, a2, a3, a4, l, f⟩, ⟨_, _, rfl, hr, rd_up (by omega) hv⟩, okF_le (by omega) ho, hok⟩
set_option maxRecDepth 100000 in
theorem open_do {v : Value} {d : DataW H} {p : List MemPlace} (hv : Value.okWide Try.prog w r b0 36 v) (h : DataW.Trod enc Try.prog w base spare held 36 v d p) : ∃ n, ∃ k : Dc, DV n w (fun k => k < w.heap.size) v k ∧ DcV n k := by
  obtain ⟨fuel, hf⟩ := h
  obtain ⟨k, ⟨u, x, hcs, hu, hr⟩, ho⟩ := trod_do hf
  obtain ⟨cs, rfl, _⟩ := okWide_struct Try.underlying36 hv
  refine ⟨fuel, k, ⟨u, x, ?_, hu, hr⟩, ho⟩
  have h2 : cs.toList = _ := hcs
  rw [← Array.toArray_toList (xs := cs), h2]
set_option maxRecDepth 100000 in
theorem open_dos {v : Value} {d : DataW H} {p : List MemPlace} (hv : Value.okWide Try.prog w r b0 25 v) (h : DataW.Trod enc Try.prog w base spare held 25 v d p) :
    ∃ n A c, ∃ l : List Dc, v = .slice A l.length c ∧ Rd (doK n) w (fun k => k < w.heap.size) (.slice A l.length c) l ∧ ∀ x ∈ l, DcV n x := by
  obtain ⟨A, len, cap, rfl⟩ := okWide_slice Try.underlying25 hv
  obtain ⟨fuel, hf⟩ := h
  obtain ⟨l, rfl, hr, hok⟩ := open_rd (doK fuel) (DcV fuel) Try.underlying25 (by kernel_rfl) (by show 0 < 10; decide) (fun n cs y hn hy => let ⟨e, he, ho⟩ := trod_do hy; ⟨e, doK_le (by omega) he, ho.up (by omega)⟩) hf
  exact ⟨fuel, A, cap, l, rfl, hr, hok⟩
end
end Go.Proofs.Ytdjfijdnhfmeeaa
