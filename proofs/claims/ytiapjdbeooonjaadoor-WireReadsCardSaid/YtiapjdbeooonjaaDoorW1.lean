/- Numbers that a law is handed. -/
import Derived.Test.YtiapjdbeooonjaaDoorW0
namespace Go.Proofs.YtiapjdbeooonjaaDoor
open Go.RowKit Go.TM Go.ChangeShapes Go.WideShapes Go.ChangeAt Go.Deep

theorem wf_i64 {n : Int} (h : (Lit.int .i64 n).wf = true) : -9223372036854775808 ≤ n ∧ n ≤ 9223372036854775807 := by
  simp only [Lit.wf, Bool.and_eq_true, decide_eq_true_eq] at h
  obtain ⟨h1, h2⟩ := h
  have e1 : IntKind.i64.min = -9223372036854775808 := by decide
  have e2 : IntKind.i64.max = 9223372036854775807 := by decide
  rw [e1] at h1
  rw [e2] at h2
  exact ⟨h1, h2⟩
section
variable {H : Type} {enc : TypeId × Value → H} {w : World} {base b0 : Nat} {spare : Nat → Bool} {held : Bool} {r : Reach}
theorem open_nums {v : Value} {d : DataW H} {p : List MemPlace} (hv : Value.okWide Tryd.prog w r b0 44 v) (h : DataW.Trod enc Tryd.prog w base spare held 44 v d p) :
    ∃ A c, ∃ l : List Int, v = .slice A l.length c ∧ Rd Kd.i64 w (fun k => k < w.heap.size) (.slice A l.length c) l ∧ ∀ n ∈ l, -9223372036854775808 ≤ n ∧ n ≤ 9223372036854775807 := by
  obtain ⟨A, len, cap, rfl⟩ := okWide_slice Tryd.underlying44 hv
  obtain ⟨fuel, hf⟩ := h
  obtain ⟨l, rfl, hr, hl, _⟩ := open_rd Kd.i64 (fun n => -9223372036854775808 ≤ n ∧ n ≤ 9223372036854775807) Tryd.underlying44 (by kernel_rfl) (by decide) (fun n cs y hy => by
    obtain ⟨a, ha, _, wa⟩ := DataW.trod_int Tryd.underlying3 hy
    exact ⟨a, ha, wf_i64 wa⟩) hf
  exact ⟨A, cap, l, rfl, hr, hl⟩
end
end Go.Proofs.YtiapjdbeooonjaaDoor
