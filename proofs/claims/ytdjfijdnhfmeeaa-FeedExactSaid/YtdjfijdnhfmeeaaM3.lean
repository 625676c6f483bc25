/- Lists of events; the verifier's few. -/
import Derived.Test.YtdjfijdnhfmeeaaM2
import Derived.Test.YtdjfijdnhfmeeaaW1
namespace Go.Proofs.Ytdjfijdnhfmeeaa
open Go.RowKit Go.TM Go.ChangeShapes Go.WideShapes Go.ChangeAt Go.Deep
def Ev.cells (e : Ev) : List Value := [.int .i64 e.pos, .string e.key, .bool e.had, .string e.old, .bool e.has, .string e.now]
theorem evV_cells (e : Ev) : evV e = .agg e.cells.toArray := rfl
def evK : Kd Ev := Kd.flat 6 Ev.cells (fun _ => rfl) (fun x u hu => by
  simp only [Ev.cells, List.mem_cons, List.not_mem_nil, or_false] at hu
  rcases hu with rfl | rfl | rfl | rfl | rfl | rfl <;> rfl)
def Ev.small (e : Ev) : Prop := e.key.size ≤ 8192 ∧ e.old.size ≤ 8192 ∧ e.now.size ≤ 8192
def Ev.ok (e : Ev) : Prop := e.key.size ≤ maxLen ∧ e.old.size ≤ maxLen ∧ e.now.size ≤ maxLen
theorem ev_at {w : World} {ok : Nat → Prop} {A : Option Addr} {n c : Nat} {xs : List Ev} (h : Rd evK w ok (.slice A n c) xs) {j : Nat} {e : Ev} (hs : xs[j]? = some e) :
    ∃ g off, A = some ⟨g, off, none⟩ ∧ ok g ∧ g < w.heap.size ∧ w.cell? ⟨g, off + j * 6, none⟩ = some (.int .i64 e.pos) ∧ w.cell? ⟨g, off + j * 6 + 1, none⟩ = some (.string e.key) ∧ w.cell? ⟨g, off + j * 6 + 2, none⟩ = some (.bool e.had) ∧
      w.cell? ⟨g, off + j * 6 + 3, none⟩ = some (.string e.old) ∧ w.cell? ⟨g, off + j * 6 + 4, none⟩ = some (.bool e.has) ∧ w.cell? ⟨g, off + j * 6 + 5, none⟩ = some (.string e.now) := by
  obtain ⟨g, off, rfl, hg, hgl, hc⟩ := h.flat_at hs
  exact ⟨g, off, rfl, hg, hgl, hc 0 _ rfl, hc 1 _ rfl, hc 2 _ rfl, hc 3 _ rfl, hc 4 _ rfl, hc 5 _ rfl⟩
end Go.Proofs.Ytdjfijdnhfmeeaa
