/- How long a list of calls may be. -/
import Derived.Test.YtdjfijdnhfmeeaaS0
import Derived.SizedLaws
namespace Go.Proofs.Ytdjfijdnhfmeeaa
open Go.RowKit Go.TM Go.ChangeShapes Go.WideShapes Go.ChangeAt Go.Deep
section
variable {H : Type} {enc : TypeId × Value → H} {w : World} {base b0 : Nat} {spare : Nat → Bool} {held : Bool} {r : Reach}
set_option maxRecDepth 100000 in
theorem dos_len {A : Option Addr} {n c : Nat} {d : DataW H} {p : List MemPlace} (h : DataW.Trod enc Try.prog w base spare held 25 (.slice A n c) d p) (hw : ∀ n ∈ d.weights Try.prog 25, n ≤ reachBytes) : n * 128 ≤ reachBytes := by
  obtain ⟨fuel, hf⟩ := h
  rcases DataW.trod_slice Try.underlying25 hf with ⟨hcs, hx⟩ | ⟨a, len, cap, elems, rest, n', hfu, hcs, hx, hb, hl, hm, hlen, hel, _, _⟩
  · have h1 : [Value.slice A n c] = [.slice none 0 0] := hcs
    simp only [List.cons.injEq, Value.slice.injEq, and_true] at h1
    omega
  · have h1 : [Value.slice A n c] = [.slice (some a) len cap] := hcs
    simp only [List.cons.injEq, Value.slice.injEq, and_true] at h1
    obtain ⟨_, rfl, _⟩ := h1
    simp only [Prod.mk.injEq] at hx
    have hd : d = .slice (elems.map (·.1)) (rest.map (·.1)) := hx.1
    have hbytes : Try.prog.bytesOf 36 = 128 := by kernel_rfl
    have := hw (((elems.map (·.1)).length + (rest.map (·.1)).length) * Try.prog.bytesOf 36) (by rw [hd]; simp [DataW.weights, Try.underlying25])
    rw [hbytes, List.length_map, List.length_map, hlen] at this
    omega
set_option maxRecDepth 100000 in
theorem open_dosL {v : Value} {d : DataW H} {p : List MemPlace} (hv : Value.okWide Try.prog w r b0 25 v) (h : DataW.Trod enc Try.prog w base spare held 25 v d p) (hw : ∀ n ∈ d.weights Try.prog 25, n ≤ reachBytes) :
    ∃ n A c, ∃ l : List Dc, v = .slice A l.length c ∧ Rd (doK n) w (fun k => k < w.heap.size) (.slice A l.length c) l ∧ (∀ x ∈ l, DcV n x) ∧ l.length * 128 ≤ reachBytes := by
  obtain ⟨n, A, c, l, rfl, h1, h2⟩ := open_dos hv h
  exact ⟨n, A, c, l, rfl, h1, h2, dos_len h hw⟩
end
set_option maxRecDepth 100000 in
theorem info36 (n : Nat) : (Try.prog.info? 36).map (fun i => (i.zero, i.size, i.bytes)) = some (some (.agg #[.int .i64 0, .int .i64 0, .int .i64 0, .int .i64 0, .int .i64 0, .slice none 0 0, .int .i64 0, .string ⟨#[]⟩, .string ⟨#[]⟩, .slice none 0 0]), (doK n).sz, 128) := by kernel_rfl
end Go.Proofs.Ytdjfijdnhfmeeaa
