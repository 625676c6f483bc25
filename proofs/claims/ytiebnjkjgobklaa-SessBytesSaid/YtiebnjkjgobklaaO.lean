/- What a row's arguments read as: slices whose elements are told by their cells. No program in sight. -/
import Derived.Test.YtiebnjkjgobklaaBase
import Derived.Deep.Slices
import Derived.ChangeSame
import Derived.Lib.SmallJoins
import Derived.SizedLaws
import Derived.ProofKit
namespace Go.TM
open Go.RowKit Go.ChangeShapes Go.WideShapes Go.ChangeAt Go.Deep

section
variable {H : Type} {enc : TypeId × Value → H} {P : Program} {w : World} {base : Nat} {spare : Nat → Bool} {held : Bool}

/-- A slice that came in, its elements told by 'hel'. -/
theorem open_rd {α : Type} (d : Kd α) (φ : α → Prop) {t e : TypeId} {fuel : Nat} {A : Option Addr} {len cap : Nat} {x : DataW H × List MemPlace} (ht : P.underlying t = some (.slice e)) (hC : P.cellsOf e = d.sz) (hs0 : 0 < d.sz)
    (hel : ∀ n cs y, DataW.trod enc P w base spare held n e cs = some y → ∃ x, d.K w (fun k => k < w.heap.size) x cs ∧ φ x)
    (h : DataW.trod enc P w base spare held fuel t [.slice A len cap] = some x) :
    ∃ l : List α, len = l.length ∧ Rd d w (fun k => k < w.heap.size) (.slice A l.length cap) l ∧ (∀ y ∈ l, φ y) ∧ (∃ D : Nat → DataW H, ∃ rest, x.1 = .nil ∧ l = [] ∨ x.1 = .slice ((List.range len).map D) rest) := by
  rcases open_slice ht h with ⟨hcs, hx⟩ | ⟨a, len', cap', m, n, D, Pl, hcs, hb, hl, hm, hmm, hx, hi⟩
  · simp at hcs
    obtain ⟨rfl, rfl, rfl⟩ := hcs
    exact ⟨[], rfl, Rd.nil _ _ _, by simp, fun _ => .nil, [], .inl ⟨by rw [hx], rfl⟩⟩
  · simp at hcs
    obtain ⟨rfl, rfl, rfl⟩ := hcs
    have hlm : len ≤ m := by rw [hmm]; split <;> omega
    have key : ∀ i, i < len → ∃ cs x, d.K w (fun k => k < w.heap.size) x cs ∧ φ x ∧ (∀ j u, cs[j]? = some u → w.cell? (a.add (i * d.sz + j)) = some u) := by
      intro i hil
      obtain ⟨cs', hc, htr⟩ := hi i (by omega)
      obtain ⟨x, hk, hp⟩ := hel _ _ _ htr
      rw [hC] at hc
      obtain ⟨_, hcl, hat⟩ := World.cells?_some hc
      refine ⟨cs', x, hk, hp, fun j u hu => ?_⟩
      have hj : j < d.sz := by
        have := (List.getElem?_eq_some_iff.1 hu).1
        omega
      rw [← Go.Deep.add_add, hat j hj, hu]
    have key2 : ∀ i, ∃ x : Option α, i < len → ∃ x' cs, x = some x' ∧ d.K w (fun k => k < w.heap.size) x' cs ∧ φ x' ∧ (∀ j u, cs[j]? = some u → w.cell? (a.add (i * d.sz + j)) = some u) := by
      intro i
      by_cases hil : i < len
      · obtain ⟨cs, x, h1, h2, h3⟩ := key i hil
        exact ⟨some x, fun _ => ⟨x, cs, rfl, h1, h2, h3⟩⟩
      · exact ⟨none, fun h => absurd h hil⟩
    obtain ⟨f, hf⟩ := Classical.axiomOfChoice key2
    have hsome : ∀ i, (h : i < len) → ∃ x', f i = some x' := fun i h => let ⟨x', _, h1, _⟩ := hf i h; ⟨x', h1⟩
    let l : List α := (List.range len).filterMap f
    have hlget : ∀ i, i < len → l[i]? = f i := by
      have gen : ∀ (n s : Nat), (∀ i, s ≤ i → i < s + n → ∃ x', f i = some x') → ((List.range' s n).filterMap f).length = n ∧ ∀ i, i < n → ((List.range' s n).filterMap f)[i]? = f (s + i) := by
        intro n
        induction n with
        | zero => exact fun s _ => ⟨rfl, fun i hi => by omega⟩
        | succ n ih =>
          intro s hs
          obtain ⟨x', hx'⟩ := hs s (Nat.le_refl _) (by omega)
          obtain ⟨h1, h2⟩ := ih (s + 1) (fun i a b => hs i (by omega) (by omega))
          rw [List.range'_succ, List.filterMap_cons_some hx']
          refine ⟨by rw [List.length_cons, h1], fun i hi => ?_⟩
          cases i with
          | zero => simp [hx']
          | succ i =>
            rw [List.getElem?_cons_succ, h2 i (by omega)]
            congr 1
            omega
      intro i hi
      have := (gen len 0 (fun i _ h => hsome i (by omega))).2 i hi
      rw [← List.range_eq_range', Nat.zero_add] at this
      exact this
    have hll : l.length = len := by
      have gen : ∀ (n s : Nat), (∀ i, s ≤ i → i < s + n → ∃ x', f i = some x') → ((List.range' s n).filterMap f).length = n := by
        intro n
        induction n with
        | zero => exact fun s _ => rfl
        | succ n ih =>
          intro s hs
          obtain ⟨x', hx'⟩ := hs s (Nat.le_refl _) (by omega)
          rw [List.range'_succ, List.filterMap_cons_some hx', List.length_cons, ih (s + 1) (fun i a b => hs i (by omega) (by omega))]
      have := gen len 0 (fun i _ h => hsome i (by omega))
      rw [← List.range_eq_range'] at this
      exact this
    refine ⟨l, hll.symm, ?_, ?_, D, _, .inr (by rw [hx])⟩
    · refine ⟨some a, cap, rfl, by rw [hll]; exact hl, by simpa [maxLen] using hm, fun h0 => ?_⟩
      rw [hll] at h0
      obtain ⟨x0, c0, _, hk0, _, hc0⟩ := hf 0 h0
      have hu0 : c0[0]? = some (c0[0]'(by have := d.len hk0; omega)) := List.getElem?_eq_getElem _
      have hcell0 := hc0 0 _ hu0
      rw [Nat.zero_mul, Nat.zero_add] at hcell0
      have hspot : a.spot = none := by
        have ha : a.add 0 = a := by simp [Addr.add]
        rw [ha] at hcell0
        unfold World.cell? at hcell0
        split at hcell0
        · split at hcell0
          · cases hcell0
          · rename_i hs
            simpa using hs
        · cases hcell0
      have hablk : a.block < w.heap.size := by
        have ha : a.add 0 = a := by simp [Addr.add]
        rw [ha] at hcell0
        exact World.block_lt_of_cell? _ _ hcell0
      obtain ⟨g, off, sp⟩ := a
      simp only at hspot hablk
      subst hspot
      refine ⟨g, off, rfl, hablk, hablk, fun j y hj => ?_⟩
      have hjl : j < len := by
        have := (List.getElem?_eq_some_iff.1 hj).1
        omega
      rw [hlget j hjl] at hj
      obtain ⟨x', cs, h1, h2, h3, h4⟩ := hf j hjl
      rw [hj] at h1
      cases h1
      refine ⟨cs, h2, fun i u hu => ?_⟩
      have := h4 i u hu
      have hadd : (⟨g, off, none⟩ : Addr).add (j * d.sz + i) = ⟨g, off + (j * d.sz + i), none⟩ := by unfold Addr.add; split <;> simp_all
      rwa [hadd] at this
    · intro y hy
      obtain ⟨j, hj⟩ := List.getElem?_of_mem hy
      have hjl : j < len := by
        have := (List.getElem?_eq_some_iff.1 hj).1
        omega
      rw [hlget j hjl] at hj
      obtain ⟨x', cs, h1, h2, h3, h4⟩ := hf j hjl
      rw [hj] at h1
      cases h1
      exact h3
end
end Go.TM
