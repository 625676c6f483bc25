/- Filters: trees, and how they lie in memory. No program in sight. What a row's arguments read as: slices whose elements are told by their cells. No program in sight. What the laws' arguments read as: filters. -/
import Derived.Test.YtdjfijdnhfmeeaaBase
import Derived.Deep.Slices
import Derived.ChangeSame
import Derived.Lib.SmallJoins
import Derived.SizedLaws
import Derived.ProofKit
import Derived.Test.YtdjfijdnhfmeeaaProg
namespace Go.TM
open Go.RowKit

theorem Rd.move' {α : Type} {d : Kd α} {w w1 : World} {ok : Nat → Prop} {v : Value} {xs : List α} (h : Rd d w ok v xs) (hm : ∀ k, ok k → w1.heap[k]? = w.heap[k]?) : Rd d w1 ok v xs := by
  obtain ⟨A, c, rfl, hc, hm', hr⟩ := h
  refine ⟨A, c, rfl, hc, hm', fun h0 => ?_⟩
  obtain ⟨g, off, rfl, hg, hlt, hx⟩ := hr h0
  have hlt1 : g < w1.heap.size := by
    have h1 := hm g hg
    rw [Array.getElem?_eq_getElem hlt] at h1
    exact (Array.getElem?_eq_some_iff.1 h1).1
  refine ⟨g, off, rfl, hg, hlt1, fun j x hj => let ⟨cs, hk, hcs⟩ := hx j x hj; ⟨cs, d.move hm hk, fun i u hu => ?_⟩⟩
  exact (World.cell?_of_block (w := w) (a := ⟨g, off + (j * d.sz + i), none⟩) (hm g hg)).trans (hcs i u hu)
theorem rd_abs {α : Type} {d : Kd α} {w : World} {ok : Nat → Prop} {v : Value} {xs : List α} (h : Rd d w ok v xs) : ∃ A n c, v = .slice A n c ∧ n = xs.length := by
  obtain ⟨A, c, h1, _, _⟩ := h.slice
  exact ⟨A, _, c, h1, rfl⟩
theorem Rd.at_ {α : Type} {d : Kd α} {w : World} {ok : Nat → Prop} {A : Option Addr} {n c : Nat} {xs : List α} (h : Rd d w ok (.slice A n c) xs) {j : Nat} {x : α} (hx : xs[j]? = some x) :
    ∃ g off cs, A = some ⟨g, off, none⟩ ∧ ok g ∧ g < w.heap.size ∧ d.K w ok x cs ∧ ∀ i u, cs[i]? = some u → w.cell? ⟨g, off + (j * d.sz + i), none⟩ = some u := by
  obtain ⟨A', c', he, hc, hm, hr⟩ := h
  simp only [Value.slice.injEq] at he
  obtain ⟨rfl, _, rfl⟩ := he
  have hlt := (List.getElem?_eq_some_iff.1 hx).1
  obtain ⟨g, off, rfl, hg, hgl, hx'⟩ := hr (by omega)
  obtain ⟨cs, hk, hcs⟩ := hx' _ _ hx
  exact ⟨g, off, cs, rfl, hg, hgl, hk, hcs⟩

/-- A filter: a number, two texts, kids. -/
inductive Flt where
  | mk (op : Int) (key val : ByteArray) (kids : List Flt)
def Flt.op : Flt → Int | .mk o _ _ _ => o
def Flt.key : Flt → ByteArray | .mk _ k _ _ => k
def Flt.val : Flt → ByteArray | .mk _ _ v _ => v
def Flt.kids : Flt → List Flt | .mk _ _ _ k => k
def noK : Kd Flt where
  sz := 4
  K := fun _ _ _ _ => False
  len := fun h => h.elim
  one := fun h => h.elim
  mono := fun _ h => h.elim
  bound := fun h => h.elim
  move := fun _ h => h.elim
def oneK (d : Kd Flt) : Kd Flt where
  sz := 4
  K := fun w ok x cs => ∃ v, cs = [.int .i64 x.op, .string x.key, .string x.val, v] ∧ Rd d w ok v x.kids
  len := fun ⟨_, h, _⟩ => by rw [h]; rfl
  one := fun ⟨v, h, hr⟩ u hu => by
    rw [h] at hu
    simp only [List.mem_cons, List.not_mem_nil, or_false] at hu
    rcases hu with rfl | rfl | rfl | rfl
    · rfl
    · rfl
    · rfl
    · obtain ⟨A, c, rfl, _⟩ := hr.slice
      rfl
  mono := fun hok ⟨v, h, hr⟩ => ⟨v, h, hr.mono hok⟩
  bound := fun ⟨v, h, hr⟩ => ⟨v, h, hr.bound⟩
  move := fun hm ⟨v, h, hr⟩ => ⟨v, h, hr.move' hm⟩
/-- .. as it lies in memory, at most n deep. -/
def fltK : Nat → Kd Flt
  | 0 => noK
  | n + 1 => oneK (fltK n)
theorem fltK_sz : ∀ n, (fltK n).sz = 4
  | 0 => rfl
  | _ + 1 => rfl
theorem Rd.kind {α : Type} {d d' : Kd α} {w : World} {ok : Nat → Prop} {v : Value} {xs : List α} (h : Rd d w ok v xs) (hs : d'.sz = d.sz) (hk : ∀ x ∈ xs, ∀ cs, d.K w ok x cs → d'.K w ok x cs) : Rd d' w ok v xs := by
  obtain ⟨A, c, rfl, hc, hm, hr⟩ := h
  refine ⟨A, c, rfl, hc, hm, fun h0 => ?_⟩
  obtain ⟨g, off, rfl, hg, hlt, hx⟩ := hr h0
  refine ⟨g, off, rfl, hg, hlt, fun j x hj => ?_⟩
  obtain ⟨cs, hk1, hcs⟩ := hx j x hj
  exact ⟨cs, hk x (List.mem_of_getElem? hj) cs hk1, by rw [hs]; exact hcs⟩
theorem fltK_up {w : World} {ok : Nat → Prop} {n : Nat} : ∀ {x : Flt} {cs : List Value}, (fltK n).K w ok x cs → (fltK (n + 1)).K w ok x cs := by
  induction n with
  | zero => exact fun h => False.elim h
  | succ n ih =>
    intro x cs h
    obtain ⟨v, h, hr⟩ := h
    exact ⟨v, h, hr.kind ((fltK_sz _).trans (fltK_sz _).symm) (fun _ _ _ hk => ih hk)⟩
theorem fltK_le {w : World} {ok : Nat → Prop} {n m : Nat} (hnm : n ≤ m) {x : Flt} {cs : List Value} (h : (fltK n).K w ok x cs) : (fltK m).K w ok x cs := by
  obtain ⟨k, rfl⟩ := Nat.exists_eq_add_of_le hnm
  induction k with
  | zero => exact h
  | succ k ih => exact fltK_up (ih (Nat.le_add_right _ _))
end Go.TM

namespace Go.TM
open Go.RowKit Go.ChangeShapes Go.WideShapes Go.ChangeAt Go.Deep

section
variable {H : Type} {enc : TypeId × Value → H} {P : Program} {w : World} {base : Nat} {spare : Nat → Bool} {held : Bool}

/-- A slice's elements, with the fuel told. -/
theorem open_elems {t e : TypeId} {fuel : Nat} {cs : List Value} {x : DataW H × List MemPlace} (ht : P.underlying t = some (.slice e)) (h : DataW.trod enc P w base spare held fuel t cs = some x) :
    cs = [.slice none 0 0] ∨ ∃ (a : Addr) (len cap n : Nat), fuel = n + 1 ∧ cs = [.slice (some a) len cap] ∧ len ≤ cap ∧ cap ≤ maxLen ∧
      ∀ i, i < len → ∃ cs' y, w.cells? base (a.add (i * P.cellsOf e)) (P.cellsOf e) = some cs' ∧ DataW.trod enc P w base spare held n e cs' = some y := by
  rcases DataW.trod_slice ht h with h0 | ⟨a, len, cap, elems, rest, n, hf, rfl, rfl, hb, hl, hm, hlen, hel, hsp, hns⟩
  · exact .inl h0.1
  · refine .inr ⟨a, len, cap, n, hf, rfl, hl, hm, fun i hi => ?_⟩
    have key := hel i hi
    rw [List.getElem?_eq_getElem (by omega)] at key
    obtain ⟨cs', h1, h2⟩ := Option.bind_eq_some_iff.1 key
    exact ⟨cs', _, h1, h2⟩

/-- A slice that came in, its elements told by 'hel'. -/
theorem open_rd {α : Type} (d : Kd α) (φ : α → Prop) {t e : TypeId} {fuel : Nat} {A : Option Addr} {len cap : Nat} {x : DataW H × List MemPlace} (ht : P.underlying t = some (.slice e)) (hC : P.cellsOf e = d.sz) (hs0 : 0 < d.sz)
    (hel : ∀ n cs y, n < fuel → DataW.trod enc P w base spare held n e cs = some y → ∃ x, d.K w (fun k => k < w.heap.size) x cs ∧ φ x)
    (h : DataW.trod enc P w base spare held fuel t [.slice A len cap] = some x) :
    ∃ l : List α, len = l.length ∧ Rd d w (fun k => k < w.heap.size) (.slice A l.length cap) l ∧ (∀ y ∈ l, φ y) := by
  rcases open_elems ht h with hcs | ⟨a, len', cap', n, hfu, hcs, hl, hm, hi⟩
  · simp at hcs
    obtain ⟨rfl, rfl, rfl⟩ := hcs
    exact ⟨[], rfl, Rd.nil _ _ _, by simp⟩
  · simp at hcs
    obtain ⟨rfl, rfl, rfl⟩ := hcs
    have key : ∀ i, i < len → ∃ cs x, d.K w (fun k => k < w.heap.size) x cs ∧ φ x ∧ (∀ j u, cs[j]? = some u → w.cell? (a.add (i * d.sz + j)) = some u) := by
      intro i hil
      obtain ⟨cs', y, hc, htr⟩ := hi i (by omega)
      obtain ⟨x, hk, hp⟩ := hel _ _ _ (by omega) htr
      rw [hC] at hc
      obtain ⟨_, hcl, hat⟩ := World.cells?_some hc
      refine ⟨cs', x, hk, hp, fun j u hu => ?_⟩
      have hj : j < d.sz := by
        have := (List.getElem?_eq_some_iff.1 hu).1
        omega
      rw [← Go.Deep.add_add, hat j hj, hu]
    have key2 : ∀ i, ∃ x : Option α, i < len → ∃ x' cs, x = some x' ∧ d.K w (fun k => k < w.heap.size) x' cs ∧ φ x' ∧ (∀ j u, cs[j]? = some u → w.cell? (a.add (i * d.sz + j)) = some u) := by
      intro i
      by_cases hil : i < len
      · obtain ⟨cs, x, h1, h2, h3⟩ := key i hil
        exact ⟨some x, fun _ => ⟨x, cs, rfl, h1, h2, h3⟩⟩
      · exact ⟨none, fun h => absurd h hil⟩
    obtain ⟨f, hf⟩ := Classical.axiomOfChoice key2
    have hsome : ∀ i, (h : i < len) → ∃ x', f i = some x' := fun i h => let ⟨x', _, h1, _⟩ := hf i h; ⟨x', h1⟩
    let l : List α := (List.range len).filterMap f
    have hlget : ∀ i, i < len → l[i]? = f i := by
      have gen : ∀ (n s : Nat), (∀ i, s ≤ i → i < s + n → ∃ x', f i = some x') → ((List.range' s n).filterMap f).length = n ∧ ∀ i, i < n → ((List.range' s n).filterMap f)[i]? = f (s + i) := by
        intro n
        induction n with
        | zero => exact fun s _ => ⟨rfl, fun i hi => by omega⟩
        | succ n ih =>
          intro s hs
          obtain ⟨x', hx'⟩ := hs s (Nat.le_refl _) (by omega)
          obtain ⟨h1, h2⟩ := ih (s + 1) (fun i a b => hs i (by omega) (by omega))
          rw [List.range'_succ, List.filterMap_cons_some hx']
          refine ⟨by rw [List.length_cons, h1], fun i hi => ?_⟩
          cases i with
          | zero => simp [hx']
          | succ i =>
            rw [List.getElem?_cons_succ, h2 i (by omega)]
            congr 1
            omega
      intro i hi
      have := (gen len 0 (fun i _ h => hsome i (by omega))).2 i hi
      rw [← List.range_eq_range', Nat.zero_add] at this
      exact this
    have hll : l.length = len := by
      have gen : ∀ (n s : Nat), (∀ i, s ≤ i → i < s + n → ∃ x', f i = some x') → ((List.range' s n).filterMap f).length = n := by
        intro n
        induction n with
        | zero => exact fun s _ => rfl
        | succ n ih =>
          intro s hs
          obtain ⟨x', hx'⟩ := hs s (Nat.le_refl _) (by omega)
          rw [List.range'_succ, List.filterMap_cons_some hx', List.length_cons, ih (s + 1) (fun i a b => hs i (by omega) (by omega))]
      have := gen len 0 (fun i _ h => hsome i (by omega))
      rw [← List.range_eq_range'] at this
      exact this
    refine ⟨l, hll.symm, ?_, ?_⟩
    · refine ⟨some a, cap, rfl, by rw [hll]; exact hl, by simpa [maxLen] using hm, fun h0 => ?_⟩
      rw [hll] at h0
      obtain ⟨x0, c0, _, hk0, _, hc0⟩ := hf 0 h0
      have hu0 : c0[0]? = some (c0[0]'(by have := d.len hk0; omega)) := List.getElem?_eq_getElem _
      have hcell0 := hc0 0 _ hu0
      rw [Nat.zero_mul, Nat.zero_add] at hcell0
      have hspot : a.spot = none := by
        have ha : a.add 0 = a := by simp [Addr.add]
        rw [ha] at hcell0
        unfold World.cell? at hcell0
        split at hcell0
        · split at hcell0
          · cases hcell0
          · rename_i hs
            simpa using hs
        · cases hcell0
      have hablk : a.block < w.heap.size := by
        have ha : a.add 0 = a := by simp [Addr.add]
        rw [ha] at hcell0
        exact World.block_lt_of_cell? _ _ hcell0
      obtain ⟨g, off, sp⟩ := a
      simp only at hspot hablk
      subst hspot
      refine ⟨g, off, rfl, hablk, hablk, fun j y hj => ?_⟩
      have hjl : j < len := by
        have := (List.getElem?_eq_some_iff.1 hj).1
        omega
      rw [hlget j hjl] at hj
      obtain ⟨x', cs, h1, h2, h3, h4⟩ := hf j hjl
      rw [hj] at h1
      cases h1
      refine ⟨cs, h2, fun i u hu => ?_⟩
      have := h4 i u hu
      have hadd : (⟨g, off, none⟩ : Addr).add (j * d.sz + i) = ⟨g, off + (j * d.sz + i), none⟩ := by unfold Addr.add; split <;> simp_all
      rwa [hadd] at this
    · intro y hy
      obtain ⟨j, hj⟩ := List.getElem?_of_mem hy
      have hjl : j < len := by
        have := (List.getElem?_eq_some_iff.1 hj).1
        omega
      rw [hlget j hjl] at hj
      obtain ⟨x', cs, h1, h2, h3, h4⟩ := hf j hjl
      rw [hj] at h1
      cases h1
      exact h3
end
end Go.TM

namespace Go.Proofs.Ytdjfijdnhfmeeaa
open Go.RowKit Go.TM Go.ChangeShapes Go.WideShapes Go.ChangeAt Go.Deep

def inI (n : Int) : Prop := -9223372036854775808 ≤ n ∧ n ≤ 9223372036854775807
/-- Numbers and lengths that a filter may have. -/
def okF : Nat → Flt → Prop
  | 0, _ => False
  | n + 1, f => inI f.op ∧ f.key.size ≤ maxLen ∧ f.val.size ≤ maxLen ∧ f.kids.length ≤ maxLen ∧ ∀ k ∈ f.kids, okF n k
theorem wf_i64 {n : Int} (h : (Lit.int .i64 n).wf = true) : inI n := by
  simp only [Lit.wf, Bool.and_eq_true, decide_eq_true_eq] at h
  obtain ⟨h1, h2⟩ := h
  have e1 : IntKind.i64.min = -9223372036854775808 := by decide
  have e2 : IntKind.i64.max = 9223372036854775807 := by decide
  rw [e1] at h1
  rw [e2] at h2
  exact ⟨h1, h2⟩
section
variable {H : Type} {enc : TypeId × Value → H} {w : World} {base b0 : Nat} {spare : Nat → Bool} {held : Bool} {r : Reach}
theorem okF_up {f : Flt} {n : Nat} (h : okF n f) : okF (n + 1) f := by
  induction n generalizing f with
  | zero => exact False.elim h
  | succ n ih => exact ⟨h.1, h.2.1, h.2.2.1, h.2.2.2.1, fun k hk => ih (h.2.2.2.2 k hk)⟩
theorem okF_le {f : Flt} {n m : Nat} (hnm : n ≤ m) (h : okF n f) : okF m f := by
  obtain ⟨k, rfl⟩ := Nat.exists_eq_add_of_le hnm
  induction k with
  | zero => exact h
  | succ k ih => exact okF_up (ih (Nat.le_add_right _ _))
set_option maxRecDepth 100000 in
theorem trod_flt : ∀ (fuel : Nat) {cs : List Value} {y : DataW H × List MemPlace}, DataW.trod enc Try.prog w base spare held fuel 24 cs = some y → ∃ f : Flt, (fltK fuel).K w (fun k => k < w.heap.size) f cs ∧ okF fuel f := by
  intro fuel
  induction fuel using Nat.strongRecOn with
  | _ fuel ih =>
    intro cs y h
    obtain ⟨xs, n, rfl, rfl, hl, hlen, hf⟩ := DataW.trod_struct Try.underlying24 h
    have hC : Try.prog.cellsOf 24 = 4 := by kernel_rfl
    have hC0 : Try.prog.cellsOf 3 = 1 := by kernel_rfl
    have hC1 : Try.prog.cellsOf 9 = 1 := by kernel_rfl
    have hC2 : Try.prog.cellsOf 22 = 1 := by kernel_rfl
    rw [hC] at hl
    match xs, hlen with
    | [y0, y1, y2, y3], _ =>
      have h0 := hf 0 _ rfl
      have h1 := hf 1 _ rfl
      have h2 := hf 2 _ rfl
      have h3 := hf 3 _ rfl
      match cs, hl with
      | [c0, c1, c2, c3], _ =>
        simp [hC0, hC1, hC2] at h0 h1 h2 h3
        obtain ⟨a0, g0, _, w0⟩ := DataW.trod_int Try.underlying3 h0
        obtain ⟨s1, g1, _, l1⟩ := DataW.trod_string Try.underlying9 h1
        obtain ⟨s2, g2, _, l2⟩ := DataW.trod_string Try.underlying9 h2
        have hs : ∃ A len cap, [c3] = [Value.slice A len cap] := by
          rcases open_elems Try.underlying22 h3 with h | ⟨a, len, cap, _, _, h, _⟩
          · exact ⟨_, _, _, h⟩
          · exact ⟨_, _, _, h⟩
        obtain ⟨A, len, cap, g3⟩ := hs
        simp at g0 g1 g2 g3
        subst g0 g1 g2 g3
        obtain ⟨l, rfl, hr, hok⟩ := open_rd (fltK n) (okF n) Try.underlying22 (hC.trans (fltK_sz n).symm) (by rw [fltK_sz]; decide) (fun m cs' y' hm hy => by
          obtain ⟨f, hk, ho⟩ := ih m (by omega) hy
          exact ⟨f, fltK_le (by omega) hk, okF_le (by omega) ho⟩) h3
        refine ⟨.mk a0 s1 s2 l, ⟨_, rfl, hr⟩, wf_i64 w0, l1, l2, ?_, hok⟩
        obtain ⟨_, _, _, _, hm⟩ := hr.slice
        exact hm
theorem open_flt {v : Value} {d : DataW H} {p : List MemPlace} (h : DataW.Trod enc Try.prog w base spare held 24 v d p) : ∃ (n : Nat) (f : Flt), (fltK n).K w (fun k => k < w.heap.size) f (Value.cells v).toList ∧ okF n f := by
  obtain ⟨fuel, hf⟩ := h
  obtain ⟨f, hk, ho⟩ := trod_flt fuel hf
  exact ⟨fuel, f, hk, ho⟩
end
end Go.Proofs.Ytdjfijdnhfmeeaa

