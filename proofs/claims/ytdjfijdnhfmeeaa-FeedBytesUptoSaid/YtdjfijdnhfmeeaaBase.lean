/- Plain words for walks: worlds that extend others, slices that read as lists. No program in sight. -/
import Derived.WalkKit
import Derived.WalkSpells
import Derived.BigQuiet
import Derived.Deep.AppendSrc
import Derived.Lib.Hide
import Derived.Deep.RegionLaw
import Derived.Deep.RegionHeld3
import Derived.Deep.LoopGhost
import Derived.Deep.QuietTactic
import Derived.Deep.DeepCutAuto
namespace Go.TM
open Go.RowKit

/-- w' is w, but for new blocks and for what M names. -/
structure Ext (M : Nat → Prop) (w w' : World) : Prop where
  os : w'.os = w.os
  tape : w'.tape = w.tape
  output : w'.output = w.output
  size : w.heap.size ≤ w'.heap.size
  block : ∀ k, k < w.heap.size → ¬ M k → w'.heap[k]? = w.heap[k]?

abbrev Non : Nat → Prop := fun _ => False
abbrev Only (g : Nat) : Nat → Prop := fun k => k = g

theorem Ext.refl (M : Nat → Prop) (w : World) : Ext M w w := ⟨rfl, rfl, rfl, Nat.le_refl _, fun _ _ _ => rfl⟩
theorem Ext.trans {M M' : Nat → Prop} {a b c : World} (h : Ext M a b) (k : Ext M' b c) (hm : ∀ i, i < a.heap.size → M' i → M i) : Ext M a c :=
  ⟨k.os.trans h.os, k.tape.trans h.tape, k.output.trans h.output, Nat.le_trans h.size k.size,
    fun i hi hn => (k.block i (Nat.lt_of_lt_of_le hi h.size) (fun e => hn (hm i hi e))).trans (h.block i hi hn)⟩
theorem Ext.mono {M M' : Nat → Prop} {a b : World} (h : Ext M a b) (hm : ∀ i, i < a.heap.size → M i → M' i) : Ext M' a b :=
  ⟨h.os, h.tape, h.output, h.size, fun i hi hn => h.block i hi (fun e => hn (hm i hi e))⟩
theorem Ext.trans0 {M : Nat → Prop} {a b c : World} (h : Ext M a b) (k : Ext Non b c) : Ext M a c := h.trans k (fun _ _ e => e.elim)
theorem Ext.of0 {M : Nat → Prop} {a b : World} (h : Ext Non a b) : Ext M a b := h.mono (fun _ _ e => e.elim)
theorem Ext.alloc {M : Nat → Prop} {a b : World} (h : Ext M a b) (o : Obj) : Ext M a (b.alloc o) :=
  h.trans0 ⟨rfl, rfl, rfl, by simp, fun k hk _ => Below.heap_alloc _ _ _ hk⟩
theorem Ext.drew {M : Nat → Prop} {a b : World} (h : Ext M a b) : Ext M a b.drew := h.trans0 ⟨rfl, rfl, rfl, Nat.le_refl _, fun _ _ _ => rfl⟩
theorem Ext.setCell {M : Nat → Prop} {a b : World} (h : Ext M a b) {p : Addr} (hp : p.block < a.heap.size → M p.block) (u : Value) : Ext M a (b.setCell p u) :=
  h.trans (M' := fun k => k = p.block) ⟨rfl, rfl, rfl, by simp [World.setCell], fun k _ hk => Below.heap_setCell _ _ _ _ hk⟩ (fun i hi e => by subst e; exact hp hi)
theorem Ext.setNew {M : Nat → Prop} {a b : World} (h : Ext M a b) {g i : Nat} (hp : a.heap.size ≤ g) (u : Value) : Ext M a (b.setCell ⟨g, i, none⟩ u) :=
  h.setCell (p := ⟨g, i, none⟩) (fun hl => absurd hl (Nat.not_lt.2 hp)) u
theorem Ext.grown {M : Nat → Prop} {a b c : World} {row : Option Nat} (h : Ext M a b) (hg : b.grownBy c row) (hr : ∀ k, row = some k → k < a.heap.size → M k) : Ext M a c :=
  h.trans (M' := fun k => some k = row) ⟨hg.os, hg.tape, hg.output, hg.size, fun k hk hn => hg.block k hk hn⟩ (fun i hi e => hr i e.symm hi)
theorem Ext.to_below {a b : World} (h : Ext Non a b) : Below a.heap.size a b := ⟨h.os, h.tape, h.output, h.size, fun k hk => h.block k hk (fun e => e)⟩
theorem Ext.of_below {a b : World} (h : Below a.heap.size a b) : Ext Non a b := ⟨h.os, h.tape, h.output, h.size, fun k hk _ => h.block k hk⟩
theorem Ext.cell {M : Nat → Prop} {w w' : World} (h : Ext M w w') {p : Addr} {v : Value} (hv : w.cell? p = some v) (hp : ¬ M p.block) : w'.cell? p = some v :=
  (World.cell?_of_block (w := w) (h.block p.block (World.block_lt_of_cell? _ _ hv) hp)).trans hv
theorem Ext.obj {M : Nat → Prop} {w w' : World} (h : Ext M w w') {g : Nat} {o : Obj} (hv : w.heap[g]? = some o) (hp : ¬ M g) : w'.heap[g]? = some o := by
  have hlt : g < w.heap.size := (Array.getElem?_eq_some_iff.1 hv).1
  rw [h.block g hlt hp]; exact hv

theorem blk_cell {w : World} {g : Nat} {cs : Array Value} {t : TypeId} {fr : Nat × Nat} (h : w.heap[g]? = some (.cells cs t fr)) (i : Nat) : w.cell? ⟨g, i, none⟩ = cs[i]? := cell_of_row w g i cs t fr h
theorem blk_frozen {w : World} {g : Nat} {cs : Array Value} {t : TypeId} (h : w.heap[g]? = some (.cells cs t (0, 0))) (i : Nat) : w.frozen? ⟨g, i, none⟩ = false := frozen_of_row w g i cs t h
theorem blk_lt {w : World} {g : Nat} {o : Obj} (h : w.heap[g]? = some o) : g < w.heap.size := (Array.getElem?_eq_some_iff.1 h).1
theorem blk_alloc {w : World} {g : Nat} {o : Obj} (h : w.heap[g]? = some o) (x : Obj) : (w.alloc x).heap[g]? = some o := (Below.heap_alloc _ _ _ (blk_lt h)).trans h
theorem blk_set {w : World} {g : Nat} {cs : Array Value} {t : TypeId} (h : w.heap[g]? = some (.cells cs t (0, 0))) (i : Nat) (v : Value) : (w.setCell ⟨g, i, none⟩ v).heap[g]? = some (.cells (cs.setIfInBounds i v) t (0, 0)) :=
  heap_setCell_same w g i cs t v h
theorem blk_far {w : World} {g : Nat} {o : Obj} (h : w.heap[g]? = some o) {p : Addr} (hp : g ≠ p.block) (v : Value) : (w.setCell p v).heap[g]? = some o := (heap_setCell_other w p g v hp).trans h
theorem blk_drew {w : World} {g : Nat} {o : Obj} (h : w.heap[g]? = some o) : w.drew.heap[g]? = some o := h

/-- Kinds: how a value of Lean's lies in cells; ok: the blocks that it leads to. -/
structure Kd (α : Type) where
  sz : Nat
  K : World → (Nat → Prop) → α → List Value → Prop
  len : ∀ {w ok x cs}, K w ok x cs → cs.length = sz
  one : ∀ {w ok x cs}, K w ok x cs → ∀ u ∈ cs, u.oneCell' = true
  mono : ∀ {w : World} {ok ok' : Nat → Prop} {x cs}, (∀ k, ok k → ok' k) → K w ok x cs → K w ok' x cs
  bound : ∀ {w : World} {ok x cs}, K w ok x cs → K w (fun k => ok k ∧ k < w.heap.size) x cs
  move : ∀ {w w1 : World} {ok : Nat → Prop} {x cs}, (∀ k, ok k → w1.heap[k]? = w.heap[k]?) → K w ok x cs → K w1 ok x cs

/-- Kinds without memory. -/
def Kd.flat {α : Type} (sz : Nat) (enc : α → List Value) (hl : ∀ x, (enc x).length = sz) (h1 : ∀ x, ∀ u ∈ enc x, u.oneCell' = true) : Kd α where
  sz := sz
  K := fun _ _ x cs => cs = enc x
  len := fun h => by rw [h]; exact hl _
  one := fun h u hu => by rw [h] at hu; exact h1 _ u hu
  mono := fun _ h => h
  bound := fun h => h
  move := fun _ h => h

def Kd.i64 : Kd Int := Kd.flat 1 (fun n => [.int .i64 n]) (fun _ => rfl) (by simp [Value.oneCell'])
def Kd.u8 : Kd UInt8 := Kd.flat 1 (fun n => [.int .u8 n.toNat]) (fun _ => rfl) (by simp [Value.oneCell'])

section
variable {α : Type} {d : Kd α} {w w1 : World} {ok ok' : Nat → Prop} {v : Value} {xs : List α}

/-- A slice reads as a list. -/
def Rd (d : Kd α) (w : World) (ok : Nat → Prop) (v : Value) (xs : List α) : Prop :=
  ∃ A c, v = .slice A xs.length c ∧ xs.length ≤ c ∧ c ≤ 9223372036854775807 ∧ (0 < xs.length → ∃ g off, A = some ⟨g, off, none⟩ ∧ ok g ∧ g < w.heap.size ∧
    ∀ j x, xs[j]? = some x → ∃ cs, d.K w ok x cs ∧ ∀ i u, cs[i]? = some u → w.cell? ⟨g, off + (j * d.sz + i), none⟩ = some u)

theorem Rd.nil (d : Kd α) (w : World) (ok : Nat → Prop) : Rd d w ok (.slice none 0 0) [] := ⟨none, 0, rfl, Nat.le_refl _, by omega, fun h => by simp at h⟩
theorem Rd.mono (h : Rd d w ok v xs) (hok : ∀ k, ok k → ok' k) : Rd d w ok' v xs := by
  obtain ⟨A, c, rfl, hc, hm, hr⟩ := h
  refine ⟨A, c, rfl, hc, hm, fun h0 => ?_⟩
  obtain ⟨g, off, rfl, hg, hlt, hx⟩ := hr h0
  exact ⟨g, off, rfl, hok g hg, hlt, fun j x hj => let ⟨cs, hk, hcs⟩ := hx j x hj; ⟨cs, d.mono hok hk, hcs⟩⟩
theorem Rd.bound (h : Rd d w ok v xs) : Rd d w (fun k => ok k ∧ k < w.heap.size) v xs := by
  obtain ⟨A, c, rfl, hc, hm, hr⟩ := h
  refine ⟨A, c, rfl, hc, hm, fun h0 => ?_⟩
  obtain ⟨g, off, rfl, hg, hlt, hx⟩ := hr h0
  exact ⟨g, off, rfl, ⟨hg, hlt⟩, hlt, fun j x hj => let ⟨cs, hk, hcs⟩ := hx j x hj; ⟨cs, d.bound hk, hcs⟩⟩
theorem Rd.move (h : Rd d w ok v xs) (hs : w.heap.size ≤ w1.heap.size) (hm : ∀ k, ok k → w1.heap[k]? = w.heap[k]?) : Rd d w1 ok v xs := by
  obtain ⟨A, c, rfl, hc, hm', hr⟩ := h
  refine ⟨A, c, rfl, hc, hm', fun h0 => ?_⟩
  obtain ⟨g, off, rfl, hg, hlt, hx⟩ := hr h0
  refine ⟨g, off, rfl, hg, by omega, fun j x hj => let ⟨cs, hk, hcs⟩ := hx j x hj; ⟨cs, d.move hm hk, fun i u hu => ?_⟩⟩
  exact (World.cell?_of_block (w := w) (a := ⟨g, off + (j * d.sz + i), none⟩) (hm g hg)).trans (hcs i u hu)
theorem Rd.ext {M : Nat → Prop} (h : Rd d w ok v xs) (he : Ext M w w1) (hm : ∀ k, ok k → k < w.heap.size → ¬ M k) : Rd d w1 ok v xs :=
  ((h.bound).move he.size (fun k hk => he.block k hk.2 (hm k hk.1 hk.2))).mono (fun _ hk => hk.1)
theorem Rd.ext0 (h : Rd d w ok v xs) (he : Ext Non w w1) : Rd d w1 ok v xs := h.ext he (fun _ _ _ e => e)
theorem Rd.slice (h : Rd d w ok v xs) : ∃ A c, v = .slice A xs.length c ∧ xs.length ≤ c ∧ xs.length ≤ 9223372036854775807 := by
  obtain ⟨A, c, rfl, hc, hm, hr⟩ := h
  exact ⟨A, c, rfl, hc, by omega⟩
end



/-! ### Rows of one's own -/
def Reps {α : Type} (d : Kd α) (w : World) (ok : Nat → Prop) (xs : List α) (inner : List Value) : Prop :=
  inner.length = xs.length * d.sz ∧ ∀ j x, xs[j]? = some x → d.K w ok x ((inner.drop (j * d.sz)).take d.sz)

section
variable {α : Type} {d : Kd α} {w w1 : World} {ok ok' : Nat → Prop} {v : Value} {xs ys : List α} {inner : List Value}

theorem Reps.nil (d : Kd α) (w : World) (ok : Nat → Prop) : Reps d w ok [] [] := ⟨by simp, fun j x h => by simp at h⟩
theorem Reps.mono (h : Reps d w ok xs inner) (hok : ∀ k, ok k → ok' k) : Reps d w ok' xs inner := ⟨h.1, fun j x hj => d.mono hok (h.2 j x hj)⟩
theorem Reps.bound (h : Reps d w ok xs inner) : Reps d w (fun k => ok k ∧ k < w.heap.size) xs inner := ⟨h.1, fun j x hj => d.bound (h.2 j x hj)⟩
theorem Reps.move (h : Reps d w ok xs inner) (hm : ∀ k, ok k → w1.heap[k]? = w.heap[k]?) : Reps d w1 ok xs inner := ⟨h.1, fun j x hj => d.move hm (h.2 j x hj)⟩
theorem Reps.append {i1 i2 : List Value} (h : Reps d w ok xs i1) (k : Reps d w ok ys i2) : Reps d w ok (xs ++ ys) (i1 ++ i2) := by
  refine ⟨by rw [List.length_append, h.1, k.1, List.length_append, Nat.add_mul], fun j x hj => ?_⟩
  rcases Nat.lt_or_ge j xs.length with hlt | hge
  · rw [List.getElem?_append_left hlt] at hj
    have h1 : j * d.sz + d.sz ≤ i1.length := by rw [h.1, ← Nat.succ_mul]; exact Nat.mul_le_mul_right _ hlt
    rw [List.drop_append_of_le_length (by omega), List.take_append_of_le_length (by rw [List.length_drop]; omega)]
    exact h.2 j x hj
  · rw [List.getElem?_append_right hge] at hj
    have e : j * d.sz = i1.length + (j - xs.length) * d.sz := by rw [h.1, ← Nat.add_mul, Nat.add_sub_cancel' hge]
    rw [e, List.drop_append, List.drop_eq_nil_of_le (by omega), List.nil_append, Nat.add_sub_cancel_left]
    exact k.2 _ x hj
theorem Reps.one_ (h : Reps d w ok xs inner) : ∀ u ∈ inner, u.oneCell' = true := by
  intro u hu
  obtain ⟨j, hj, rfl⟩ := List.mem_iff_getElem.1 hu
  have hl := h.1
  have hs : 0 < d.sz := by
    rcases Nat.eq_zero_or_pos d.sz with e | e
    · rw [e, Nat.mul_zero] at hl
      omega
    · exact e
  have hq : j / d.sz < xs.length := by rw [Nat.div_lt_iff_lt_mul hs]; omega
  have hk := h.2 (j / d.sz) _ (List.getElem?_eq_getElem hq)
  have hdm := Nat.div_add_mod j d.sz
  have hml := Nat.mod_lt j hs
  refine d.one hk _ ?_
  rw [List.mem_iff_getElem?]
  refine ⟨j % d.sz, ?_⟩
  rw [List.getElem?_take_of_lt hml, List.getElem?_drop, show j / d.sz * d.sz + j % d.sz = j from by rw [Nat.mul_comm]; exact hdm]
  exact List.getElem?_eq_getElem hj
theorem Reps.single {x : α} {cs : List Value} (h : d.K w ok x cs) : Reps d w ok [x] cs := by
  have hl := d.len h
  refine ⟨by simpa using hl, fun j y hj => ?_⟩
  cases j with
  | zero =>
    simp only [List.getElem?_cons_zero, Option.some.injEq] at hj
    subst hj
    rw [Nat.zero_mul, List.drop_zero, List.take_of_length_le (by omega)]
    exact h
  | succ j => simp at hj

/-- The cells of a slice that reads as a list. -/
theorem Rd.cells_ {A : Option Addr} {n c : Nat} (h : Rd d w ok (.slice A n c) xs) : n = xs.length ∧ ∃ inner, Reps d w ok xs inner ∧
    (0 < xs.length → ∃ g off, A = some ⟨g, off, none⟩ ∧ ok g ∧ g < w.heap.size ∧ ∀ j u, inner[j]? = some u → w.cell? ⟨g, off + j, none⟩ = some u) := by
  obtain ⟨A', c', he, hc, hm, hr⟩ := h
  simp only [Value.slice.injEq] at he
  obtain ⟨rfl, rfl, rfl⟩ := he
  refine ⟨rfl, ?_⟩
  rcases Nat.eq_zero_or_pos xs.length with h0 | h0
  · have : xs = [] := List.eq_nil_of_length_eq_zero h0
    subst this
    exact ⟨[], Reps.nil _ _ _, fun h => by simp at h⟩
  obtain ⟨g, off, rfl, hg, hlt, hx⟩ := hr h0
  have key : ∀ m, m ≤ xs.length → ∃ inner, Reps d w ok (xs.take m) inner ∧ ∀ j u, inner[j]? = some u → w.cell? ⟨g, off + j, none⟩ = some u := by
    intro m
    induction m with
    | zero => exact fun _ => ⟨[], by simpa using Reps.nil d w ok, fun j u hu => by simp at hu⟩
    | succ m ih =>
      intro hm'
      obtain ⟨inner, hr', hcell⟩ := ih (by omega)
      obtain ⟨cs, hk, hcs⟩ := hx m _ (List.getElem?_eq_getElem (show m < xs.length by omega))
      refine ⟨inner ++ cs, ?_, fun j u hu => ?_⟩
      · rw [List.take_succ_eq_append_getElem (show m < xs.length by omega)]
        exact hr'.append (Reps.single hk)
      · have hil : inner.length = m * d.sz := by rw [hr'.1, List.length_take, Nat.min_eq_left (by omega)]
        rcases Nat.lt_or_ge j inner.length with hj | hj
        · rw [List.getElem?_append_left hj] at hu
          exact hcell j u hu
        · rw [List.getElem?_append_right hj] at hu
          have := hcs (j - inner.length) u hu
          rwa [← hil, Nat.add_sub_cancel' hj] at this
  obtain ⟨inner, hr', hcell⟩ := key xs.length (Nat.le_refl _)
  rw [List.take_length] at hr'
  exact ⟨inner, hr', fun _ => ⟨g, off, rfl, hg, hlt, hcell⟩⟩

theorem Rd.of_inner {g off c : Nat} (hr : Reps d w ok xs inner) (hg : ok g) (hlt : g < w.heap.size) (hc : xs.length ≤ c) (hm : c ≤ 9223372036854775807)
    (hcell : ∀ j u, inner[j]? = some u → w.cell? ⟨g, off + j, none⟩ = some u) : Rd d w ok (.slice (some ⟨g, off, none⟩) xs.length c) xs := by
  refine ⟨_, c, rfl, hc, hm, fun _ => ⟨g, off, rfl, hg, hlt, fun j x hj => ⟨_, hr.2 j x hj, fun i u hu => ?_⟩⟩⟩
  have hi : i < d.sz := by
    have := (List.getElem?_eq_some_iff.1 hu).1
    rw [List.length_take] at this
    omega
  rw [List.getElem?_take_of_lt hi, List.getElem?_drop] at hu
  exact hcell _ u hu

/-- A row of one's own, that reads as a list. e: the elements' type. -/
def Own (d : Kd α) (e : TypeId) (w : World) (base : Nat) (ok : Nat → Prop) (v : Value) (xs : List α) : Prop :=
  (∀ k, v.ownBlock = some k → ok k) ∧ ∃ inner, w.ownsRow base e d.sz v xs.length inner ∧ Reps d w (fun k => ok k ∧ some k ≠ v.ownBlock) xs inner

theorem Own.nil (d : Kd α) (e : TypeId) (w : World) (base : Nat) (ok : Nat → Prop) : Own d e w base ok (.slice none 0 0) [] :=
  ⟨fun k h => by simp [Value.ownBlock] at h, [], World.ownsRow_nil _ _ _ _, Reps.nil _ _ _⟩
theorem Own.base_le {e : TypeId} {base : Nat} (h : Own d e w base ok v xs) : ∀ k, v.ownBlock = some k → base ≤ k ∧ k < w.heap.size := by
  obtain ⟨_, inner, ho, _⟩ := h
  exact ho.lt
theorem own_move {base : Nat} {e : TypeId} {size n : Nat} {cs : List Value} (h : w.ownsRow base e size v n cs) (hm : ∀ k, v.ownBlock = some k → w1.heap[k]? = w.heap[k]?) : w1.ownsRow base e size v n cs := by
  obtain ⟨h1, h2⟩ := h
  refine ⟨h1, ?_⟩
  rcases h2 with h2 | ⟨g, cap, cur, rfl, hg, hh, r⟩
  · exact .inl h2
  · exact .inr ⟨g, cap, cur, rfl, hg, (hm g (by simp [Value.ownBlock])).trans hh, r⟩
theorem Own.mono {e : TypeId} {base : Nat} (h : Own d e w base ok v xs) (hok : ∀ k, ok k → ok' k) : Own d e w base ok' v xs := by
  obtain ⟨h0, inner, ho, hr⟩ := h
  exact ⟨fun k hk => hok k (h0 k hk), inner, ho, hr.mono (fun k hk => ⟨hok k hk.1, hk.2⟩)⟩
theorem Own.lower {e : TypeId} {base base' : Nat} (h : Own d e w base ok v xs) (hb : base' ≤ base) : Own d e w base' ok v xs := by
  obtain ⟨h0, inner, ho, hr⟩ := h
  refine ⟨h0, inner, ⟨ho.1, ?_⟩, hr⟩
  rcases ho.2 with h2 | ⟨g, cap, cur, rfl, hg, r⟩
  · exact .inl h2
  · exact .inr ⟨g, cap, cur, rfl, Nat.le_trans hb hg, r⟩
theorem Own.bound {e : TypeId} {base : Nat} (h : Own d e w base ok v xs) : Own d e w base (fun k => ok k ∧ k < w.heap.size) v xs := by
  have hb := h.base_le
  obtain ⟨h0, inner, ho, hr⟩ := h
  exact ⟨fun k hk => ⟨h0 k hk, (hb k hk).2⟩, inner, ho, hr.bound.mono (fun k hk => ⟨⟨hk.1.1, hk.2⟩, hk.1.2⟩)⟩
theorem Own.move {e : TypeId} {base : Nat} (h : Own d e w base ok v xs) (hm : ∀ k, ok k → w1.heap[k]? = w.heap[k]?) : Own d e w1 base ok v xs := by
  obtain ⟨h0, inner, ho, hr⟩ := h
  exact ⟨h0, inner, own_move ho (fun k hk => hm k (h0 k hk)), hr.move (fun k hk => hm k hk.1)⟩
theorem Own.ext {e : TypeId} {base : Nat} {M : Nat → Prop} (h : Own d e w base ok v xs) (he : Ext M w w1) (hm : ∀ k, ok k → k < w.heap.size → ¬ M k) : Own d e w1 base ok v xs :=
  ((h.bound).move (fun k hk => he.block k hk.2 (hm k hk.1 hk.2))).mono (fun _ hk => hk.1)
theorem Own.ext0 {e : TypeId} {base : Nat} (h : Own d e w base ok v xs) (he : Ext Non w w1) : Own d e w1 base ok v xs := h.ext he (fun _ _ _ e => e)
theorem Own.rd {e : TypeId} {base : Nat} (h : Own d e w base ok v xs) : Rd d w ok v xs := by
  have hb := h.base_le
  obtain ⟨h0, inner, ho, hr⟩ := h
  rcases ho.2 with ⟨rfl, h2⟩ | ⟨g, cap, cur, rfl, hg, hh, hc, hm, hsz, htake⟩
  · have : xs = [] := List.eq_nil_of_length_eq_zero h2
    subst this
    exact Rd.nil _ _ _
  · refine Rd.of_inner (hr.mono (fun _ hk => hk.1)) (h0 g rfl) (hb g rfl).2 hc (by simpa [maxLen] using hm) (fun j u hu => ?_)
    rw [Nat.zero_add, cell_of_row w g j cur e (0, 0) hh]
    rw [← htake, List.getElem?_take] at hu
    split at hu
    · simpa using hu
    · cases hu
theorem Own.slice {e : TypeId} {base : Nat} (h : Own d e w base ok v xs) : ∃ A c, v = .slice A xs.length c ∧ xs.length ≤ c ∧ xs.length ≤ 9223372036854775807 := h.rd.slice
/-- A literal. -/
theorem Own.lit {e : TypeId} {base : Nat} (hr : Reps d w ok xs inner) (hb : base ≤ w.heap.size) (hm : xs.length ≤ 9223372036854775807) (hok : ok w.heap.size) :
    Own d e (w.alloc (.cells inner.toArray e)) base ok (.slice (some ⟨w.heap.size, 0, none⟩) xs.length xs.length) xs := by
  have h := World.ownsRow_lit (base := base) (e := e) (size := d.sz) w inner.toArray xs.length hb (by simpa [maxLen] using hm) (by simpa using hr.1)
  refine ⟨fun k hk => by simp [Value.ownBlock] at hk; subst hk; exact hok, inner, by simpa using h, ?_⟩
  refine (hr.bound.move (fun k hk => Below.heap_alloc _ _ _ hk.2)).mono (fun k hk => ⟨hk.1, fun e => ?_⟩)
  simp [Value.ownBlock] at e
  omega
end

theorem Rd.lit_at {α : Type} {d : Kd α} {w : World} {ok : Nat → Prop} {g : Nat} {cs : List Value} {x : α} {e : TypeId} {fr : Nat × Nat} (hb : w.heap[g]? = some (.cells cs.toArray e fr)) (hk : d.K w ok x cs) (hg : ok g) : Rd d w ok (.slice (some ⟨g, 0, none⟩) 1 1) [x] :=
  Rd.of_inner (Reps.single hk) hg (blk_lt hb) (Nat.le_refl _) (by simp) (fun j u hu => by rw [Nat.zero_add, cell_of_row w g j _ e fr hb]; simpa using hu)

theorem flatMap_drop_take {α : Type} (enc : α → List Value) (sz : Nat) (hl : ∀ x, (enc x).length = sz) : ∀ (xs : List α) (j : Nat) (x : α), xs[j]? = some x → ((xs.flatMap enc).drop (j * sz)).take sz = enc x
  | [], j, x, h => by simp at h
  | y :: ys, 0, x, h => by
    simp only [List.getElem?_cons_zero, Option.some.injEq] at h
    subst h
    rw [Nat.zero_mul, List.drop_zero, List.flatMap_cons, List.take_append_of_le_length (by rw [hl]; exact Nat.le_refl _), List.take_of_length_le (by rw [hl]; exact Nat.le_refl _)]
  | y :: ys, j + 1, x, h => by
    rw [List.getElem?_cons_succ] at h
    rw [List.flatMap_cons, show (j + 1) * sz = sz + j * sz from by rw [Nat.succ_mul, Nat.add_comm], ← List.drop_drop, List.drop_append_of_le_length (by rw [hl]; exact Nat.le_refl _), show List.drop sz (enc y) = [] from List.drop_eq_nil_of_le (by rw [hl]; exact Nat.le_refl _), List.nil_append]
    exact flatMap_drop_take enc sz hl ys j x h
theorem flatMap_length {α : Type} (enc : α → List Value) (sz : Nat) (hl : ∀ x, (enc x).length = sz) : ∀ (xs : List α), (xs.flatMap enc).length = xs.length * sz
  | [] => by simp
  | y :: ys => by rw [List.flatMap_cons, List.length_append, hl, flatMap_length enc sz hl ys, List.length_cons, Nat.succ_mul, Nat.add_comm]

section
variable {α : Type} {sz : Nat} {enc : α → List Value} {hl : ∀ x, (enc x).length = sz} {h1 : ∀ x, ∀ u ∈ enc x, u.oneCell' = true} {w : World} {ok : Nat → Prop}
theorem Reps.flat (xs : List α) : Reps (Kd.flat sz enc hl h1) w ok xs (xs.flatMap enc) :=
  ⟨flatMap_length enc sz hl xs, fun j x hj => flatMap_drop_take enc sz hl xs j x hj⟩
theorem Reps.of_flat : ∀ {xs : List α} {inner : List Value}, Reps (Kd.flat sz enc hl h1) w ok xs inner → inner = xs.flatMap enc
  | [], inner, h => by
    have := h.1
    simp at this
    rw [this]; rfl
  | y :: ys, inner, h => by
    have e0 : inner.take sz = enc y := by
      have := h.2 0 y rfl
      rw [Nat.zero_mul, List.drop_zero] at this
      exact this
    have e1 : inner.drop sz = ys.flatMap enc := Reps.of_flat (xs := ys) ⟨by
        have hh := h.1
        rw [List.length_cons, Nat.succ_mul] at hh
        rw [List.length_drop, hh]
        show _ = ys.length * sz
        exact Nat.add_sub_cancel _ _, fun j x hj => by
        have := h.2 (j + 1) x (by simpa using hj)
        show ((inner.drop sz).drop (j * sz)).take sz = enc x
        rw [List.drop_drop, Nat.add_comm, ← Nat.succ_mul]
        exact this⟩
    rw [List.flatMap_cons, ← e0, ← e1, List.take_append_drop]
end
theorem Rd.flat_at {α : Type} {sz : Nat} {enc : α → List Value} {hl : ∀ x, (enc x).length = sz} {h1 : ∀ x, ∀ u ∈ enc x, u.oneCell' = true} {w : World} {ok : Nat → Prop} {A : Option Addr} {n c : Nat} {xs : List α}
    (h : Rd (Kd.flat sz enc hl h1) w ok (.slice A n c) xs) {k : Nat} {x : α} (hx : xs[k]? = some x) :
    ∃ g off, A = some ⟨g, off, none⟩ ∧ ok g ∧ g < w.heap.size ∧ ∀ i u, (enc x)[i]? = some u → w.cell? ⟨g, off + k * sz + i, none⟩ = some u := by
  obtain ⟨A', c', he, hc, hm, hr⟩ := h
  simp only [Value.slice.injEq] at he
  obtain ⟨rfl, _, rfl⟩ := he
  have hlt := (List.getElem?_eq_some_iff.1 hx).1
  obtain ⟨g, off, rfl, hg, hgl, hx'⟩ := hr (by omega)
  obtain ⟨cs, hk, hcs⟩ := hx' _ _ hx
  have hk' : cs = enc x := hk
  subst hk'
  refine ⟨g, off, rfl, hg, hgl, fun i u hu => ?_⟩
  have := hcs i u hu
  rw [← Nat.add_assoc] at this
  exact this

/-- One's own row of a flat kind, as a block. -/
structure Blk {α : Type} (sz : Nat) (enc : α → List Value) (e : TypeId) (w : World) (base : Nat) (ok : Nat → Prop) (g c : Nat) (xs : List α) (cur : Array Value) : Prop where
  okg : ok g
  basele : base ≤ g
  blk : w.heap[g]? = some (.cells cur e (0, 0))
  len : xs.length ≤ c
  cap : c ≤ maxLen
  size : cur.size = c * sz
  take : cur.toList.take (xs.length * sz) = xs.flatMap enc
theorem Own.to_blk {α : Type} {sz : Nat} {enc : α → List Value} {hl : ∀ x, (enc x).length = sz} {h1 : ∀ x, ∀ u ∈ enc x, u.oneCell' = true} {e : TypeId} {w : World} {base : Nat} {ok : Nat → Prop} {g n c : Nat} {xs : List α}
    (h : Own (Kd.flat sz enc hl h1) e w base ok (.slice (some ⟨g, 0, none⟩) n c) xs) : n = xs.length ∧ ∃ cur, Blk sz enc e w base ok g c xs cur := by
  obtain ⟨h0, inner, ho, hr⟩ := h
  rcases ho.2 with ⟨h2, _⟩ | ⟨g', cap, cur, h2, hb, hg, hnc, hcm, hcs, htake⟩
  · simp at h2
  · simp only [Value.slice.injEq, Option.some.injEq, Addr.mk.injEq, and_true] at h2
    obtain ⟨rfl, rfl, rfl⟩ := h2
    exact ⟨rfl, cur, h0 _ rfl, hb, hg, hnc, hcm, hcs, htake.trans hr.of_flat⟩
theorem Own.of_blk {α : Type} {sz : Nat} {enc : α → List Value} {hl : ∀ x, (enc x).length = sz} {h1 : ∀ x, ∀ u ∈ enc x, u.oneCell' = true} {e : TypeId} {w : World} {base : Nat} {ok : Nat → Prop} {g c : Nat} {xs : List α} {cur : Array Value}
    (h : Blk sz enc e w base ok g c xs cur) : Own (Kd.flat sz enc hl h1) e w base ok (.slice (some ⟨g, 0, none⟩) xs.length c) xs :=
  ⟨fun k hk => by simp [Value.ownBlock] at hk; subst hk; exact h.okg, xs.flatMap enc, ⟨flatMap_length enc sz hl xs, .inr ⟨g, c, cur, rfl, h.basele, h.blk, h.len, h.cap, h.size, h.take⟩⟩, Reps.flat xs⟩

/-- append(v, x..): both are slices; v is one's own. -/
theorem run_append {α : Type} {P : Program} (d : Kd α) {w : World} {ok : Nat → Prop} {v vx : Value} {xs ys : List α} (base : Nat) (t ty e : TypeId) (z : Value) (bytes : Nat)
    (ht : P.underlying t = some (.slice e)) (hinfo : (P.info? e).map (fun i => (i.zero, i.size, i.bytes)) = some (some z, d.sz, bytes)) (hz : z.cells.size = d.sz) (hs0 : 0 < d.sz)
    (hown : Own d e w base ok v xs) (hy : Rd d w (fun k => ok k ∧ some k ≠ v.ownBlock) vx ys) (hfresh : ∀ k, w.heap.size ≤ k → ok k) (hl : (xs.length + ys.length) * bytes ≤ 140737488355328) (hb1 : xs.length + ys.length ≤ 9223372036854775807) (hbase : base ≤ w.heap.size) :
    ∃ v' w', (Builtin.append_ #[t, t] ty #[v, vx]).run P w = .ok v' w' ∧ Own d e w' base ok v' (xs ++ ys) ∧ Ext (fun k => some k = v.ownBlock) w w' ∧ (v'.ownBlock = v.ownBlock ∨ ∃ b, v'.ownBlock = some b ∧ w.heap.size ≤ b) := by
  obtain ⟨i0, hi, hzz⟩ := Option.map_eq_some_iff.1 hinfo
  simp only [Prod.mk.injEq] at hzz
  obtain ⟨hz0, hz1, hz2⟩ := hzz
  have hbl := hown.base_le
  obtain ⟨A, c, rfl, hc, hm⟩ := hy.slice
  obtain ⟨_, iy, hry, hcell⟩ := hy.cells_
  obtain ⟨h0, ix, ho, hrx⟩ := hown
  rcases Nat.eq_zero_or_pos ys.length with hy0 | hy0
  · have : ys = [] := List.eq_nil_of_length_eq_zero hy0
    subst this
    refine ⟨v, w, ?_, by rw [List.append_nil]; exact ⟨h0, ix, ho, hrx⟩, Ext.refl _ _, .inl rfl⟩
    rcases ho.2 with ⟨rfl, hn⟩ | ⟨g, cap, cur, rfl, _, _, hnc, _⟩
    · cases A <;> simp [Builtin.append_, run_underlying ht, sizeOf, typeInfo, hi, Builtin.lenOf, Builtin.firstCells, loadCells, loadCellsFrom]
    · cases A <;> simp [Builtin.append_, run_underlying ht, sizeOf, typeInfo, hi, Builtin.lenOf, Builtin.firstCells, loadCells, loadCellsFrom, hnc, storeCells]
  · obtain ⟨g, off, rfl, hg, hlt, hcl⟩ := hcell hy0
    obtain ⟨v', w', hr, ho', hgr, hnil, hat⟩ := run_append_own_at (P := P) w base t ty e i0 z d.sz bytes ht hi hz0 hz1 hz2 hz hs0 v xs.length ix ho ⟨g, off, none⟩ ys.length c iy hry.1 (fun j u hu => by
      have hadd : (⟨g, off, none⟩ : Addr).add j = ⟨g, off + j, none⟩ := by unfold Addr.add; split <;> simp_all
      rw [hadd]; exact hcl j u hu) hry.one_ (by simpa [maxLen] using hb1) hl hbase
    have hblk : v'.ownBlock = v.ownBlock ∨ ∃ b, v'.ownBlock = some b ∧ w.heap.size ≤ b := by
      rcases hat with hat | hat
      · exact .inl hat
      · exact .inr ⟨_, hat, Nat.le_refl _⟩
    refine ⟨v', w', hr, ⟨?_, ix ++ iy, by rw [List.length_append]; exact ho', ?_⟩, ?_, hblk⟩
    · intro k hk
      rcases hblk with e1 | ⟨b, e1, e2⟩
      · exact h0 k (by rw [← e1]; exact hk)
      · rw [e1] at hk
        cases hk
        exact hfresh _ e2
    · have hrx' : Reps d w (fun k => ok k ∧ some k ≠ v.ownBlock) ys iy := hry
      have := (hrx.append hrx').bound.move (w1 := w') (fun k hk => hgr.block k hk.2 hk.1.2)
      refine this.mono (fun k hk => ⟨hk.1.1, fun e1 => ?_⟩)
      rcases hblk with e2 | ⟨b, e2, e3⟩
      · exact hk.1.2 (e1.trans e2)
      · rw [e2] at e1
        cases e1
        have := hk.2
        omega
    · exact ⟨hgr.os, hgr.tape, hgr.output, hgr.size, fun k hk hn => hgr.block k hk hn⟩

theorem wpList_app {α : Type} {P : Program} (d : Kd α) {w : World} {ops : Array Oper} {rest : List Oper} {o : Oper} {a : Act} {Q : Exit → Act → World → Prop} {ok : Nat → Prop} {v vx : Value} {xs ys : List α} (base : Nat)
    (hgd : o.guard = none) (s x : Operand) (t e : TypeId) (z : Value) (bytes : Nat) (ho : o.op = .call { callee := .builtin .append, args := #[s, x], argTypes := #[t, t] })
    (ht : P.underlying t = some (.slice e)) (hinfo : (P.info? e).map (fun i => (i.zero, i.size, i.bytes)) = some (some z, d.sz, bytes)) (hz : z.cells.size = d.sz) (hs0 : 0 < d.sz)
    (hs : a.eval s = v) (hx : a.eval x = vx)
    (hown : Own d e w base ok v xs) (hy : Rd d w (fun k => ok k ∧ some k ≠ v.ownBlock) vx ys) (hfresh : ∀ k, w.heap.size ≤ k → ok k) (hl : (xs.length + ys.length) * bytes ≤ 140737488355328) (hb1 : xs.length + ys.length ≤ 9223372036854775807) (hbase : base ≤ w.heap.size)
    (h : ∀ v' w', Own d e w' base ok v' (xs ++ ys) → Ext (fun k => some k = v.ownBlock) w w' → (v'.ownBlock = v.ownBlock ∨ ∃ b, v'.ownBlock = some b ∧ w.heap.size ≤ b) → wpList P ops Q rest (a.put o.dst v') w') : wpList P ops Q (o :: rest) a w := by
  obtain ⟨v', w', hr, h1, h2, h3⟩ := run_append (P := P) d base t o.type e z bytes ht hinfo hz hs0 hown hy hfresh hl hb1 hbase
  refine wpList_plain hgd fun K hK => ?_
  unfold Oper.wp execOp
  simp only [ho, resolve, invoke, builtin, Sem.run_bind, Sem.run_pure, Result.andThen_ok, List.map_toArray, List.map_cons, List.map_nil, hs, hx, hr]
  exact hK _ _ (h v' w' h1 h2 h3)

/-- The same as a step of a region that draws. -/
theorem step_app {α : Type} {P : Program} (d : Kd α) {w : World} {ops : Array Oper} {o : Oper} {a : Act} {K : Act → World → Prop} {Q : Exit → Act → World → Prop} {E : Prop} {ok : Nat → Prop} {v vx : Value} {xs ys : List α} (base : Nat)
    (hgd : o.guard = none) (s x : Operand) (t e : TypeId) (z : Value) (bytes : Nat) (ho : o.op = .call { callee := .builtin .append, args := #[s, x], argTypes := #[t, t] })
    (ht : P.underlying t = some (.slice e)) (hinfo : (P.info? e).map (fun i => (i.zero, i.size, i.bytes)) = some (some z, d.sz, bytes)) (hz : z.cells.size = d.sz) (hs0 : 0 < d.sz)
    (hs : a.eval s = v) (hx : a.eval x = vx)
    (hown : Own d e w base ok v xs) (hy : Rd d w (fun k => ok k ∧ some k ≠ v.ownBlock) vx ys) (hfresh : ∀ k, w.heap.size ≤ k → ok k) (hl : (xs.length + ys.length) * bytes ≤ 140737488355328) (hb1 : xs.length + ys.length ≤ 9223372036854775807) (hbase : base ≤ w.heap.size)
    (h : ∀ v' w', Own d e w' base ok v' (xs ++ ys) → Ext (fun k => some k = v.ownBlock) w w' → (v'.ownBlock = v.ownBlock ∨ ∃ b, v'.ownBlock = some b ∧ w.heap.size ≤ b) → K (a.put o.dst v') w') :
    if Region.wanted o (yielded ops a.tmps) = true then Oper.wp P o a w K Q else E := by
  rw [if_pos (by simp [Region.wanted, hgd])]
  obtain ⟨v', w', hr, h1, h2, h3⟩ := run_append (P := P) d base t o.type e z bytes ht hinfo hz hs0 hown hy hfresh hl hb1 hbase
  unfold Oper.wp execOp
  simp only [ho, resolve, invoke, builtin, Sem.run_bind, Sem.run_pure, Result.andThen_ok, List.map_toArray, List.map_cons, List.map_nil, hs, hx, hr]
  exact h v' w' h1 h2 h3

/-- A builtin's run, as a step of a region that draws. -/
theorem step_run_append {P : Program} {w w' : World} {ops : Array Oper} {o : Oper} {a : Act} {K : Act → World → Prop} {Q : Exit → Act → World → Prop} {E : Prop} {v vx v' : Value}
    (hgd : o.guard = none) (s x : Operand) (t1 t2 : TypeId) (ho : o.op = .call { callee := .builtin .append, args := #[s, x], argTypes := #[t1, t2] })
    (hs : a.eval s = v) (hx : a.eval x = vx) (hr : (Builtin.append_ #[t1, t2] o.type #[v, vx]).run P w = .ok v' w') (h : K (a.put o.dst v') w') :
    if Region.wanted o (yielded ops a.tmps) = true then Oper.wp P o a w K Q else E := by
  rw [if_pos (by simp [Region.wanted, hgd])]
  unfold Oper.wp execOp
  simp only [ho, resolve, invoke, builtin, Sem.run_bind, Sem.run_pure, Result.andThen_ok, List.map_toArray, List.map_cons, List.map_nil, hs, hx, hr]
  exact h

end Go.TM
