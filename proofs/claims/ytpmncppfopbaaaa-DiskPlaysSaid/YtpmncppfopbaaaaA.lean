/- Kinds that lead on: acts, calls; an append onto a full slice. No program in sight. -/
import Derived.Test.YtpmncppfopbaaaaP
import Derived.ArgAppend
namespace Go.TM
open Go.RowKit
theorem Rd.move' {α : Type} {d : Kd α} {w w1 : World} {ok : Nat → Prop} {v : Value} {xs : List α} (h : Rd d w ok v xs) (hm : ∀ k, ok k → w1.heap[k]? = w.heap[k]?) : Rd d w1 ok v xs := by
  obtain ⟨A, c, rfl, hc, hm', hr⟩ := h
  refine ⟨A, c, rfl, hc, hm', fun h0 => ?_⟩
  obtain ⟨g, off, rfl, hg, hlt, hx⟩ := hr h0
  have hlt1 : g < w1.heap.size := by
    have h1 := hm g hg
    rw [Array.getElem?_eq_getElem hlt] at h1
    exact (Array.getElem?_eq_some_iff.1 h1).1
  refine ⟨g, off, rfl, hg, hlt1, fun j x hj => let ⟨cs, hk, hcs⟩ := hx j x hj; ⟨cs, d.move hm hk, fun i u hu => ?_⟩⟩
  exact (World.cell?_of_block (w := w) (a := ⟨g, off + (j * d.sz + i), none⟩) (hm g hg)).trans (hcs i u hu)
theorem rd_abs {α : Type} {d : Kd α} {w : World} {ok : Nat → Prop} {v : Value} {xs : List α} (h : Rd d w ok v xs) : ∃ A n c, v = .slice A n c ∧ n = xs.length := by
  obtain ⟨A, c, h1, _, _⟩ := h.slice
  exact ⟨A, _, c, h1, rfl⟩
theorem rd_one {w : World} {ok : Nat → Prop} {v : Value} {b : List UInt8} (h : Rd Kd.u8 w ok v b) : v.oneCell' = true := by
  obtain ⟨A, c, rfl, _⟩ := h.slice
  rfl
/-- Acts. -/
def actK : Kd DAct where
  sz := 2
  K := fun w ok x cs => ∃ v, cs = [.int .i64 x.kind, v] ∧ Rd Kd.u8 w ok v x.b
  len := fun ⟨_, h, _⟩ => by rw [h]; rfl
  one := fun ⟨v, h, hr⟩ u hu => by
    rw [h] at hu
    simp only [List.mem_cons, List.not_mem_nil, or_false] at hu
    rcases hu with rfl | rfl
    · rfl
    · exact rd_one hr
  mono := fun hok ⟨v, h, hr⟩ => ⟨v, h, hr.mono hok⟩
  bound := fun ⟨v, h, hr⟩ => ⟨v, h, hr.bound⟩
  move := fun hm ⟨v, h, hr⟩ => ⟨v, h, hr.move' hm⟩
/-- Calls. -/
def callK : Kd Call where
  sz := 5
  K := fun w ok x cs => ∃ v, cs = [.int .i64 x.op, .int .i64 x.i, .int .i64 x.keep, .int .i64 x.tear, v] ∧ Rd Kd.u8 w ok v x.b
  len := fun ⟨_, h, _⟩ => by rw [h]; rfl
  one := fun ⟨v, h, hr⟩ u hu => by
    rw [h] at hu
    simp only [List.mem_cons, List.not_mem_nil, or_false] at hu
    rcases hu with rfl | rfl | rfl | rfl | rfl
    · rfl
    · rfl
    · rfl
    · rfl
    · exact rd_one hr
  mono := fun hok ⟨v, h, hr⟩ => ⟨v, h, hr.mono hok⟩
  bound := fun ⟨v, h, hr⟩ => ⟨v, h, hr.bound⟩
  move := fun hm ⟨v, h, hr⟩ => ⟨v, h, hr.move' hm⟩
/-- The cells of an element. -/
theorem Rd.at_ {α : Type} {d : Kd α} {w : World} {ok : Nat → Prop} {A : Option Addr} {n c : Nat} {xs : List α} (h : Rd d w ok (.slice A n c) xs) {j : Nat} {x : α} (hx : xs[j]? = some x) :
    ∃ g off cs, A = some ⟨g, off, none⟩ ∧ ok g ∧ g < w.heap.size ∧ d.K w ok x cs ∧ ∀ i u, cs[i]? = some u → w.cell? ⟨g, off + (j * d.sz + i), none⟩ = some u := by
  obtain ⟨A', c', he, hc, hm, hr⟩ := h
  simp only [Value.slice.injEq] at he
  obtain ⟨rfl, _, rfl⟩ := he
  have hlt := (List.getElem?_eq_some_iff.1 hx).1
  obtain ⟨g, off, rfl, hg, hgl, hx'⟩ := hr (by omega)
  obtain ⟨cs, hk, hcs⟩ := hx' _ _ hx
  exact ⟨g, off, cs, rfl, hg, hgl, hk, hcs⟩

theorem Rd.full {α : Type} {d : Kd α} {w : World} {ok : Nat → Prop} {A : Option Addr} {n c : Nat} {xs : List α} (h : Rd d w ok (.slice A n c) xs) : Rd d w ok (.slice A n n) xs := by
  obtain ⟨A', c', he, hc, hm, hr⟩ := h
  simp only [Value.slice.injEq] at he
  obtain ⟨rfl, rfl, rfl⟩ := he
  exact ⟨A, _, rfl, Nat.le_refl _, by omega, hr⟩
theorem Rd.take {α : Type} {d : Kd α} {w : World} {ok : Nat → Prop} {A : Option Addr} {n c : Nat} {xs : List α} (h : Rd d w ok (.slice A n c) xs) {k : Nat} (hk : k ≤ xs.length) : Rd d w ok (.slice A k c) (xs.take k) := by
  obtain ⟨A', c', he, hc, hm, hr⟩ := h
  simp only [Value.slice.injEq] at he
  obtain ⟨rfl, rfl, rfl⟩ := he
  have hl : (xs.take k).length = k := by rw [List.length_take]; omega
  refine ⟨A, c, by rw [hl], by omega, hm, fun h0 => ?_⟩
  obtain ⟨g, off, rfl, hg, hlt, hx⟩ := hr (by omega)
  refine ⟨g, off, rfl, hg, hlt, fun j x hj => ?_⟩
  have hjk : j < k := by have := (List.getElem?_eq_some_iff.1 hj).1; omega
  rw [List.getElem?_take_of_lt hjk] at hj
  exact hx j x hj
theorem Rd.drop {α : Type} {d : Kd α} {w : World} {ok : Nat → Prop} {g off n c : Nat} {xs : List α} (h : Rd d w ok (.slice (some ⟨g, off, none⟩) n c) xs) {k : Nat} (hk : k ≤ xs.length) :
    Rd d w ok (.slice (if c = k then some ⟨g, off, none⟩ else some ⟨g, off + k * d.sz, none⟩) (n - k) (c - k)) (xs.drop k) := by
  obtain ⟨A', c', he, hc, hm, hr⟩ := h
  simp only [Value.slice.injEq] at he
  obtain ⟨rfl, rfl, rfl⟩ := he
  have hl : (xs.drop k).length = xs.length - k := by rw [List.length_drop]
  refine ⟨_, c - k, by rw [hl], by omega, by omega, fun h0 => ?_⟩
  obtain ⟨g', off', he, hg, hlt, hx⟩ := hr (by omega)
  simp only [Option.some.injEq, Addr.mk.injEq, and_true] at he
  obtain ⟨rfl, rfl⟩ := he
  refine ⟨g, off + k * d.sz, by rw [if_neg (by omega)], hg, hlt, fun j x hj => ?_⟩
  rw [List.getElem?_drop] at hj
  obtain ⟨cs, h1, h2⟩ := hx _ x hj
  refine ⟨cs, h1, fun i u hu => ?_⟩
  have := h2 i u hu
  rwa [Nat.add_mul, show off + (k * d.sz + j * d.sz + i) = off + k * d.sz + (j * d.sz + i) from by omega] at this
theorem boxes2 (w : World) (o1 o2 : Obj) : ∃ W, (w.alloc o1).alloc o2 = W ∧ W.heap[w.heap.size]? = some o1 ∧ W.heap[w.heap.size + 1]? = some o2 ∧ Ext Non w W ∧ W.heap.size = w.heap.size + 2 := by
  refine ⟨_, rfl, blk_alloc (heap_alloc_new w _) _, ?_, ((Ext.refl _ _).alloc _).alloc _, by simp⟩
  have := heap_alloc_new (w.alloc o1) o2
  simpa using this
theorem boxes3 (w : World) (o1 o2 o3 : Obj) : ∃ W, ((w.alloc o1).alloc o2).alloc o3 = W ∧ W.heap[w.heap.size]? = some o1 ∧ W.heap[w.heap.size + 1]? = some o2 ∧ W.heap[w.heap.size + 1 + 1]? = some o3 ∧ Ext Non w W ∧ W.heap.size = w.heap.size + 3 := by
  obtain ⟨W, rfl, b0, b1, e, z⟩ := boxes2 w o1 o2
  refine ⟨_, rfl, blk_alloc b0 _, blk_alloc b1 _, ?_, e.alloc _, by simp⟩
  have := heap_alloc_new ((w.alloc o1).alloc o2) o3
  rw [z] at this
  exact this
theorem Ext.of_grown {w w' : World} (h : w.grownBy w' none) : Ext Non w w' := ⟨h.os, h.tape, h.output, h.size, fun k hk _ => h.block k hk (by simp)⟩

section
variable {α : Type} {P : Program}
/-- append(v, x..): v is full, so a new row is made; or nothing is appended. -/
theorem run_append_full (d : Kd α) {w : World} {ok : Nat → Prop} {A : Option Addr} {n : Nat} {vx : Value} {xs ys : List α} (t ty e : TypeId) (z : Value) (bytes : Nat)
    (ht : P.underlying t = some (.slice e)) (hinfo : (P.info? e).map (fun i => (i.zero, i.size, i.bytes)) = some (some z, d.sz, bytes)) (hz : z.cells.size = d.sz) (hs0 : 0 < d.sz)
    (hx : Rd d w ok (.slice A n n) xs) (hy : Rd d w ok vx ys) (hfresh : ∀ k, w.heap.size ≤ k → ok k) (hl : (xs.length + ys.length) * bytes ≤ 140737488355328) (hb1 : xs.length + ys.length ≤ 9223372036854775807) :
    ∃ v' w', (Builtin.append_ #[t, t] ty #[.slice A n n, vx]).run P w = .ok v' w' ∧ Rd d w' ok v' (xs ++ ys) ∧ Ext Non w w' := by
  obtain ⟨i0, hi, hzz⟩ := Option.map_eq_some_iff.1 hinfo
  simp only [Prod.mk.injEq] at hzz
  obtain ⟨hz0, hz1, hz2⟩ := hzz
  obtain ⟨Ay, cy, rfl, hcy, hmy⟩ := hy.slice
  obtain ⟨rfl, ix, hrx, hcx⟩ := hx.cells_
  rcases Nat.eq_zero_or_pos ys.length with hy0 | hy0
  · have : ys = [] := List.eq_nil_of_length_eq_zero hy0
    subst this
    refine ⟨.slice A xs.length xs.length, w, ?_, by rw [List.append_nil]; exact hx, Ext.refl _ _⟩
    cases A <;> cases Ay <;> simp [Builtin.append_, run_underlying ht, sizeOf, typeInfo, hi, Builtin.lenOf, Builtin.firstCells, loadCells, loadCellsFrom, storeCells]
  · obtain ⟨_, iy, hry, hcell⟩ := hy.cells_
    obtain ⟨gy, offy, rfl, hgy, hlty, hcly⟩ := hcell hy0
    have hadd : ∀ (g off j : Nat), (⟨g, off, none⟩ : Addr).add j = ⟨g, off + j, none⟩ := fun g off j => by unfold Addr.add; split <;> simp_all
    have done : ∀ v' w', w'.ownsRow w.heap.size e d.sz v' (xs.length + ys.length) (ix ++ iy) → Ext Non w w' → Rd d w' ok v' (xs ++ ys) := by
      intro v' w' ho hE
      have hr : Reps d w' (fun k => ok k ∧ some k ≠ v'.ownBlock) (xs ++ ys) (ix ++ iy) := by
        refine ((hrx.append hry).bound.move (w1 := w') (fun k hk => hE.block k hk.2 (fun e => e))).mono (fun k hk => ⟨hk.1, fun e1 => ?_⟩)
        have := (ho.lt k e1.symm).1
        have := hk.2
        omega
      exact Own.rd (e := e) (base := w.heap.size) ⟨fun k hk => hfresh k (ho.lt k hk).1, _, by rw [List.length_append]; exact ho, hr⟩
    cases A with
    | none =>
      have h0 : xs.length = 0 := by
        rcases Nat.eq_zero_or_pos xs.length with h | h
        · exact h
        · obtain ⟨g, off, h1, _⟩ := hcx h
          cases h1
      have hxn : xs = [] := List.eq_nil_of_length_eq_zero h0
      subst hxn
      obtain ⟨v', w', hr, h1, h2, _⟩ := run_append (P := P) d (w := w) (ok := ok) (v := .slice none 0 0) (vx := .slice (some ⟨gy, offy, none⟩) ys.length cy) (xs := []) (ys := ys) w.heap.size t ty e z bytes ht hinfo hz hs0 (Own.nil _ _ _ _ _) (hy.mono (fun k hk => ⟨hk, by simp [Value.ownBlock]⟩)) hfresh hl hb1 (Nat.le_refl _)
      exact ⟨v', w', hr, h1.rd, h2.mono (fun i _ e => by simp [Value.ownBlock] at e)⟩
    | some a =>
      have holds : ∀ j u, ix[j]? = some u → w.cell? (a.add j) = some u := by
        intro j u hj
        rcases Nat.eq_zero_or_pos xs.length with h | h
        · have := hrx.1
          rw [h, Nat.zero_mul] at this
          rw [List.eq_nil_of_length_eq_zero this] at hj
          simp at hj
        · obtain ⟨g, off, h1, _, _, hc⟩ := hcx h
          cases h1
          rw [hadd]
          exact hc j u hj
      obtain ⟨v', w', hr, ho, hg⟩ := run_append_arg_grows (P := P) w t ty e i0 z d.sz bytes ht hi hz0 hz1 hz2 hz hs0 a xs.length xs.length ix hrx.1 holds ⟨gy, offy, none⟩ ys.length cy iy hry.1 (fun j u hj => by rw [hadd]; exact hcly j u hj) (by omega) (by simpa [maxLen] using hb1) hl
      exact ⟨v', w', hr, done v' w' ho (Ext.of_grown hg), Ext.of_grown hg⟩
theorem wpList_full (d : Kd α) {w : World} {ops : Array Oper} {rest : List Oper} {o : Oper} {a : Act} {Q : Exit → Act → World → Prop} {ok : Nat → Prop} {A : Option Addr} {n : Nat} {vx : Value} {xs ys : List α}
    (hgd : o.guard = none) (s x : Operand) (t e : TypeId) (z : Value) (bytes : Nat) (ho : o.op = .call { callee := .builtin .append, args := #[s, x], argTypes := #[t, t] })
    (ht : P.underlying t = some (.slice e)) (hinfo : (P.info? e).map (fun i => (i.zero, i.size, i.bytes)) = some (some z, d.sz, bytes)) (hz : z.cells.size = d.sz) (hs0 : 0 < d.sz)
    (hs : a.eval s = .slice A n n) (hx : a.eval x = vx)
    (hxs : Rd d w ok (.slice A n n) xs) (hy : Rd d w ok vx ys) (hfresh : ∀ k, w.heap.size ≤ k → ok k) (hl : (xs.length + ys.length) * bytes ≤ 140737488355328) (hb1 : xs.length + ys.length ≤ 9223372036854775807)
    (h : ∀ A' n' c' w', Hid (n' = (xs ++ ys).length) → Hid (Rd d w' ok (.slice A' n' c') (xs ++ ys)) → Hid (Ext Non w w') → wpList P ops Q rest (a.put o.dst (.slice A' n' c')) w') : wpList P ops Q (o :: rest) a w := by
  obtain ⟨v', w', hr, h1, h2⟩ := run_append_full (P := P) d t o.type e z bytes ht hinfo hz hs0 hxs hy hfresh hl hb1
  obtain ⟨A', c', rfl, _, _⟩ := h1.slice
  refine wpList_plain hgd fun K hK => ?_
  unfold Oper.wp execOp
  simp only [ho, resolve, invoke, builtin, Sem.run_bind, Sem.run_pure, Result.andThen_ok, List.map_toArray, List.map_cons, List.map_nil, hs, hx, hr]
  exact hK _ _ (h A' _ c' w' rfl h1 h2)
theorem step_full (d : Kd α) {w : World} {ops : Array Oper} {o : Oper} {a : Act} {K : Act → World → Prop} {Q : Exit → Act → World → Prop} {E : Prop} {ok : Nat → Prop} {A : Option Addr} {n : Nat} {vx : Value} {xs ys : List α}
    (hgd : o.guard = none) (s x : Operand) (t e : TypeId) (z : Value) (bytes : Nat) (ho : o.op = .call { callee := .builtin .append, args := #[s, x], argTypes := #[t, t] })
    (ht : P.underlying t = some (.slice e)) (hinfo : (P.info? e).map (fun i => (i.zero, i.size, i.bytes)) = some (some z, d.sz, bytes)) (hz : z.cells.size = d.sz) (hs0 : 0 < d.sz)
    (hs : a.eval s = .slice A n n) (hx : a.eval x = vx)
    (hxs : Rd d w ok (.slice A n n) xs) (hy : Rd d w ok vx ys) (hfresh : ∀ k, w.heap.size ≤ k → ok k) (hl : (xs.length + ys.length) * bytes ≤ 140737488355328) (hb1 : xs.length + ys.length ≤ 9223372036854775807)
    (h : ∀ A' n' c' w', Hid (n' = (xs ++ ys).length) → Hid (Rd d w' ok (.slice A' n' c') (xs ++ ys)) → Hid (Ext Non w w') → K (a.put o.dst (.slice A' n' c')) w') :
    if Region.wanted o (yielded ops a.tmps) = true then Oper.wp P o a w K Q else E := by
  rw [if_pos (by simp [Region.wanted, hgd])]
  obtain ⟨v', w', hr, h1, h2⟩ := run_append_full (P := P) d t o.type e z bytes ht hinfo hz hs0 hxs hy hfresh hl hb1
  obtain ⟨A', c', rfl, _, _⟩ := h1.slice
  unfold Oper.wp execOp
  simp only [ho, resolve, invoke, builtin, Sem.run_bind, Sem.run_pure, Result.andThen_ok, List.map_toArray, List.map_cons, List.map_nil, hs, hx, hr]
  exact h A' _ c' w' rfl h1 h2
end
end Go.TM
