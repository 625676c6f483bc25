/- Rows of one's own as lists of cells; subscribers, as they lie in memory. No program in sight but for types. -/
import Derived.Test.YtdjfijdnhfmeeaaGA
import Derived.Lib.SliceRun
namespace Go.TM
open Go.RowKit

def putAt (cur : Array Value) : Nat → List Value → Array Value
  | _, [] => cur
  | o, v :: r => putAt (cur.setIfInBounds o v) (o + 1) r
theorem row_setCells {g : Nat} {e : TypeId} : ∀ (vs : List Value) (o : Nat) (w : World) (cur : Array Value), w.heap[g]? = some (.cells cur e (0, 0)) → (w.setCells g o vs).heap[g]? = some (.cells (putAt cur o vs) e (0, 0))
  | [], _, _, _, h => h
  | v :: r, o, _, _, h => row_setCells r (o + 1) _ _ (blk_set h o v)
theorem ext_setCells (g : Nat) : ∀ (vs : List Value) (o : Nat) (w : World), Ext (Only g) w (w.setCells g o vs)
  | [], _, w => Ext.refl _ w
  | v :: r, o, w => Ext.trans (Ext.setCell (Ext.refl (Only g) w) (p := ⟨g, o, none⟩) (fun _ => rfl) v) (ext_setCells g r (o + 1) _) (fun _ _ h => h)
theorem putAt_size : ∀ (vs : List Value) (o : Nat) (cur : Array Value), (putAt cur o vs).size = cur.size
  | [], _, _ => rfl
  | v :: r, o, cur => by rw [putAt, putAt_size r (o + 1), Array.size_setIfInBounds]
theorem putAt_list : ∀ (vs Y : List Value) (X Z : List Value) (cur : Array Value), cur.toList = X ++ Y ++ Z → Y.length = vs.length → (putAt cur X.length vs).toList = X ++ vs ++ Z
  | [], Y, X, Z, cur, h, hl => by
    have : Y = [] := List.eq_nil_of_length_eq_zero hl
    subst this
    exact h
  | v :: r, [], X, Z, cur, h, hl => by cases hl
  | v :: r, y :: Y, X, Z, cur, h, hl => by
    have h1 : (cur.setIfInBounds X.length v).toList = (X ++ [v]) ++ Y ++ Z := by
      rw [Array.toList_setIfInBounds, h]
      simp
    have := putAt_list r Y (X ++ [v]) Z (cur.setIfInBounds X.length v) h1 (by simpa using hl)
    rw [List.length_append, List.length_singleton] at this
    rw [putAt, this]
    simp

/-- Elements with their cells. -/
def pairs {α : Type} (sz : Nat) : List α → List Value → List (α × List Value)
  | [], _ => []
  | x :: xs, inner => (x, inner.take sz) :: pairs sz xs (inner.drop sz)
section
variable {α : Type} {d : Kd α} {w w1 : World} {ok ok' : Nat → Prop} {v : Value} {xs : List α}
theorem pairs_spec : ∀ {xs : List α} {inner : List Value}, Reps d w ok xs inner → (pairs d.sz xs inner).map Prod.fst = xs ∧ (pairs d.sz xs inner).flatMap Prod.snd = inner ∧ ∀ z ∈ pairs d.sz xs inner, d.K w ok z.1 z.2
  | [], inner, h => by
    have := h.1
    simp at this
    subst this
    exact ⟨rfl, rfl, fun z hz => by cases hz⟩
  | x :: xs, inner, h => by
    have h0 := h.2 0 x rfl
    rw [Nat.zero_mul, List.drop_zero] at h0
    have hr : Reps d w ok xs (inner.drop d.sz) := ⟨by
        have hh := h.1
        rw [List.length_cons, Nat.succ_mul] at hh
        rw [List.length_drop, hh]
        exact Nat.add_sub_cancel _ _, fun j y hj => by
        have := h.2 (j + 1) y (by simpa using hj)
        rw [List.drop_drop, Nat.add_comm, ← Nat.succ_mul]
        exact this⟩
    obtain ⟨a, b, c⟩ := pairs_spec hr
    refine ⟨by rw [pairs, List.map_cons, a], by rw [pairs, List.flatMap_cons, b, List.take_append_drop], fun z hz => ?_⟩
    rw [pairs] at hz
    rcases List.mem_cons.1 hz with rfl | hz
    · exact h0
    · exact c z hz
theorem Reps.of_pairs : ∀ {zs : List (α × List Value)}, (∀ z ∈ zs, d.K w ok z.1 z.2) → Reps d w ok (zs.map Prod.fst) (zs.flatMap Prod.snd)
  | [], _ => Reps.nil _ _ _
  | z :: zs, h => by
    have := (Reps.single (h z (List.mem_cons_self ..))).append (Reps.of_pairs (zs := zs) (fun y hy => h y (List.mem_cons_of_mem _ hy)))
    simpa using this
/-- A row of one's own, as its cells. -/
structure Prow (d : Kd α) (e : TypeId) (w : World) (ok : Nat → Prop) (g c : Nat) (cur : Array Value) (zs : List (α × List Value)) (T : List Value) : Prop where
  okg : ok g
  blk : w.heap[g]? = some (.cells cur e (0, 0))
  cap : c ≤ maxLen
  size : cur.size = c * d.sz
  list : cur.toList = zs.flatMap Prod.snd ++ T
  at_ : ∀ z ∈ zs, d.K w (fun k => ok k ∧ k ≠ g) z.1 z.2
theorem flatMap_len {zs : List (α × List Value)} (h : ∀ z ∈ zs, d.K w ok z.1 z.2) : (zs.flatMap Prod.snd).length = zs.length * d.sz := by
  have := (Reps.of_pairs h).1
  simpa using this
theorem Prow.le {e : TypeId} {g c : Nat} {cur : Array Value} {zs : List (α × List Value)} {T : List Value} (h : Prow d e w ok g c cur zs T) (hs : 0 < d.sz) : zs.length ≤ c := by
  have h1 := congrArg List.length h.list
  rw [List.length_append, flatMap_len h.at_, Array.length_toList, h.size] at h1
  exact Nat.le_of_mul_le_mul_right (by omega) hs
theorem Own.to_prow {e : TypeId} {base g n c : Nat} (h : Own d e w base ok (.slice (some ⟨g, 0, none⟩) n c) xs) : n = xs.length ∧ base ≤ g ∧ ∃ cur zs T, zs.map Prod.fst = xs ∧ Prow d e w ok g c cur zs T := by
  obtain ⟨h0, inner, ho, hr⟩ := h
  rcases ho.2 with ⟨h2, _⟩ | ⟨g', cap, cur, h2, hb, hg, hnc, hcm, hcs, htake⟩
  · simp at h2
  · simp only [Value.slice.injEq, Option.some.injEq, Addr.mk.injEq, and_true] at h2
    obtain ⟨rfl, rfl, rfl⟩ := h2
    obtain ⟨a, b, c⟩ := pairs_spec hr
    refine ⟨rfl, hb, cur, _, cur.toList.drop (xs.length * d.sz), a, h0 _ rfl, hg, hcm, hcs, ?_, fun z hz => ?_⟩
    · rw [b, ← htake, List.take_append_drop]
    · refine d.mono (fun k hk => ⟨hk.1, fun e => hk.2 ?_⟩) (c z hz)
      rw [e]; rfl
theorem Prow.own {e : TypeId} {base g c : Nat} {cur : Array Value} {zs : List (α × List Value)} {T : List Value} (h : Prow d e w ok g c cur zs T) (hs : 0 < d.sz) (hb : base ≤ g) : Own d e w base ok (.slice (some ⟨g, 0, none⟩) zs.length c) (zs.map Prod.fst) := by
  have hr := Reps.of_pairs h.at_
  refine ⟨fun k hk => by simp [Value.ownBlock] at hk; subst hk; exact h.okg, zs.flatMap Prod.snd, ⟨by rw [List.length_map]; exact flatMap_len h.at_, .inr ⟨g, c, cur, by rw [List.length_map], hb, h.blk, by rw [List.length_map]; exact h.le hs, h.cap, h.size, ?_⟩⟩, ?_⟩
  · rw [h.list, List.take_append_of_le_length (by rw [flatMap_len h.at_, List.length_map]; exact Nat.le_refl _), List.take_of_length_le (by rw [flatMap_len h.at_, List.length_map]; exact Nat.le_refl _)]
  · refine hr.mono (fun k hk => ⟨hk.1, fun e => hk.2 ?_⟩)
    simp [Value.ownBlock] at e
    exact e
/-- A cell of the row. -/
theorem Prow.cell {e : TypeId} {g c : Nat} {cur : Array Value} {zs : List (α × List Value)} {T : List Value} (h : Prow d e w ok g c cur zs T) {j : Nat} {z : α × List Value} (hz : zs[j]? = some z) {i : Nat} {u : Value} (hu : z.2[i]? = some u) : w.cell? ⟨g, j * d.sz + i, none⟩ = some u := by
  rw [blk_cell h.blk, ← Array.getElem?_toList, h.list]
  have hr := (Reps.of_pairs h.at_).2 j z.1 (by rw [List.getElem?_map, hz]; rfl)
  have hlen := d.len (h.at_ z (List.mem_of_getElem? hz))
  have hi : i < d.sz := by
    have := (List.getElem?_eq_some_iff.1 hu).1
    omega
  have hj := (List.getElem?_eq_some_iff.1 hz).1
  have hsplit : zs = zs.take j ++ z :: zs.drop (j + 1) := by
    conv => lhs; rw [← List.take_append_drop j zs, List.drop_eq_getElem_cons hj]
    rw [(List.getElem?_eq_some_iff.1 hz).2]
  have hl1 : ((zs.take j).flatMap Prod.snd).length = j * d.sz := by
    rw [flatMap_len (d := d) (w := w) (ok := fun k => ok k ∧ k ≠ g) (fun y hy => h.at_ y (List.mem_of_mem_take hy)), List.length_take, Nat.min_eq_left (by omega)]
  conv => lhs; rw [hsplit]
  rw [List.flatMap_append, List.flatMap_cons, List.append_assoc, List.append_assoc, List.getElem?_append_right (by rw [hl1]; omega), hl1, Nat.add_sub_cancel_left, List.getElem?_append_left (by omega)]
  exact hu
theorem Prow.ext {M : Nat → Prop} {e : TypeId} {g c : Nat} {cur : Array Value} {zs : List (α × List Value)} {T : List Value} (h : Prow d e w ok g c cur zs T) (he : Ext M w w1) (hm : ∀ k, ok k → k < w.heap.size → ¬ M k) : Prow d e w1 ok g c cur zs T :=
  ⟨h.okg, he.obj h.blk (hm g h.okg (blk_lt h.blk)), h.cap, h.size, h.list, fun z hz => d.mono (fun _ hk => hk.1) (d.move (w := w) (w1 := w1) (ok := fun k => (ok k ∧ k ≠ g) ∧ k < w.heap.size) (fun k hk => he.block k hk.2 (hm k hk.1.1 hk.2)) (d.bound (h.at_ z hz)))⟩
/-- An element of the row laid anew. -/
theorem Prow.set {e : TypeId} {g c : Nat} {cur : Array Value} {zs : List (α × List Value)} {T : List Value} (h : Prow d e w ok g c cur zs T) {j : Nat} (hj : j < zs.length) {x : α} {cs : List Value} (hk : d.K w (fun k => ok k ∧ k ≠ g) x cs) :
    ∃ cur', Prow d e (w.setCells g (j * d.sz) cs) ok g c cur' (zs.set j (x, cs)) T := by
  have hl1 : ((zs.take j).flatMap Prod.snd).length = j * d.sz := by
    rw [flatMap_len (d := d) (w := w) (ok := fun k => ok k ∧ k ≠ g) (fun y hy => h.at_ y (List.mem_of_mem_take hy)), List.length_take, Nat.min_eq_left (by omega)]
  have hsplit : zs = zs.take j ++ zs[j] :: zs.drop (j + 1) := by
    conv => lhs; rw [← List.take_append_drop j zs, List.drop_eq_getElem_cons hj]
  have hlist : cur.toList = (zs.take j).flatMap Prod.snd ++ zs[j].2 ++ ((zs.drop (j + 1)).flatMap Prod.snd ++ T) := by
    rw [h.list]
    conv => lhs; rw [hsplit]
    rw [List.flatMap_append, List.flatMap_cons]
    simp only [List.append_assoc]
  have hput := putAt_list cs _ _ _ cur hlist (by rw [d.len hk, d.len (h.at_ _ (List.getElem_mem hj))])
  rw [hl1] at hput
  have hmv : ∀ y ys, d.K w (fun k => ok k ∧ k ≠ g) y ys → d.K (w.setCells g (j * d.sz) cs) (fun k => ok k ∧ k ≠ g) y ys := fun y ys hy =>
    d.mono (fun _ hk => hk.1) (d.move (w := w) (ok := fun k => (ok k ∧ k ≠ g) ∧ k < w.heap.size) (fun k hk => (ext_setCells g cs (j * d.sz) w).block k hk.2 hk.1.2) (d.bound hy))
  refine ⟨putAt cur (j * d.sz) cs, h.okg, row_setCells cs _ w cur h.blk, h.cap, by rw [putAt_size]; exact h.size, ?_, fun z hz => ?_⟩
  · rw [hput, List.set_eq_take_append_cons_drop, if_pos hj]
    simp
  · rcases List.mem_or_eq_of_mem_set hz with hz | rfl
    · exact hmv _ _ (h.at_ z hz)
    · exact hmv _ _ hk
/-- The row's end cleared. -/
theorem Prow.cut {e : TypeId} {g c : Nat} {cur : Array Value} {zs : List (α × List Value)} {T : List Value} (h : Prow d e w ok g c cur zs T) {i : Nat} (hi : i ≤ zs.length) (L : List Value) (hL : L.length = (zs.length - i) * d.sz) :
    ∃ cur', Prow d e (w.setCells g (i * d.sz) L) ok g c cur' (zs.take i) (L ++ T) := by
  have hl1 : ((zs.take i).flatMap Prod.snd).length = i * d.sz := by
    rw [flatMap_len (d := d) (w := w) (ok := fun k => ok k ∧ k ≠ g) (fun y hy => h.at_ y (List.mem_of_mem_take hy)), List.length_take, Nat.min_eq_left hi]
  have hl2 : ((zs.drop i).flatMap Prod.snd).length = (zs.length - i) * d.sz := by
    rw [flatMap_len (d := d) (w := w) (ok := fun k => ok k ∧ k ≠ g) (fun y hy => h.at_ y (List.mem_of_mem_drop hy)), List.length_drop]
  have hlist : cur.toList = (zs.take i).flatMap Prod.snd ++ (zs.drop i).flatMap Prod.snd ++ T := by
    rw [h.list, ← List.flatMap_append, List.take_append_drop]
  have hput := putAt_list L _ _ _ cur hlist (hl2.trans hL.symm)
  rw [hl1] at hput
  refine ⟨putAt cur (i * d.sz) L, h.okg, row_setCells L _ w cur h.blk, h.cap, by rw [putAt_size]; exact h.size, by rw [hput, List.append_assoc], fun z hz => ?_⟩
  exact d.mono (fun _ hk => hk.1) (d.move (w := w) (ok := fun k => (ok k ∧ k ≠ g) ∧ k < w.heap.size) (fun k hk => (ext_setCells g L (i * d.sz) w).block k hk.2 hk.1.2) (d.bound (h.at_ z (List.mem_of_mem_take hz))))
end
theorem run_clear_row {P : Program} (w : World) (t e : TypeId) (z : Value) (sz : Nat) (ht : P.underlying t = some (.slice e)) (hv : ∀ w, (zeroValue e).run P w = .ok z w) (hz : z.cells.size = sz) (h1 : ∀ u ∈ z.cells.toList, u.oneCell' = true) (b o n c : Nat) (cur : Array Value) (te : TypeId) (hb : w.heap[b]? = some (.cells cur te (0, 0))) (hs : o + n * sz ≤ cur.size) (h0 : 0 < sz) :
    ∃ L, L.length = n * sz ∧ ∀ ty, (Builtin.clear_ #[t] ty #[.slice (some ⟨b, o, none⟩) n c]).run P w = .ok (.tuple #[]) (w.setCells b o L) := by
  cases n with
  | zero => exact ⟨[], by simp, fun ty => by simp [Builtin.clear_, run_underlying ht, World.setCells]⟩
  | succ m =>
    refine ⟨(Builtin.zeroCells z.cells (m + 1)).toList, by simp [Builtin.zeroCells, hz], fun ty => ?_⟩
    have hlen : (Builtin.zeroCells z.cells (m + 1)).toList.length = (m + 1) * sz := by simp [Builtin.zeroCells, hz]
    have hst := run_storeCells_cells (P := P) b o (Builtin.zeroCells z.cells (m + 1)).toList 0 w (fun j hj => by
      rw [blk_cell hb, Array.getElem?_eq_getElem (by omega)]; rfl) (fun j hj => blk_frozen hb _) (by
      intro u hu
      simp only [Builtin.zeroCells, Array.toList_map, List.mem_map] at hu
      obtain ⟨i, _, rfl⟩ := hu
      refine h1 _ ?_
      simp only [Array.mem_toList_iff]
      rw [getElem!_pos z.cells _ (by rw [hz]; exact Nat.mod_lt _ h0)]
      exact Array.getElem_mem _)
    simp only [Nat.add_zero] at hst
    simp [Builtin.clear_, run_underlying ht, hv, hst]
end Go.TM
