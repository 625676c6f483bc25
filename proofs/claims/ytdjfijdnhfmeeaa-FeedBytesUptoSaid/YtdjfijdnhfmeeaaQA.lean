/- Rows of one's own as lists of cells; subscribers, as they lie in memory. No program in sight but for types. Subscribers and feeds, as they lie in memory; dead, Top, Kept; slices.Clone of events and of subscribers. slices.IndexFunc over subscribers and events, with any function value that tells a plain law. -/
import Derived.Test.YtdjfijdnhfmeeaaGA
import Derived.Lib.SliceRun
import Derived.Test.YtdjfijdnhfmeeaaMB
namespace Go.TM
open Go.RowKit

def putAt (cur : Array Value) : Nat → List Value → Array Value
  | _, [] => cur
  | o, v :: r => putAt (cur.setIfInBounds o v) (o + 1) r
theorem row_setCells {g : Nat} {e : TypeId} : ∀ (vs : List Value) (o : Nat) (w : World) (cur : Array Value), w.heap[g]? = some (.cells cur e (0, 0)) → (w.setCells g o vs).heap[g]? = some (.cells (putAt cur o vs) e (0, 0))
  | [], _, _, _, h => h
  | v :: r, o, _, _, h => row_setCells r (o + 1) _ _ (blk_set h o v)
theorem ext_setCells (g : Nat) : ∀ (vs : List Value) (o : Nat) (w : World), Ext (Only g) w (w.setCells g o vs)
  | [], _, w => Ext.refl _ w
  | v :: r, o, w => Ext.trans (Ext.setCell (Ext.refl (Only g) w) (p := ⟨g, o, none⟩) (fun _ => rfl) v) (ext_setCells g r (o + 1) _) (fun _ _ h => h)
theorem putAt_size : ∀ (vs : List Value) (o : Nat) (cur : Array Value), (putAt cur o vs).size = cur.size
  | [], _, _ => rfl
  | v :: r, o, cur => by rw [putAt, putAt_size r (o + 1), Array.size_setIfInBounds]
theorem putAt_list : ∀ (vs Y : List Value) (X Z : List Value) (cur : Array Value), cur.toList = X ++ Y ++ Z → Y.length = vs.length → (putAt cur X.length vs).toList = X ++ vs ++ Z
  | [], Y, X, Z, cur, h, hl => by
    have : Y = [] := List.eq_nil_of_length_eq_zero hl
    subst this
    exact h
  | v :: r, [], X, Z, cur, h, hl => by cases hl
  | v :: r, y :: Y, X, Z, cur, h, hl => by
    have h1 : (cur.setIfInBounds X.length v).toList = (X ++ [v]) ++ Y ++ Z := by
      rw [Array.toList_setIfInBounds, h]
      simp
    have := putAt_list r Y (X ++ [v]) Z (cur.setIfInBounds X.length v) h1 (by simpa using hl)
    rw [List.length_append, List.length_singleton] at this
    rw [putAt, this]
    simp

/-- Elements with their cells. -/
def pairs {α : Type} (sz : Nat) : List α → List Value → List (α × List Value)
  | [], _ => []
  | x :: xs, inner => (x, inner.take sz) :: pairs sz xs (inner.drop sz)
section
variable {α : Type} {d : Kd α} {w w1 : World} {ok ok' : Nat → Prop} {v : Value} {xs : List α}
theorem pairs_spec : ∀ {xs : List α} {inner : List Value}, Reps d w ok xs inner → (pairs d.sz xs inner).map Prod.fst = xs ∧ (pairs d.sz xs inner).flatMap Prod.snd = inner ∧ ∀ z ∈ pairs d.sz xs inner, d.K w ok z.1 z.2
  | [], inner, h => by
    have := h.1
    simp at this
    subst this
    exact ⟨rfl, rfl, fun z hz => by cases hz⟩
  | x :: xs, inner, h => by
    have h0 := h.2 0 x rfl
    rw [Nat.zero_mul, List.drop_zero] at h0
    have hr : Reps d w ok xs (inner.drop d.sz) := ⟨by
        have hh := h.1
        rw [List.length_cons, Nat.succ_mul] at hh
        rw [List.length_drop, hh]
        exact Nat.add_sub_cancel _ _, fun j y hj => by
        have := h.2 (j + 1) y (by simpa using hj)
        rw [List.drop_drop, Nat.add_comm, ← Nat.succ_mul]
        exact this⟩
    obtain ⟨a, b, c⟩ := pairs_spec hr
    refine ⟨by rw [pairs, List.map_cons, a], by rw [pairs, List.flatMap_cons, b, List.take_append_drop], fun z hz => ?_⟩
    rw [pairs] at hz
    rcases List.mem_cons.1 hz with rfl | hz
    · exact h0
    · exact c z hz
theorem Reps.of_pairs : ∀ {zs : List (α × List Value)}, (∀ z ∈ zs, d.K w ok z.1 z.2) → Reps d w ok (zs.map Prod.fst) (zs.flatMap Prod.snd)
  | [], _ => Reps.nil _ _ _
  | z :: zs, h => by
    have := (Reps.single (h z (List.mem_cons_self ..))).append (Reps.of_pairs (zs := zs) (fun y hy => h y (List.mem_cons_of_mem _ hy)))
    simpa using this
/-- A row of one's own, as its cells. -/
structure Prow (d : Kd α) (e : TypeId) (w : World) (ok : Nat → Prop) (g c : Nat) (cur : Array Value) (zs : List (α × List Value)) (T : List Value) : Prop where
  okg : ok g
  blk : w.heap[g]? = some (.cells cur e (0, 0))
  cap : c ≤ maxLen
  size : cur.size = c * d.sz
  list : cur.toList = zs.flatMap Prod.snd ++ T
  at_ : ∀ z ∈ zs, d.K w (fun k => ok k ∧ k ≠ g) z.1 z.2
theorem flatMap_len {zs : List (α × List Value)} (h : ∀ z ∈ zs, d.K w ok z.1 z.2) : (zs.flatMap Prod.snd).length = zs.length * d.sz := by
  have := (Reps.of_pairs h).1
  simpa using this
theorem Prow.le {e : TypeId} {g c : Nat} {cur : Array Value} {zs : List (α × List Value)} {T : List Value} (h : Prow d e w ok g c cur zs T) (hs : 0 < d.sz) : zs.length ≤ c := by
  have h1 := congrArg List.length h.list
  rw [List.length_append, flatMap_len h.at_, Array.length_toList, h.size] at h1
  exact Nat.le_of_mul_le_mul_right (by omega) hs
theorem Own.to_prow {e : TypeId} {base g n c : Nat} (h : Own d e w base ok (.slice (some ⟨g, 0, none⟩) n c) xs) : n = xs.length ∧ base ≤ g ∧ ∃ cur zs T, zs.map Prod.fst = xs ∧ Prow d e w ok g c cur zs T := by
  obtain ⟨h0, inner, ho, hr⟩ := h
  rcases ho.2 with ⟨h2, _⟩ | ⟨g', cap, cur, h2, hb, hg, hnc, hcm, hcs, htake⟩
  · simp at h2
  · simp only [Value.slice.injEq, Option.some.injEq, Addr.mk.injEq, and_true] at h2
    obtain ⟨rfl, rfl, rfl⟩ := h2
    obtain ⟨a, b, c⟩ := pairs_spec hr
    refine ⟨rfl, hb, cur, _, cur.toList.drop (xs.length * d.sz), a, h0 _ rfl, hg, hcm, hcs, ?_, fun z hz => ?_⟩
    · rw [b, ← htake, List.take_append_drop]
    · refine d.mono (fun k hk => ⟨hk.1, fun e => hk.2 ?_⟩) (c z hz)
      rw [e]; rfl
theorem Prow.own {e : TypeId} {base g c : Nat} {cur : Array Value} {zs : List (α × List Value)} {T : List Value} (h : Prow d e w ok g c cur zs T) (hs : 0 < d.sz) (hb : base ≤ g) : Own d e w base ok (.slice (some ⟨g, 0, none⟩) zs.length c) (zs.map Prod.fst) := by
  have hr := Reps.of_pairs h.at_
  refine ⟨fun k hk => by simp [Value.ownBlock] at hk; subst hk; exact h.okg, zs.flatMap Prod.snd, ⟨by rw [List.length_map]; exact flatMap_len h.at_, .inr ⟨g, c, cur, by rw [List.length_map], hb, h.blk, by rw [List.length_map]; exact h.le hs, h.cap, h.size, ?_⟩⟩, ?_⟩
  · rw [h.list, List.take_append_of_le_length (by rw [flatMap_len h.at_, List.length_map]; exact Nat.le_refl _), List.take_of_length_le (by rw [flatMap_len h.at_, List.length_map]; exact Nat.le_refl _)]
  · refine hr.mono (fun k hk => ⟨hk.1, fun e => hk.2 ?_⟩)
    simp [Value.ownBlock] at e
    exact e
/-- A cell of the row. -/
theorem Prow.cell {e : TypeId} {g c : Nat} {cur : Array Value} {zs : List (α × List Value)} {T : List Value} (h : Prow d e w ok g c cur zs T) {j : Nat} {z : α × List Value} (hz : zs[j]? = some z) {i : Nat} {u : Value} (hu : z.2[i]? = some u) : w.cell? ⟨g, j * d.sz + i, none⟩ = some u := by
  rw [blk_cell h.blk, ← Array.getElem?_toList, h.list]
  have hr := (Reps.of_pairs h.at_).2 j z.1 (by rw [List.getElem?_map, hz]; rfl)
  have hlen := d.len (h.at_ z (List.mem_of_getElem? hz))
  have hi : i < d.sz := by
    have := (List.getElem?_eq_some_iff.1 hu).1
    omega
  have hj := (List.getElem?_eq_some_iff.1 hz).1
  have hsplit : zs = zs.take j ++ z :: zs.drop (j + 1) := by
    conv => lhs; rw [← List.take_append_drop j zs, List.drop_eq_getElem_cons hj]
    rw [(List.getElem?_eq_some_iff.1 hz).2]
  have hl1 : ((zs.take j).flatMap Prod.snd).length = j * d.sz := by
    rw [flatMap_len (d := d) (w := w) (ok := fun k => ok k ∧ k ≠ g) (fun y hy => h.at_ y (List.mem_of_mem_take hy)), List.length_take, Nat.min_eq_left (by omega)]
  conv => lhs; rw [hsplit]
  rw [List.flatMap_append, List.flatMap_cons, List.append_assoc, List.append_assoc, List.getElem?_append_right (by rw [hl1]; omega), hl1, Nat.add_sub_cancel_left, List.getElem?_append_left (by omega)]
  exact hu
theorem Prow.ext {M : Nat → Prop} {e : TypeId} {g c : Nat} {cur : Array Value} {zs : List (α × List Value)} {T : List Value} (h : Prow d e w ok g c cur zs T) (he : Ext M w w1) (hm : ∀ k, ok k → k < w.heap.size → ¬ M k) : Prow d e w1 ok g c cur zs T :=
  ⟨h.okg, he.obj h.blk (hm g h.okg (blk_lt h.blk)), h.cap, h.size, h.list, fun z hz => d.mono (fun _ hk => hk.1) (d.move (w := w) (w1 := w1) (ok := fun k => (ok k ∧ k ≠ g) ∧ k < w.heap.size) (fun k hk => he.block k hk.2 (hm k hk.1.1 hk.2)) (d.bound (h.at_ z hz)))⟩
/-- An element of the row laid anew. -/
theorem Prow.set {e : TypeId} {g c : Nat} {cur : Array Value} {zs : List (α × List Value)} {T : List Value} (h : Prow d e w ok g c cur zs T) {j : Nat} (hj : j < zs.length) {x : α} {cs : List Value} (hk : d.K w (fun k => ok k ∧ k ≠ g) x cs) :
    ∃ cur', Prow d e (w.setCells g (j * d.sz) cs) ok g c cur' (zs.set j (x, cs)) T := by
  have hl1 : ((zs.take j).flatMap Prod.snd).length = j * d.sz := by
    rw [flatMap_len (d := d) (w := w) (ok := fun k => ok k ∧ k ≠ g) (fun y hy => h.at_ y (List.mem_of_mem_take hy)), List.length_take, Nat.min_eq_left (by omega)]
  have hsplit : zs = zs.take j ++ zs[j] :: zs.drop (j + 1) := by
    conv => lhs; rw [← List.take_append_drop j zs, List.drop_eq_getElem_cons hj]
  have hlist : cur.toList = (zs.take j).flatMap Prod.snd ++ zs[j].2 ++ ((zs.drop (j + 1)).flatMap Prod.snd ++ T) := by
    rw [h.list]
    conv => lhs; rw [hsplit]
    rw [List.flatMap_append, List.flatMap_cons]
    simp only [List.append_assoc]
  have hput := putAt_list cs _ _ _ cur hlist (by rw [d.len hk, d.len (h.at_ _ (List.getElem_mem hj))])
  rw [hl1] at hput
  have hmv : ∀ y ys, d.K w (fun k => ok k ∧ k ≠ g) y ys → d.K (w.setCells g (j * d.sz) cs) (fun k => ok k ∧ k ≠ g) y ys := fun y ys hy =>
    d.mono (fun _ hk => hk.1) (d.move (w := w) (ok := fun k => (ok k ∧ k ≠ g) ∧ k < w.heap.size) (fun k hk => (ext_setCells g cs (j * d.sz) w).block k hk.2 hk.1.2) (d.bound hy))
  refine ⟨putAt cur (j * d.sz) cs, h.okg, row_setCells cs _ w cur h.blk, h.cap, by rw [putAt_size]; exact h.size, ?_, fun z hz => ?_⟩
  · rw [hput, List.set_eq_take_append_cons_drop, if_pos hj]
    simp
  · rcases List.mem_or_eq_of_mem_set hz with hz | rfl
    · exact hmv _ _ (h.at_ z hz)
    · exact hmv _ _ hk
/-- The row's end cleared. -/
theorem Prow.cut {e : TypeId} {g c : Nat} {cur : Array Value} {zs : List (α × List Value)} {T : List Value} (h : Prow d e w ok g c cur zs T) {i : Nat} (hi : i ≤ zs.length) (L : List Value) (hL : L.length = (zs.length - i) * d.sz) :
    ∃ cur', Prow d e (w.setCells g (i * d.sz) L) ok g c cur' (zs.take i) (L ++ T) := by
  have hl1 : ((zs.take i).flatMap Prod.snd).length = i * d.sz := by
    rw [flatMap_len (d := d) (w := w) (ok := fun k => ok k ∧ k ≠ g) (fun y hy => h.at_ y (List.mem_of_mem_take hy)), List.length_take, Nat.min_eq_left hi]
  have hl2 : ((zs.drop i).flatMap Prod.snd).length = (zs.length - i) * d.sz := by
    rw [flatMap_len (d := d) (w := w) (ok := fun k => ok k ∧ k ≠ g) (fun y hy => h.at_ y (List.mem_of_mem_drop hy)), List.length_drop]
  have hlist : cur.toList = (zs.take i).flatMap Prod.snd ++ (zs.drop i).flatMap Prod.snd ++ T := by
    rw [h.list, ← List.flatMap_append, List.take_append_drop]
  have hput := putAt_list L _ _ _ cur hlist (hl2.trans hL.symm)
  rw [hl1] at hput
  refine ⟨putAt cur (i * d.sz) L, h.okg, row_setCells L _ w cur h.blk, h.cap, by rw [putAt_size]; exact h.size, by rw [hput, List.append_assoc], fun z hz => ?_⟩
  exact d.mono (fun _ hk => hk.1) (d.move (w := w) (ok := fun k => (ok k ∧ k ≠ g) ∧ k < w.heap.size) (fun k hk => (ext_setCells g L (i * d.sz) w).block k hk.2 hk.1.2) (d.bound (h.at_ z (List.mem_of_mem_take hz))))
end
theorem run_clear_row {P : Program} (w : World) (t e : TypeId) (z : Value) (sz : Nat) (ht : P.underlying t = some (.slice e)) (hv : ∀ w, (zeroValue e).run P w = .ok z w) (hz : z.cells.size = sz) (h1 : ∀ u ∈ z.cells.toList, u.oneCell' = true) (b o n c : Nat) (cur : Array Value) (te : TypeId) (hb : w.heap[b]? = some (.cells cur te (0, 0))) (hs : o + n * sz ≤ cur.size) (h0 : 0 < sz) :
    ∃ L, L.length = n * sz ∧ ∀ ty, (Builtin.clear_ #[t] ty #[.slice (some ⟨b, o, none⟩) n c]).run P w = .ok (.tuple #[]) (w.setCells b o L) := by
  cases n with
  | zero => exact ⟨[], by simp, fun ty => by simp [Builtin.clear_, run_underlying ht, World.setCells]⟩
  | succ m =>
    refine ⟨(Builtin.zeroCells z.cells (m + 1)).toList, by simp [Builtin.zeroCells, hz], fun ty => ?_⟩
    have hlen : (Builtin.zeroCells z.cells (m + 1)).toList.length = (m + 1) * sz := by simp [Builtin.zeroCells, hz]
    have hst := run_storeCells_cells (P := P) b o (Builtin.zeroCells z.cells (m + 1)).toList 0 w (fun j hj => by
      rw [blk_cell hb, Array.getElem?_eq_getElem (by omega)]; rfl) (fun j hj => blk_frozen hb _) (by
      intro u hu
      simp only [Builtin.zeroCells, Array.toList_map, List.mem_map] at hu
      obtain ⟨i, _, rfl⟩ := hu
      refine h1 _ ?_
      simp only [Array.mem_toList_iff]
      rw [getElem!_pos z.cells _ (by rw [hz]; exact Nat.mod_lt _ h0)]
      exact Array.getElem_mem _)
    simp only [Nat.add_zero] at hst
    simp [Builtin.clear_, run_underlying ht, hv, hst]
end Go.TM

namespace Go.Proofs.Ytdjfijdnhfmeeaa
open Go.RowKit Go.TM
structure Sb where
  id : Int
  fr : Int
  at_ : Int
  q : Flt
  gone : Bool
/-- A subscriber, as it lies in memory. -/
def sbK (n : Nat) : Kd Sb where
  sz := 8
  K := fun w ok x cs => ∃ v, cs = [.int .i64 x.id, .int .i64 x.fr, .int .i64 x.at_, .int .i64 x.q.op, .string x.q.key, .string x.q.val, v, .bool x.gone] ∧ Rd (fltK n) w ok v x.q.kids
  len := fun ⟨_, h, _⟩ => by rw [h]; rfl
  one := fun ⟨v, h, hr⟩ u hu => by
    rw [h] at hu
    simp only [List.mem_cons, List.not_mem_nil, or_false] at hu
    obtain ⟨A, c, rfl, _⟩ := hr.slice
    rcases hu with rfl | rfl | rfl | rfl | rfl | rfl | rfl | rfl <;> rfl
  mono := fun hok ⟨v, h, hr⟩ => ⟨v, h, hr.mono hok⟩
  bound := fun ⟨v, h, hr⟩ => ⟨v, h, hr.bound⟩
  move := fun hm ⟨v, h, hr⟩ => ⟨v, h, hr.move' hm⟩
theorem sb_at {n : Nat} {w : World} {ok : Nat → Prop} {A : Option Addr} {m c : Nat} {xs : List Sb} (h : Rd (sbK n) w ok (.slice A m c) xs) {j : Nat} {x : Sb} (hs : xs[j]? = some x) :
    ∃ g off B l d, A = some ⟨g, off, none⟩ ∧ ok g ∧ g < w.heap.size ∧ w.cell? ⟨g, off + j * 8, none⟩ = some (.int .i64 x.id) ∧ w.cell? ⟨g, off + j * 8 + 1, none⟩ = some (.int .i64 x.fr) ∧ w.cell? ⟨g, off + j * 8 + 2, none⟩ = some (.int .i64 x.at_) ∧
      w.cell? ⟨g, off + j * 8 + 3, none⟩ = some (.int .i64 x.q.op) ∧ w.cell? ⟨g, off + j * 8 + 4, none⟩ = some (.string x.q.key) ∧ w.cell? ⟨g, off + j * 8 + 5, none⟩ = some (.string x.q.val) ∧
      w.cell? ⟨g, off + j * 8 + 6, none⟩ = some (.slice B l d) ∧ w.cell? ⟨g, off + j * 8 + 7, none⟩ = some (.bool x.gone) ∧ Rd (fltK n) w ok (.slice B l d) x.q.kids := by
  obtain ⟨g, off, cs, rfl, hg, hgl, ⟨v, rfl, hr⟩, hcs⟩ := h.at_ hs
  obtain ⟨B, l, d, rfl, _⟩ := rd_abs hr
  have hc : ∀ i u, ([.int .i64 x.id, .int .i64 x.fr, .int .i64 x.at_, .int .i64 x.q.op, .string x.q.key, .string x.q.val, .slice B l d, .bool x.gone] : List Value)[i]? = some u → w.cell? ⟨g, off + j * 8 + i, none⟩ = some u := fun i u hu => by
    have := hcs i u hu
    rw [← Nat.add_assoc] at this
    exact this
  exact ⟨g, off, B, l, d, rfl, hg, hgl, hc 0 _ rfl, hc 1 _ rfl, hc 2 _ rfl, hc 3 _ rfl, hc 4 _ rfl, hc 5 _ rfl, hc 6 _ rfl, hc 7 _ rfl, hr⟩
/-- A feed's contents. -/
structure Fdr where
  evs : List Ev
  subs : List Sb
  next : Int
  top : Int
def FdB (w : World) (g : Nat) (se ss : Value) (nx tp : Int) : Prop := w.heap[g]? = some (.cells #[se, ss, .int .i64 nx, .int .i64 tp] 72 (0, 0))
/-- A feed, as it lies in memory. -/
def Fd (n : Nat) (ok : Nat → Prop) (w : World) (g : Nat) (D : Fdr) : Prop := ∃ A1 n1 c1 A2 n2 c2, FdB w g (.slice A1 n1 c1) (.slice A2 n2 c2) D.next D.top ∧ Rd evK w ok (.slice A1 n1 c1) D.evs ∧ Rd (sbK n) w ok (.slice A2 n2 c2) D.subs ∧ ¬ ok g
theorem Fd.ext {n : Nat} {ok M : Nat → Prop} {w w1 : World} {g : Nat} {D : Fdr} (h : Fd n ok w g D) (he : Ext M w w1) (hm : ∀ k, ok k → ¬ M k) (hg : ¬ M g) : Fd n ok w1 g D := by
  obtain ⟨A1, n1, c1, A2, n2, c2, hb, h1, h2, h3⟩ := h
  exact ⟨A1, n1, c1, A2, n2, c2, he.obj hb hg, h1.ext he (fun k hk _ => hm k hk), h2.ext he (fun k hk _ => hm k hk), h3⟩
theorem Fd.ext0 {n : Nat} {ok : Nat → Prop} {w w1 : World} {g : Nat} {D : Fdr} (h : Fd n ok w g D) (he : Ext Non w w1) : Fd n ok w1 g D := h.ext he (fun _ _ e => e) (fun e => e)
/-- Which blocks a feed lives in: all new ones. -/
def Fresh (ok : Nat → Prop) (w : World) : Prop := ∀ k, w.heap.size ≤ k → ok k
theorem Fresh.ext {ok M : Nat → Prop} {w w1 : World} (h : Fresh ok w) (he : Ext M w w1) : Fresh ok w1 := fun k hk => h k (Nat.le_trans he.size hk)
section
variable {w : World} {g : Nat} {se ss : Value} {nx tp : Int}
theorem FdB.c0 (h : FdB w g se ss nx tp) : w.cell? ⟨g, 0, none⟩ = some se := blk_cell h 0
theorem FdB.c1 (h : FdB w g se ss nx tp) : w.cell? ⟨g, 1, none⟩ = some ss := blk_cell h 1
theorem FdB.c2 (h : FdB w g se ss nx tp) : w.cell? ⟨g, 2, none⟩ = some (.int .i64 nx) := blk_cell h 2
theorem FdB.c3 (h : FdB w g se ss nx tp) : w.cell? ⟨g, 3, none⟩ = some (.int .i64 tp) := blk_cell h 3
theorem FdB.fz (h : FdB w g se ss nx tp) (i : Nat) : w.frozen? ⟨g, i, none⟩ = false := blk_frozen h i
theorem dead_nil : Calls Try.prog 48 #[.pointer none] w fun e w' => e = .returned (.bool true) ∧ w = w' := by
  go_enter Try.func48, Try.ntmps48
  go_wp2_with fail
  go_ret
  exact ⟨rfl, rfl⟩
theorem dead_zero (h : FdB w g se ss 0 tp) : Calls Try.prog 48 #[.pointer (some ⟨g, 0, none⟩)] w fun e w' => e = .returned (.bool true) ∧ w = w' := by
  have b2 := h.c2
  clear h
  go_enter Try.func48, Try.ntmps48
  go_wp2_with fail
  go_ret
  exact ⟨rfl, rfl⟩
theorem dead_live (h : FdB w g se ss nx tp) (hn : nx ≠ 0) : Calls Try.prog 48 #[.pointer (some ⟨g, 0, none⟩)] w fun e w' => e = .returned (.bool false) ∧ w = w' := by
  have b2 := h.c2
  clear h
  go_enter Try.func48, Try.ntmps48
  go_wp2_with fail
  go_ret
  exact ⟨by show Ending.returned (.bool (nx == 0)) = _; rw [show (nx == 0) = false from by simpa using hn], rfl⟩
theorem Top_live (h : FdB w g se ss nx tp) (hn : nx ≠ 0) : Calls Try.prog 31 #[.pointer (some ⟨g, 0, none⟩)] w fun e w' => e = .returned (.int .i64 tp) ∧ w = w' := by
  have b3 := h.c3
  have HB := Lib.hid h
  clear h
  go_enter Try.func31, Try.ntmps31
  go_wp2_with fail
  refine (dead_live HB.out hn).mono ?_
  rintro e w5 ⟨rfl, rfl⟩
  go_wp2_with fail
  go_ret
  exact ⟨rfl, rfl⟩
end
theorem none_nil {α : Type} {d : Kd α} {w : World} {ok : Nat → Prop} {n c : Nat} {xs : List α} (h : Rd d w ok (.slice none n c) xs) : xs = [] := by
  obtain ⟨A', c', h1, h2, h3, h4⟩ := h
  by_cases h0 : 0 < xs.length
  · obtain ⟨g, off, h5, -⟩ := h4 h0
    rw [h5] at h1
    cases h1
  · exact List.length_eq_zero_iff.1 (by omega)
set_option maxRecDepth 100000 in
set_option maxHeartbeats 2000000 in
theorem CloneE_own {w : World} {ok : Nat → Prop} {A : Option Addr} {n c : Nat} {l : List Ev} (H : Rd evK w ok (.slice A n c) l) (hl : l.length ≤ 1048576000) (hf : Fresh ok w) :
    Calls Try.prog 29 #[.slice A n c] w fun e w' => ∃ B m d, e = .returned (.slice B m d) ∧ Own evK 43 w' w.heap.size ok (.slice B m d) l ∧ Ext Non w w' := by
  have HH := Lib.hid H.bound
  have HL := Lib.hid hl
  have HF := Lib.hid hf
  have hq := Lib.run_eql_slice_nil (P := Try.prog) w 34 43 A n c 0 0 Try.underlying34
  cases A with
  | none =>
    have hl0 : l = [] := none_nil H
    subst hl0
    clear H hl hf
    go_enter Try.func29, Try.ntmps29
    go_wp2_with fail
    go_ret
    exact ⟨none, 0, 0, rfl, Own.nil _ _ _ _ _, Ext.refl _ _⟩
  | some a =>
    clear H hl hf
    go_enter Try.func29, Try.ntmps29
    go_wp2_with (first
      | (at_builtin
         refine wpList_app evK (ok := ok) (v := .slice (some ⟨w.heap.size, 0, none⟩) 0 0) (vx := .slice (some a) n c) (xs := []) (ys := l) w.heap.size rfl _ _ 34 43 _ 72 rfl Try.underlying34 info43 rfl (by decide) (by simp [Act.eval]) (by simp [Act.eval]) (Own.lit (xs := []) (inner := []) (Reps.nil _ _ _) (Nat.le_refl _) (by simp) (HF.out _ (Nat.le_refl _))) ((HH.out.move (by simp) (fun k hk => Below.heap_alloc _ _ _ hk.2)).mono (fun k hk => ⟨hk.1, fun e => by simp [Value.ownBlock] at e; omega⟩)) (fun k hk => HF.out k (by simp at hk; omega)) (by have := HL.out; simp; omega) (by have := HL.out; simp; omega) (by simp) ?_
         intro v' w' hown hext hblk)
      | fail)
    obtain ⟨A4, n4, c4, rfl⟩ : ∃ A n c, v' = .slice A n c := by obtain ⟨A4, c4, h4, _, _⟩ := hown.slice; exact ⟨_, _, _, h4⟩
    go_ret
    exact ⟨_, _, _, rfl, hown, ((Ext.refl Non w).alloc (.cells #[] 43)).trans hext (fun i hi h => by simp [Value.ownBlock] at h; omega)⟩
set_option maxRecDepth 100000 in
theorem info64 (n : Nat) : (Try.prog.info? 64).map (fun i => (i.zero, i.size, i.bytes)) = some (some (.agg #[.int .i64 0, .int .i64 0, .int .i64 0, .int .i64 0, .string ⟨#[]⟩, .string ⟨#[]⟩, .slice none 0 0, .bool false]), (sbK n).sz, 96) := by kernel_rfl
set_option maxRecDepth 100000 in
set_option maxHeartbeats 2000000 in
theorem CloneS_own {w : World} {ok : Nat → Prop} {A : Option Addr} {k n c : Nat} {l : List Sb} (H : Rd (sbK k) w ok (.slice A n c) l) (hl : l.length ≤ 1000) (hf : Fresh ok w) :
    Calls Try.prog 49 #[.slice A n c] w fun e w' => ∃ B m d, e = .returned (.slice B m d) ∧ Own (sbK k) 64 w' w.heap.size ok (.slice B m d) l ∧ Ext Non w w' := by
  have HH := Lib.hid H.bound
  have HL := Lib.hid hl
  have HF := Lib.hid hf
  have hq := Lib.run_eql_slice_nil (P := Try.prog) w 53 64 A n c 0 0 Try.underlying53
  cases A with
  | none =>
    have hl0 : l = [] := none_nil H
    subst hl0
    clear H hl hf
    go_enter Try.func49, Try.ntmps49
    go_wp2_with fail
    go_ret
    exact ⟨none, 0, 0, rfl, Own.nil _ _ _ _ _, Ext.refl _ _⟩
  | some a =>
    clear H hl hf
    go_enter Try.func49, Try.ntmps49
    go_wp2_with (first
      | (at_builtin
         refine wpList_app (sbK k) (ok := ok) (v := .slice (some ⟨w.heap.size, 0, none⟩) 0 0) (vx := .slice (some a) n c) (xs := []) (ys := l) w.heap.size rfl _ _ 53 64 _ 96 rfl Try.underlying53 (info64 k) rfl (by show 0 < 8; decide) (by simp [Act.eval]) (by simp [Act.eval]) (Own.lit (xs := []) (inner := []) (Reps.nil _ _ _) (Nat.le_refl _) (by simp) (HF.out _ (Nat.le_refl _))) ((HH.out.move (by simp) (fun k hk => Below.heap_alloc _ _ _ hk.2)).mono (fun k hk => ⟨hk.1, fun e => by simp [Value.ownBlock] at e; omega⟩)) (fun k hk => HF.out k (by simp at hk; omega)) (by have := HL.out; simp; omega) (by have := HL.out; simp; omega) (by simp) ?_
         intro v' w' hown hext hblk)
      | fail)
    obtain ⟨A4, n4, c4, rfl⟩ : ∃ A n c, v' = .slice A n c := by obtain ⟨A4, c4, h4, _, _⟩ := hown.slice; exact ⟨_, _, _, h4⟩
    go_ret
    exact ⟨_, _, _, rfl, hown, ((Ext.refl Non w).alloc (.cells #[] 64)).trans hext (fun i hi h => by simp [Value.ownBlock] at h; omega)⟩
theorem Kept_calls {w : World} {n g : Nat} {ok : Nat → Prop} {D : Fdr} (h : Fd n ok w g D) (hn : D.next ≠ 0) (hl : D.evs.length ≤ 1048576000) (hf : Fresh ok w) :
    Calls Try.prog 32 #[.pointer (some ⟨g, 0, none⟩)] w fun e w' => ∃ B m d, e = .returned (.slice B m d) ∧ Own evK 43 w' w.heap.size ok (.slice B m d) D.evs ∧ Ext Non w w' := by
  obtain ⟨A1, n1, c1, A2, n2, c2, hb, h1, h2, h3⟩ := h
  have b0 := hb.c0
  have HB := Lib.hid hb
  have H1 := Lib.hid h1
  have HF := Lib.hid hf
  clear hb h1 h2 h3 hf
  go_enter Try.func32, Try.ntmps32
  go_wp2_with fail
  refine (dead_live HB.out hn).mono ?_
  rintro e w5 ⟨rfl, rfl⟩
  go_wp2_with fail
  refine (CloneE_own H1.out hl HF.out).mono ?_
  rintro e w5 ⟨B, m, d, rfl, ho, he⟩
  have HO := Lib.hid ho
  have HE := Lib.hid he
  clear ho he
  go_wp2_with fail
  go_ret
  exact ⟨B, m, d, rfl, HO.out, HE.out⟩
end Go.Proofs.Ytdjfijdnhfmeeaa

namespace Go.Proofs.Ytdjfijdnhfmeeaa
open Go.RowKit Go.TM
/-- A function value tells a plain law of elements. -/
structure PredOn {α : Type} (d : Kd α) (fn : FuncId) (lb : Array Value) (p : α → Bool) (M ok : Nat → Prop) (w : World) : Prop where
  enters : ∀ args w, (callFunc fn args).run Try.prog w = .ok (.enter fn args) w
  tells : ∀ w1, Ext M w w1 → ∀ x cs, d.K w1 ok x cs → Calls Try.prog fn (#[.agg cs.toArray] ++ lb) w1 fun e w2 => e = .returned (.bool (p x)) ∧ Ext Non w1 w2
def findI {α : Type} (p : α → Bool) (xs : List α) : Int := match xs.findIdx? p with
  | some i => (i : Int)
  | none => -1
theorem findI_at {α : Type} {p : α → Bool} {xs : List α} {j : Nat} {x : α} (hx : xs[j]? = some x) (hp : p x = true) (ha : ∀ k y, k < j → xs[k]? = some y → p y = false) : findI p xs = (j : Int) := by
  have hj := (List.getElem?_eq_some_iff.1 hx).1
  have : xs.findIdx? p = some j := by
    rw [List.findIdx?_eq_some_iff_getElem]
    refine ⟨hj, ?_, fun k hk => ?_⟩
    · rw [(List.getElem?_eq_some_iff.1 hx).2]
      exact hp
    · rw [ha k _ hk (List.getElem?_eq_getElem (by omega))]
      simp
  unfold findI
  rw [this]
theorem findI_none {α : Type} {p : α → Bool} {xs : List α} (ha : ∀ (k : Nat) y, xs[k]? = some y → p y = false) : findI p xs = -1 := by
  have : xs.findIdx? p = none := by
    rw [List.findIdx?_eq_none_iff]
    intro x hx
    obtain ⟨k, hk⟩ := List.mem_iff_getElem?.1 hx
    exact ha k x hk
  unfold findI
  rw [this]
theorem findI_cases {α : Type} (p : α → Bool) (xs : List α) : (findI p xs = -1 ∧ ∀ x ∈ xs, p x = false) ∨ ∃ (i : Nat) (x : α), findI p xs = (i : Int) ∧ xs[i]? = some x ∧ p x = true ∧ ∀ k y, k < i → xs[k]? = some y → p y = false := by
  cases h : xs.findIdx? p with
  | none =>
    left
    refine ⟨by unfold findI; rw [h], ?_⟩
    exact List.findIdx?_eq_none_iff.1 h
  | some i =>
    right
    rw [List.findIdx?_eq_some_iff_getElem] at h
    obtain ⟨hi, h1, h2⟩ := h
    refine ⟨i, xs[i], ?_, List.getElem?_eq_getElem hi, h1, fun k y hk hy => ?_⟩
    · exact findI_at (List.getElem?_eq_getElem hi) h1 (fun k y hk hy => by
        have := h2 k hk
        rw [(List.getElem?_eq_some_iff.1 hy).2] at this
        simpa using this)
    · have := h2 k hk
      rw [(List.getElem?_eq_some_iff.1 hy).2] at this
      simpa using this
set_option maxRecDepth 100000 in
set_option maxHeartbeats 4000000 in
theorem IndexS_calls {w : World} {ok : Nat → Prop} {A : Option Addr} {k n c : Nat} {l : List Sb} {fn : FuncId} {lb : Array Value} {p : Sb → Bool} (H : Rd (sbK k) w ok (.slice A n c) l) (hp : PredOn (sbK k) fn lb p Non ok w) :
    Calls Try.prog 38 #[.slice A n c, .func (.func fn) #[] lb] w fun e w' => e = .returned (.int .i64 (findI p l)) ∧ Ext Non w w' := by
  obtain ⟨_, _, hs, _, hm⟩ := H.slice
  simp only [Value.slice.injEq] at hs
  obtain ⟨-, hn, -⟩ := hs
  have hmx : (n : Int) ≤ 9223372036854775807 := by omega
  have HH := Lib.hid H
  have HP := Lib.hid hp
  have HN := Lib.hid hn
  clear H hp hn hm
  go_enter Try.func38, Try.ntmps38
  go_wp2_with fail
  go_loopw [8] (fun i wr => ∃ j : Nat, i = .int .i64 (j : Int) ∧ j ≤ n ∧ Hid (Ext Non w wr) ∧ Hid (∀ k y, k < j → l[k]? = some y → p y = false)) (fun i _ => n - (intOf i).toNat)
  case atStart => exact ⟨0, rfl, by omega, Ext.refl _ _, fun k y hk => by omega⟩
  case round =>
    obtain ⟨j, rfl, hj, HE, HA⟩ := hrel
    by_cases hlt : j < n
    · obtain ⟨x, hx⟩ : ∃ x, l[j]? = some x := ⟨_, List.getElem?_eq_getElem (by have := HN.out; omega)⟩
      obtain ⟨ga, offa, B, bl, bd, rfl, hga, hgla, a0, a1, a2, a3, a4, a5, a6, a7, ar⟩ := sb_at (HH.out.ext0 HE.out) hx
      have hcall := HP.out.tells wr HE.out x _ ⟨_, rfl, ar⟩
      have HX := Lib.hid hx
      have eg := HP.out.enters
      clear hx ar
      cases hq : p x with
      | true =>
        rw [hq] at hcall
        have HQ := Lib.hid hq
        have HC := Lib.hid hcall
        clear hcall
        go_wp2_with fail
        refine HC.out.mono ?_
        rintro e w5 ⟨rfl, he⟩
        have HE5 := Lib.hid he
        clear he
        go_wp2_with fail
        go_ret
        refine ⟨?_, HE.out.trans0 HE5.out⟩
        rw [findI_at HX.out HQ.out HA.out]
        rfl
      | false =>
        rw [hq] at hcall
        have HQ := Lib.hid hq
        have HC := Lib.hid hcall
        clear hcall
        go_wp2_with fail
        refine HC.out.mono ?_
        rintro e w5 ⟨rfl, he⟩
        have HE5 := Lib.hid he
        clear he
        go_wp2_with fail
        go_roundw
        case rel =>
          refine ⟨j + 1, by go_num, by omega, HE.out.trans0 HE5.out, fun k y hk hy => ?_⟩
          rcases Nat.lt_succ_iff_lt_or_eq.1 hk with h | rfl
          · exact HA.out k y h hy
          · have := HX.out
            rw [hy] at this
            cases this
            exact HQ.out
        case measure => simp [intOf]; omega
    · obtain rfl : j = n := by omega
      go_wp2_with fail
      go_ret
      refine ⟨?_, HE.out⟩
      rw [findI_none (fun k y hk => HA.out k y (by have := (List.getElem?_eq_some_iff.1 hk).1; have := HN.out; omega) hk)]
      rfl
set_option maxRecDepth 100000 in
set_option maxHeartbeats 4000000 in
theorem IndexE_calls {w : World} {ok : Nat → Prop} {A : Option Addr} {n c : Nat} {l : List Ev} {fn : FuncId} {lb : Array Value} {p : Ev → Bool} (H : Rd evK w ok (.slice A n c) l) (hp : PredOn evK fn lb p Non ok w) :
    Calls Try.prog 91 #[.slice A n c, .func (.func fn) #[] lb] w fun e w' => e = .returned (.int .i64 (findI p l)) ∧ Ext Non w w' := by
  obtain ⟨_, _, hs, _, hm⟩ := H.slice
  simp only [Value.slice.injEq] at hs
  obtain ⟨-, hn, -⟩ := hs
  have hmx : (n : Int) ≤ 9223372036854775807 := by omega
  have HH := Lib.hid H
  have HP := Lib.hid hp
  have HN := Lib.hid hn
  clear H hp hn hm
  go_enter Try.func91, Try.ntmps91
  go_wp2_with fail
  go_loopw [8] (fun i wr => ∃ j : Nat, i = .int .i64 (j : Int) ∧ j ≤ n ∧ Hid (Ext Non w wr) ∧ Hid (∀ k y, k < j → l[k]? = some y → p y = false)) (fun i _ => n - (intOf i).toNat)
  case atStart => exact ⟨0, rfl, by omega, Ext.refl _ _, fun k y hk => by omega⟩
  case round =>
    obtain ⟨j, rfl, hj, HE, HA⟩ := hrel
    by_cases hlt : j < n
    · obtain ⟨x, hx⟩ : ∃ x, l[j]? = some x := ⟨_, List.getElem?_eq_getElem (by have := HN.out; omega)⟩
      obtain ⟨ga, offa, rfl, hga, hgla, a0, a1, a2, a3, a4, a5⟩ := ev_at (HH.out.ext0 HE.out) hx
      have hcall := HP.out.tells wr HE.out x _ rfl
      have HX := Lib.hid hx
      have eg := HP.out.enters
      clear hx
      cases hq : p x with
      | true =>
        rw [hq] at hcall
        have HQ := Lib.hid hq
        have HC := Lib.hid hcall
        clear hcall
        go_wp2_with fail
        refine HC.out.mono ?_
        rintro e w5 ⟨rfl, he⟩
        have HE5 := Lib.hid he
        clear he
        go_wp2_with fail
        go_ret
        refine ⟨?_, HE.out.trans0 HE5.out⟩
        rw [findI_at HX.out HQ.out HA.out]
        rfl
      | false =>
        rw [hq] at hcall
        have HQ := Lib.hid hq
        have HC := Lib.hid hcall
        clear hcall
        go_wp2_with fail
        refine HC.out.mono ?_
        rintro e w5 ⟨rfl, he⟩
        have HE5 := Lib.hid he
        clear he
        go_wp2_with fail
        go_roundw
        case rel =>
          refine ⟨j + 1, by go_num, by omega, HE.out.trans0 HE5.out, fun k y hk hy => ?_⟩
          rcases Nat.lt_succ_iff_lt_or_eq.1 hk with h | rfl
          · exact HA.out k y h hy
          · have := HX.out
            rw [hy] at this
            cases this
            exact HQ.out
        case measure => simp [intOf]; omega
    · obtain rfl : j = n := by omega
      go_wp2_with fail
      go_ret
      refine ⟨?_, HE.out⟩
      rw [findI_none (fun k y hk => HA.out k y (by have := (List.getElem?_eq_some_iff.1 hk).1; have := HN.out; omega) hk)]
      rfl
end Go.Proofs.Ytdjfijdnhfmeeaa

