/- Ground for DiskPlays: no disk; bytes copied; bytes turned; two disks side by side. -/
import Derived.Test.YtpmncppfopbaaaaE6
import Derived.Test.YtpmncppfopbaaaaD1
namespace Go.Proofs.Ytpmncppfopbaaaa
open Go.RowKit Go.TM

theorem new_bad (w : World) (room : Int) (h : room < 1 ∨ 16777216 < room) : Calls Try.prog 22 #[.int .i64 room] w fun e w' => e = .returned (.tuple #[.pointer none, .int .i64 1]) ∧ w = w' := by
  rcases h with h | h
  case' inr => have h2 : 1 ≤ room := by omega
  all_goals
    go_enter Try.func22, Try.ntmps22
    go_wp2_with fail
    go_ret2
    exact ⟨rfl, rfl⟩
theorem rnew_bad (w : World) (room : Int) (h : room < 1 ∨ 16777216 < room) : Calls Try.prog 31 #[.int .i64 room] w fun e w' => e = .returned (.tuple #[.pointer none, .int .i64 1]) ∧ w = w' := by
  rcases h with h | h
  case' inr => have h2 : 1 ≤ room := by omega
  all_goals
    go_enter Try.func31, Try.ntmps31
    go_wp2_with fail
    go_ret2
    exact ⟨rfl, rfl⟩
def OwnB2 (b : List UInt8) (w : World) (e : Ending) (w' : World) : Prop :=
  ∃ A n c, e = .returned (.slice A n c) ∧ Hid (Own Kd.u8 5 w' w.heap.size (fun _ => True) (.slice A n c) b) ∧ Hid (Ext Non w w')
theorem cloneB_calls {w : World} {ok : Nat → Prop} {A : Option Addr} {n c : Nat} {b : List UInt8} (H : Rd Kd.u8 w ok (.slice A n c) b) (hl : b.length ≤ 140737488355328) :
    Calls Try.prog 32 #[.slice A n c] w (OwnB2 b w) := by
  obtain ⟨A', c', he, hc, hm⟩ := H.slice
  have hq := Lib.run_eql_slice_nil (P := Try.prog) w 30 5 A n c 0 0 Try.underlying30
  have HH := Lib.hid H
  cases A with
  | none =>
    have h0 : b = [] := by
      obtain ⟨_, inner, _, h⟩ := H.cells_
      rcases Nat.eq_zero_or_pos b.length with h0 | h0
      · exact List.eq_nil_of_length_eq_zero h0
      · obtain ⟨g, off, h1, _⟩ := h h0
        cases h1
    subst h0
    clear H hc hm
    simp at he
    obtain ⟨rfl, rfl, rfl⟩ := he
    simp at hq
    go_enter Try.func32, Try.ntmps32
    go_wp2_with fail
    go_ret
    exact ⟨_, _, _, rfl, Own.nil _ _ _ _ _, Ext.refl _ _⟩
  | some ad =>
    clear H he hc hm
    go_enter Try.func32, Try.ntmps32
    go_wp2_with (at_builtin; refine app_own (w0 := w) (xs := []) rfl _ _ rfl rfl rfl (lit0 (Ext.refl _ _)) ((Ext.refl Non w).alloc _) HH.out (by simpa using hl) ?_; intro A1 n1 c1 w1 hn1 O1 E1)
    go_ret
    exact ⟨_, _, _, rfl, Lib.hid (by simpa using O1.out), E1⟩

/-! ### Bytes that are turned in place -/
/-- From place j on they stand there as they were. -/
def XInv (w : World) (base : Nat) (A : Option Addr) (xs : List UInt8) (j : Nat) : Prop :=
  j < xs.length → ∃ gb cur, A = some ⟨gb, 0, none⟩ ∧ base ≤ gb ∧ w.heap[gb]? = some (.cells cur 5 (0, 0)) ∧ ∀ k x, j ≤ k → xs[k]? = some x → cur[k]? = some (.int .u8 x.toNat)
theorem XInv.start {w : World} {base : Nat} {ok : Nat → Prop} {A : Option Addr} {n c : Nat} {xs : List UInt8} (O : Own Kd.u8 5 w base ok (.slice A n c) xs) : XInv w base A xs 0 := by
  intro h0
  have hb := O.base_le
  have O2 := O
  obtain ⟨_, inner, ho, _⟩ := O
  rcases ho.2 with ⟨h2, h3⟩ | ⟨g, cap, cur, h2, hbg, hh, _⟩
  · omega
  · simp only [Value.slice.injEq] at h2
    obtain ⟨rfl, rfl, rfl⟩ := h2
    obtain ⟨_, cur2, B⟩ := O2.to_blk
    refine ⟨g, cur2, rfl, hbg, B.blk, fun k x _ hx => ?_⟩
    have ht := B.take
    have hk := (List.getElem?_eq_some_iff.1 hx).1
    have h1 : (cur2.toList.take (xs.length * 1))[k]? = cur2[k]? := by
      rw [List.getElem?_take_of_lt (by omega)]
      simp
    rw [← h1, ht]
    rw [show (fun n : UInt8 => [Value.int .u8 n.toNat]) = (fun n => [Value.int .u8 n.toNat]) from rfl, flat_map_u8, List.getElem?_map, hx]
    rfl
theorem XInv.ext {w w' : World} {base : Nat} {A : Option Addr} {xs : List UInt8} {j : Nat} (h : XInv w base A xs j) (he : Ext Non w w') : XInv w' base A xs j := fun hl => by
  obtain ⟨gb, cur, h1, h2, h3, h4⟩ := h hl
  exact ⟨gb, cur, h1, h2, he.obj h3 (fun e => e), h4⟩
theorem XInv.get {w : World} {base : Nat} {A : Option Addr} {xs : List UInt8} {j : Nat} {x : UInt8} (h : XInv w base A xs j) (hx : xs[j]? = some x) :
    ∃ gb, A = some ⟨gb, 0, none⟩ ∧ base ≤ gb ∧ gb < w.heap.size ∧ w.cell? ⟨gb, j, none⟩ = some (.int .u8 x.toNat) ∧ w.frozen? ⟨gb, j, none⟩ = false ∧ ∀ v, XInv (w.setCell ⟨gb, j, none⟩ v) base A xs (j + 1) := by
  obtain ⟨gb, cur, h1, h2, h3, h4⟩ := h (List.getElem?_eq_some_iff.1 hx).1
  refine ⟨gb, h1, h2, blk_lt h3, (blk_cell h3 j).trans (h4 j x (Nat.le_refl _) hx), blk_frozen h3 j, fun v _ => ⟨gb, _, h1, h2, blk_set h3 j v, fun k y hk hy => ?_⟩⟩
  rw [Array.getElem?_setIfInBounds_ne (by omega)]
  exact h4 k y (by omega) hy
/-- Only new blocks. -/
abbrev From (base : Nat) : Nat → Prop := fun k => base ≤ k

theorem RefAt.sub {w : World} {ok ok' : Nat → Prop} {g : Nat} {d : Dk} (h : RefAt w ok g d) (hok : ∀ k, ok k → k < w.heap.size → ok' k) : RefAt w ok' g d := by
  obtain ⟨B0, m0, d0, B1, m1, d1, B2, m2, d2, Aw, nw, cw, hb, hp, hr⟩ := h
  have hm : ∀ k, ok k ∧ k < w.heap.size → ok' k := fun k hk => hok k hk.1 hk.2
  exact ⟨B0, m0, d0, B1, m1, d1, B2, m2, d2, Aw, nw, cw, hb, ⟨hp.1.bound.mono hm, hp.2.1.bound.mono hm, hp.2.2.bound.mono hm⟩, hr.bound.mono hm⟩
theorem RefAt.far {w w' : World} {M ok : Nat → Prop} {g : Nat} {d : Dk} (h : RefAt w ok g d) (he : Ext M w w') (hg : ¬ M g) (hm : ∀ k, ok k → k < w.heap.size → ¬ M k) : RefAt w' ok g d := by
  obtain ⟨B0, m0, d0, B1, m1, d1, B2, m2, d2, Aw, nw, cw, hb, hp, hr⟩ := h
  exact ⟨B0, m0, d0, B1, m1, d1, B2, m2, d2, Aw, nw, cw, he.obj hb hg, ⟨hp.1.ext he hm, hp.2.1.ext he hm, hp.2.2.ext he hm⟩, hr.ext he hm⟩
theorem DiskAt.far {w w' : World} {M ok : Nat → Prop} {g : Nat} {d : Dk} (h : DiskAt w ok g d) (he : Ext M w w') (hg : ¬ M g) (hm : ∀ k, ok k → k < w.heap.size → ¬ M k) : DiskAt w' ok g d := by
  obtain ⟨a0, a1, a2, b0, b1, b2, wv, hb, r0, r1, r2, r3, r4, r5, r6⟩ := h
  exact ⟨a0, a1, a2, b0, b1, b2, wv, he.obj hb hg, r0.ext he hm, r1.ext he hm, r2.ext he hm, r3.ext he hm, r4.ext he hm, r5.ext he hm, r6.ext he hm⟩
/-- Both disks, at work, apart from one another. -/
structure Pair (w : World) (a x : Nat) (d : Dk) : Prop where
  da : DiskAt w (fun k => k ≠ a ∧ k ≠ x) a d
  dx : RefAt w (fun k => k ≠ a ∧ k ≠ x) x d
  ne : a ≠ x
  la : a < w.heap.size
  lx : x < w.heap.size
  good : d.Good
  wl : d.wait.length ≤ 80000000
theorem Pair.live {w : World} {a x : Nat} {d : Dk} (h : Pair w a x d) : Live w (fun k => k ≠ a ∧ k ≠ x) a d :=
  ⟨h.da, h.good, fun k hk => by have := h.la; have := h.lx; exact ⟨by omega, by omega⟩, fun e => e.1 rfl, by have := h.wl; omega⟩
theorem Pair.rlive {w : World} {a x : Nat} {d : Dk} (h : Pair w a x d) : RLive w (fun k => k ≠ a ∧ k ≠ x) x d :=
  ⟨h.dx, h.good, fun k hk => by have := h.la; have := h.lx; exact ⟨by omega, by omega⟩, fun e => e.2 rfl, by have := h.wl; omega⟩
/-- The same, apart from what is made later. -/
structure Tight (w0 w : World) (a x : Nat) (d : Dk) : Prop where
  da : DiskAt w (fun k => (k ≠ a ∧ k ≠ x) ∧ k < w0.heap.size) a d
  dx : RefAt w (fun k => (k ≠ a ∧ k ≠ x) ∧ k < w0.heap.size) x d
  ne : a ≠ x
  la : a < w0.heap.size
  lx : x < w0.heap.size
  le : w0.heap.size ≤ w.heap.size
  good : d.Good
  wl : d.wait.length ≤ 80000000
theorem Pair.tight {w : World} {a x : Nat} {d : Dk} (h : Pair w a x d) : Tight w w a x d :=
  ⟨h.da.sub (fun _ hk hl => ⟨hk, hl⟩), h.dx.sub (fun _ hk hl => ⟨hk, hl⟩), h.ne, h.la, h.lx, Nat.le_refl _, h.good, h.wl⟩
theorem Tight.pair {w0 w : World} {a x : Nat} {d : Dk} (h : Tight w0 w a x d) : Pair w a x d :=
  ⟨h.da.sub (fun _ hk _ => hk.1), h.dx.sub (fun _ hk _ => hk.1), h.ne, Nat.lt_of_lt_of_le h.la h.le, Nat.lt_of_lt_of_le h.lx h.le, h.good, h.wl⟩
theorem Tight.ext {w0 w w' : World} {a x : Nat} {d : Dk} (h : Tight w0 w a x d) (he : Ext (From w0.heap.size) w w') : Tight w0 w' a x d := by
  have hm : ∀ k, ((k ≠ a ∧ k ≠ x) ∧ k < w0.heap.size) → k < w.heap.size → ¬ From w0.heap.size k := fun k hk _ e => by
    have e1 : w0.heap.size ≤ k := e
    have := hk.2
    omega
  exact ⟨h.da.far he (fun e => by have e1 : w0.heap.size ≤ a := e; have := h.la; omega) hm, h.dx.far he (fun e => by have e1 : w0.heap.size ≤ x := e; have := h.lx; omega) hm, h.ne, h.la, h.lx, Nat.le_trans h.le he.size, h.good, h.wl⟩
theorem Pair.ext {w w' : World} {a x : Nat} {d : Dk} (h : Pair w a x d) (he : Ext Non w w') : Pair w' a x d :=
  ⟨h.da.ext he, h.dx.ext he, h.ne, Nat.lt_of_lt_of_le h.la he.size, Nat.lt_of_lt_of_le h.lx he.size, h.good, h.wl⟩
end Go.Proofs.Ytpmncppfopbaaaa
