/- The document's disk: Now, Used, Look, Tape, New, Start, Arm. -/
import Derived.Test.YtpmncppfopbaaaaE1
namespace Go.Proofs.Ytpmncppfopbaaaa
open Go.RowKit Go.TM

/-- The document's disk in memory: what lasts, and what waits. -/
def RefAt (w : World) (ok : Nat → Prop) (g : Nat) (d : Dk) : Prop :=
  ∃ B0 m0 d0 B1 m1 d1 B2 m2 d2 Aw nw cw, w.heap[g]? = some (.cells #[.int .i64 d.room, .slice B0 m0 d0, .slice B1 m1 d1, .slice B2 m2 d2, .slice Aw nw cw, .bool d.off, .int .i64 d.left, .int .i64 d.keep, .int .i64 d.tear] 82 (0, 0)) ∧
    PlateRd w ok (.slice B0 m0 d0) (.slice B1 m1 d1) (.slice B2 m2 d2) d.kept ∧ Rd actK w ok (.slice Aw nw cw) d.wait
theorem RefAt.ext {w w' : World} {ok : Nat → Prop} {g : Nat} {d : Dk} (h : RefAt w ok g d) (he : Ext Non w w') : RefAt w' ok g d := by
  obtain ⟨B0, m0, d0, B1, m1, d1, B2, m2, d2, Aw, nw, cw, hb, hp, hr⟩ := h
  exact ⟨B0, m0, d0, B1, m1, d1, B2, m2, d2, Aw, nw, cw, he.obj hb (fun e => e), ⟨hp.1.ext0 he, hp.2.1.ext0 he, hp.2.2.ext0 he⟩, hr.ext0 he⟩
theorem RefAt.mk' {w w' : World} {ok : Nat → Prop} {g : Nat} {d : Dk} {B0 B1 B2 Aw : Option Addr} {m0 m1 m2 nw d0 d1 d2 cw : Nat} (he : Ext (Only g) w w') (hg : ¬ ok g)
    (hb : w'.heap[g]? = some (.cells #[.int .i64 d.room, .slice B0 m0 d0, .slice B1 m1 d1, .slice B2 m2 d2, .slice Aw nw cw, .bool d.off, .int .i64 d.left, .int .i64 d.keep, .int .i64 d.tear] 82 (0, 0)))
    (h1 : PlateRd w ok (.slice B0 m0 d0) (.slice B1 m1 d1) (.slice B2 m2 d2) d.kept) (h2 : Rd actK w ok (.slice Aw nw cw) d.wait) : RefAt w' ok g d := by
  have hm : ∀ k, ok k → k < w.heap.size → ¬ Only g k := fun k hk _ e => hg (by have e' : k = g := e; rw [← e']; exact hk)
  exact ⟨B0, m0, d0, B1, m1, d1, B2, m2, d2, Aw, nw, cw, hb, ⟨h1.1.ext he hm, h1.2.1.ext he hm, h1.2.2.ext he hm⟩, h2.ext he hm⟩
theorem RefAt.flat {w : World} {ok : Nat → Prop} {g : Nat} {d : Dk} (h : RefAt w ok g d) : w.cell? ⟨g, 0, none⟩ = some (.int .i64 d.room) ∧ w.cell? ⟨g, 5, none⟩ = some (.bool d.off) ∧ w.cell? ⟨g, 6, none⟩ = some (.int .i64 d.left) ∧ w.cell? ⟨g, 7, none⟩ = some (.int .i64 d.keep) ∧ w.cell? ⟨g, 8, none⟩ = some (.int .i64 d.tear) ∧ (∀ i, w.frozen? ⟨g, i, none⟩ = false) ∧ g < w.heap.size := by
  obtain ⟨B0, m0, d0, B1, m1, d1, B2, m2, d2, Aw, nw, cw, hb, _⟩ := h
  exact ⟨blk_cell hb 0, blk_cell hb 5, blk_cell hb 6, blk_cell hb 7, blk_cell hb 8, fun i => blk_frozen hb i, blk_lt hb⟩
/-- .. at work. -/
structure RLive (w : World) (ok : Nat → Prop) (g : Nat) (d : Dk) : Prop where
  at_ : RefAt w ok g d
  good : d.Good
  fresh : ∀ k, w.heap.size ≤ k → ok k
  out : ¬ ok g
  wl : d.wait.length ≤ 100000000
theorem RLive.ext {w w' : World} {ok : Nat → Prop} {g : Nat} {d : Dk} (h : RLive w ok g d) (he : Ext Non w w') : RLive w' ok g d :=
  ⟨h.at_.ext he, h.good, fun k hk => h.fresh k (Nat.le_trans he.size hk), h.out, h.wl⟩
set_option maxHeartbeats 2000000 in
theorem rnow_calls {w : World} {ok : Nat → Prop} {g : Nat} {d : Dk} (L : RLive w ok g d) : Calls Try.prog 53 #[.pointer (some ⟨g, 0, none⟩)] w (PlatePost ok d.now w) := by
  have HF := Lib.hid L.fresh
  have HG := Lib.hid L.good
  have HGG := Lib.hid L.out
  obtain ⟨B0, m0, d0, B1, m1, d1, B2, m2, d2, Aw, nw, cw, hb, hp, hr⟩ := L.at_
  have h1 : w.cell? ⟨g, 1, none⟩ = some (.slice B0 m0 d0) := blk_cell hb 1
  have h2 : w.cell? ⟨g, 2, none⟩ = some (.slice B1 m1 d1) := blk_cell hb 2
  have h3 : w.cell? ⟨g, 3, none⟩ = some (.slice B2 m2 d2) := blk_cell hb 3
  have h4 : w.cell? ⟨g, 4, none⟩ = some (.slice Aw nw cw) := blk_cell hb 4
  have hgs := blk_lt hb
  have HR := Lib.hid hr
  have HP := Lib.hid hp
  obtain ⟨hn, hm⟩ := rd_len hr
  have HN := Lib.hid hn
  have q0 : (nw : Int) ≤ 9223372036854775807 := by omega
  obtain ⟨W, hW, b0, b1, e0, z0⟩ := boxes2 w (.cells #[.slice none 0 0, .slice none 0 0, .slice none 0 0] 79) (.cells #[.slice B0 m0 d0, .slice B1 m1 d1, .slice B2 m2 d2] 79)
  have B0' := Lib.hid b0
  have B1' := Lib.hid b1
  have E0 := Lib.hid e0
  have HW := Lib.hid hW
  have HZ := Lib.hid z0
  clear L hb hp hr hn hm hW b0 b1 e0 z0
  go_enter Try.func53, Try.ntmps53
  go_wp2_with fail
  rw [HW.out]
  clear h1 h2 h3 h4
  go_loopw [15] (fun i wr => ∃ (j : Nat) (C0 : Option Addr) (k0 l0 : Nat) (C1 : Option Addr) (k1 l1 : Nat) (C2 : Option Addr) (k2 l2 : Nat), i = .int .i64 j ∧ j ≤ nw ∧ Hid (wr.heap[w.heap.size]? = some (.cells #[.slice none 0 0, .slice none 0 0, .slice none 0 0] 79 (0, 0))) ∧ Hid (wr.heap[w.heap.size + 1]? = some (.cells #[.slice C0 k0 l0, .slice C1 k1 l1, .slice C2 k2 l2] 79 (0, 0))) ∧
      Hid (PlateRd wr (fun k => (ok k ∧ k < w.heap.size) ∨ w.heap.size + 2 ≤ k) (.slice C0 k0 l0) (.slice C1 k1 l1) (.slice C2 k2 l2) (d.kept.all (d.wait.take j))) ∧ Hid (Ext Non w wr)) (fun i _ => nw - (intOf i).toNat)
  case atStart => exact ⟨0, _, _, _, _, _, _, _, _, _, rfl, by omega, B0'.out, B1'.out, ⟨(HP.out.1.bound.ext0 E0.out).mono (fun _ h => .inl h), (HP.out.2.1.bound.ext0 E0.out).mono (fun _ h => .inl h), (HP.out.2.2.bound.ext0 E0.out).mono (fun _ h => .inl h)⟩, E0.out⟩
  case round =>
    obtain ⟨j, C0, k0, l0, C1, k1, l1, C2, k2, l2, rfl, hj, HB0, HB1, HPr, HEr⟩ := hrel
    have c0 := blk_cell HB1.out 0
    have c1 := blk_cell HB1.out 1
    have c2 := blk_cell HB1.out 2
    have a0 := blk_cell HB0.out 0
    have a1 := blk_cell HB0.out 1
    have a2 := blk_cell HB0.out 2
    have hb1 := blk_lt HB1.out
    simp at c0 c1 c2 a0 a1 a2
    by_cases hlt : j < nw
    · obtain ⟨a, hx⟩ : ∃ a, d.wait[j]? = some a := ⟨_, List.getElem?_eq_getElem (by have := HN.out; omega)⟩
      obtain ⟨ga, off, cs, rfl, hga, hgl, hk, hcs⟩ := (HR.out.bound.ext0 HEr.out).at_ hx
      obtain ⟨v, rfl, hv⟩ := hk
      obtain ⟨A3, n3, c3, rfl, -⟩ := rd_abs hv
      have e0 : wr.cell? ⟨ga, off + j * 2, none⟩ = some (.int .i64 a.kind) := hcs 0 _ rfl
      have e1 : wr.cell? ⟨ga, off + j * 2 + 1, none⟩ = some (.slice A3 n3 c3) := hcs 1 _ rfl
      obtain ⟨hne, htl, hkd⟩ := HG.out.next hx
      have HNE := Lib.hid hne
      have HTL := Lib.hid htl
      have HKD := Lib.hid hkd
      have eA : Ext Non wr (wr.alloc (.cells #[.int .i64 a.kind, .slice A3 n3 c3] 86)) := (Ext.refl Non wr).alloc _
      have HV := Lib.hid ((hv.ext0 eA).mono (ok' := fun k => (ok k ∧ k < w.heap.size) ∨ w.heap.size + 2 ≤ k) (fun k h => .inl h))
      have PA := Lib.hid (And.intro (HPr.out.1.ext0 eA) (And.intro (HPr.out.2.1.ext0 eA) (HPr.out.2.2.ext0 eA)))
      have EA := Lib.hid eA
      have hz : w.heap.size + 2 ≤ wr.heap.size := by omega
      have HZ2 := Lib.hid hz
      clear hx hcs hv hne htl hkd eA hga hz
      go_wp2_with fail
      refine (on_calls (p := d.kept.all (d.wait.take j)) (a := a) PA.out HV.out HKD.out (fun k hk => .inr (by have := HZ2.out; have := EA.out.size; omega)) HTL.out).mono ?_
      rintro e w2 ⟨D0, p0, q0', D1, p1, q1', D2, p2, q2', rfl, hp, he⟩
      have hb0' := Lib.hid (he.out.obj (EA.out.obj HB0.out (fun e => e)) (fun e => e))
      have hb1' := he.out.obj (EA.out.obj HB1.out (fun e => e)) (fun e => e)
      have BB1 := Lib.hid hb1'
      have c0 := blk_cell hb1' 0
      have c1 := blk_cell hb1' 1
      have c2 := blk_cell hb1' 2
      simp at c0 c1 c2
      have y0 := blk_frozen hb1' 0
      have y1 := blk_frozen hb1' 1
      have y2 := blk_frozen hb1' 2
      have E2 := Lib.hid ((HEr.out.trans0 EA.out).trans0 he.out)
      have HP2 := hp
      have EM : Hid (Ext (Only (w.heap.size + 1)) w2 (((w2.setCell ⟨w.heap.size + 1, 0, none⟩ (.slice D0 p0 q0')).setCell ⟨w.heap.size + 1, 1, none⟩ (.slice D1 p1 q1')).setCell ⟨w.heap.size + 1, 2, none⟩ (.slice D2 p2 q2'))) := (((Ext.refl _ w2).og 0 _).og 1 _).og 2 _
      clear he hp hb1' a0 a1 a2
      go_wp2_with fail
      have hm : ∀ k, ((ok k ∧ k < w.heap.size) ∨ w.heap.size + 2 ≤ k) → k < w2.heap.size → ¬ Only (w.heap.size + 1) k := fun k hk _ e => by
        have e' : k = w.heap.size + 1 := e
        omega
      go_roundw
      case rel =>
        refine ⟨j + 1, D0, p0, q0', D1, p1, q1', D2, p2, q2', by go_num, by omega, ?_, ?_, ?_, ?_⟩
        · exact EM.out.obj hb0'.out (fun e => by have e' : w.heap.size = w.heap.size + 1 := e; omega)
        · have h := blk_set (blk_set (blk_set BB1.out 0 (.slice D0 p0 q0')) 1 (.slice D1 p1 q1')) 2 (.slice D2 p2 q2')
          exact Lib.hid (by simpa using h)
        · rw [HNE.out]
          exact ⟨HP2.out.1.ext EM.out hm, HP2.out.2.1.ext EM.out hm, HP2.out.2.2.ext EM.out hm⟩
        · exact ((E2.out.setNew (by omega) _).setNew (by omega) _).setNew (by omega) _
      case measure => simp [intOf]; omega
    · obtain rfl : nw = j := by omega
      have hnow : d.kept.all (d.wait.take nw) = d.now := by rw [List.take_of_length_le (by have := HN.out; omega), HG.out.now]
      have HNO := Lib.hid hnow
      have y0 := blk_frozen HB0.out 0
      have y1 := blk_frozen HB0.out 1
      have y2 := blk_frozen HB0.out 2
      have EM : Hid (Ext (Only w.heap.size) wr (((wr.setCell ⟨w.heap.size, 0, none⟩ (.slice C0 k0 l0)).setCell ⟨w.heap.size, 1, none⟩ (.slice C1 k1 l1)).setCell ⟨w.heap.size, 2, none⟩ (.slice C2 k2 l2))) := (((Ext.refl _ wr).og 0 _).og 1 _).og 2 _
      clear hnow
      go_wp2_with fail
      have hblk : (((wr.setCell ⟨w.heap.size, 0, none⟩ (.slice C0 k0 l0)).setCell ⟨w.heap.size, 1, none⟩ (.slice C1 k1 l1)).setCell ⟨w.heap.size, 2, none⟩ (.slice C2 k2 l2)).heap[w.heap.size]? = some (.cells #[.slice C0 k0 l0, .slice C1 k1 l1, .slice C2 k2 l2] 79 (0, 0)) := by
        have h := blk_set (blk_set (blk_set HB0.out 0 (.slice C0 k0 l0)) 1 (.slice C1 k1 l1)) 2 (.slice C2 k2 l2)
        simpa using h
      have hc0 := blk_cell hblk 0
      have hc1 := blk_cell hblk 1
      have hc2 := blk_cell hblk 2
      simp at hc0 hc1 hc2
      (try simp only [Exit.inBlock, Exit.then])
      refine bodyPost_ret (v := .agg #[.slice C0 k0 l0, .slice C1 k1 l1, .slice C2 k2 l2]) (by simp [results, Try.results53, go_sem, hc0, hc1, hc2]) rfl ?_
      have hm : ∀ k, ((ok k ∧ k < w.heap.size) ∨ w.heap.size + 2 ≤ k) → k < wr.heap.size → ¬ Only w.heap.size k := fun k hk _ e => by
        have e' : k = w.heap.size := e
        omega
      have hok : ∀ k, ((ok k ∧ k < w.heap.size) ∨ w.heap.size + 2 ≤ k) → ok k := fun k h => h.elim (fun h => h.1) (fun h => HF.out k (by omega))
      refine ⟨_, _, _, _, _, _, _, _, _, rfl, ?_, ((HEr.out.setNew (Nat.le_refl _) _).setNew (Nat.le_refl _) _).setNew (Nat.le_refl _) _⟩
      rw [← HNO.out]
      exact ⟨(HPr.out.1.ext EM.out hm).mono hok, (HPr.out.2.1.ext EM.out hm).mono hok, (HPr.out.2.2.ext EM.out hm).mono hok⟩
end Go.Proofs.Ytpmncppfopbaaaa
