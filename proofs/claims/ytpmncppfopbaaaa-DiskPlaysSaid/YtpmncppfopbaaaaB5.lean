/- Crash. -/
import Derived.Test.YtpmncppfopbaaaaB4
namespace Go.Proofs.Ytpmncppfopbaaaa
open Go.RowKit Go.TM

def DPost (ok : Nat → Prop) (g : Nat) (r : Int × Dk) (w : World) (e : Ending) (w' : World) : Prop :=
  e = .returned (.int .i64 r.1) ∧ DiskAt w' ok g r.2 ∧ Ext (Only g) w w'
theorem DiskAt.ext {w w' : World} {ok : Nat → Prop} {g : Nat} {d : Dk} (h : DiskAt w ok g d) (he : Ext Non w w') : DiskAt w' ok g d := by
  obtain ⟨a0, a1, a2, b0, b1, b2, wv, hb, r0, r1, r2, r3, r4, r5, r6⟩ := h
  exact ⟨a0, a1, a2, b0, b1, b2, wv, he.obj hb (fun e => e), r0.ext0 he, r1.ext0 he, r2.ext0 he, r3.ext0 he, r4.ext0 he, r5.ext0 he, r6.ext0 he⟩
/-- The block and the slices, written out. -/
theorem DiskAt.open {w : World} {ok : Nat → Prop} {g : Nat} {d : Dk} (h : DiskAt w ok g d) : ∃ A0 n0 c0 A1 n1 c1 A2 n2 c2 B0 m0 d0 B1 m1 d1 B2 m2 d2 Aw nw cw,
    w.heap[g]? = some (.cells #[.slice A0 n0 c0, .slice A1 n1 c1, .slice A2 n2 c2, .slice B0 m0 d0, .slice B1 m1 d1, .slice B2 m2 d2, .slice Aw nw cw, .int .i64 d.room, .bool d.off, .int .i64 d.left, .int .i64 d.keep, .int .i64 d.tear] 57 (0, 0)) ∧
    PlateRd w ok (.slice A0 n0 c0) (.slice A1 n1 c1) (.slice A2 n2 c2) d.now ∧ PlateRd w ok (.slice B0 m0 d0) (.slice B1 m1 d1) (.slice B2 m2 d2) d.kept ∧ Rd actK w ok (.slice Aw nw cw) d.wait ∧ nw = d.wait.length := by
  obtain ⟨a0, a1, a2, b0, b1, b2, wv, hb, r0, r1, r2, r3, r4, r5, r6⟩ := h
  obtain ⟨A0, n0, c0, rfl, _⟩ := rd_abs r0
  obtain ⟨A1, n1, c1, rfl, _⟩ := rd_abs r1
  obtain ⟨A2, n2, c2, rfl, _⟩ := rd_abs r2
  obtain ⟨B0, m0, d0, rfl, _⟩ := rd_abs r3
  obtain ⟨B1, m1, d1, rfl, _⟩ := rd_abs r4
  obtain ⟨B2, m2, d2, rfl, _⟩ := rd_abs r5
  obtain ⟨Aw, nw, cw, rfl, hw⟩ := rd_abs r6
  exact ⟨A0, n0, c0, A1, n1, c1, A2, n2, c2, B0, m0, d0, B1, m1, d1, B2, m2, d2, Aw, nw, cw, hb, ⟨r0, r1, r2⟩, ⟨r3, r4, r5⟩, r6, hw⟩
/-- Whatever is stored into the disk's block, what its slices lead to stays. -/
theorem DiskAt.mk' {w w' : World} {ok : Nat → Prop} {g : Nat} {d : Dk} {a0 a1 a2 b0 b1 b2 wv : Value} (he : Ext (Only g) w w') (hg : ¬ ok g)
    (hb : w'.heap[g]? = some (.cells #[a0, a1, a2, b0, b1, b2, wv, .int .i64 d.room, .bool d.off, .int .i64 d.left, .int .i64 d.keep, .int .i64 d.tear] 57 (0, 0)))
    (h0 : PlateRd w ok a0 a1 a2 d.now) (h1 : PlateRd w ok b0 b1 b2 d.kept) (h2 : Rd actK w ok wv d.wait) : DiskAt w' ok g d := by
  have hm : ∀ k, ok k → k < w.heap.size → ¬ Only g k := fun k hk _ e => hg (by have e' : k = g := e; rw [← e']; exact hk)
  exact ⟨a0, a1, a2, b0, b1, b2, wv, hb, h0.1.ext he hm, h0.2.1.ext he hm, h0.2.2.ext he hm, h1.1.ext he hm, h1.2.1.ext he hm, h1.2.2.ext he hm, h2.ext he hm⟩
theorem _root_.Go.TM.Ext.og {w w' : World} {g : Nat} (h : Ext (Only g) w w') (i : Nat) (v : Value) : Ext (Only g) w (w'.setCell ⟨g, i, none⟩ v) := h.setCell (p := ⟨g, i, none⟩) (fun _ => rfl) v
theorem DiskAt.kept3 {w : World} {ok : Nat → Prop} {g : Nat} {d : Dk} {p : Plate} {D0 D1 D2 : Value} (h : DiskAt w ok g d) (hg : ¬ ok g) (hp : PlateRd w ok D0 D1 D2 p) :
    DiskAt (((w.setCell ⟨g, 3, none⟩ D0).setCell ⟨g, 4, none⟩ D1).setCell ⟨g, 5, none⟩ D2) ok g (d.withKept p) := by
  obtain ⟨a0, a1, a2, b0, b1, b2, wv, hb, r0, r1, r2, r3, r4, r5, r6⟩ := h
  refine DiskAt.mk' (w := w) (a0 := a0) (a1 := a1) (a2 := a2) (b0 := D0) (b1 := D1) (b2 := D2) (wv := wv) ?_ hg ?_ ⟨r0, r1, r2⟩ hp r6
  · exact (((Ext.refl _ w).og 3 D0).og 4 D1).og 5 D2
  · have h := blk_set (blk_set (blk_set hb 3 D0) 4 D1) 5 D2
    simpa [Dk.withKept] using h
theorem DiskAt.down {w : World} {ok : Nat → Prop} {g : Nat} {d : Dk} {p : Plate} {b0 b1 b2 : Value} (keep tear : Int) (h : DiskAt w ok g (d.withKept p)) (hg : ¬ ok g) (hp : p = d.fell keep tear) (h3 : w.cell? ⟨g, 3, none⟩ = some b0) (h4 : w.cell? ⟨g, 4, none⟩ = some b1) (h5 : w.cell? ⟨g, 5, none⟩ = some b2) :
    DiskAt ((((((w.setCell ⟨g, 0, none⟩ b0).setCell ⟨g, 1, none⟩ b1).setCell ⟨g, 2, none⟩ b2).setCell ⟨g, 6, none⟩ (.slice none 0 0)).setCell ⟨g, 8, none⟩ (.bool true)).setCell ⟨g, 9, none⟩ (.int .i64 0)) ok g (d.down keep tear) ∧
    Ext (Only g) w ((((((w.setCell ⟨g, 0, none⟩ b0).setCell ⟨g, 1, none⟩ b1).setCell ⟨g, 2, none⟩ b2).setCell ⟨g, 6, none⟩ (.slice none 0 0)).setCell ⟨g, 8, none⟩ (.bool true)).setCell ⟨g, 9, none⟩ (.int .i64 0)) := by
  have hE : Ext (Only g) w ((((((w.setCell ⟨g, 0, none⟩ b0).setCell ⟨g, 1, none⟩ b1).setCell ⟨g, 2, none⟩ b2).setCell ⟨g, 6, none⟩ (.slice none 0 0)).setCell ⟨g, 8, none⟩ (.bool true)).setCell ⟨g, 9, none⟩ (.int .i64 0)) := ((((((Ext.refl _ w).og 0 b0).og 1 b1).og 2 b2).og 6 _).og 8 _).og 9 _
  refine ⟨?_, hE⟩
  obtain ⟨a0, a1, a2, b0', b1', b2', wv, hb, r0, r1, r2, r3, r4, r5, r6⟩ := h
  have g3 := blk_cell hb 3
  have g4 := blk_cell hb 4
  have g5 := blk_cell hb 5
  rw [h3] at g3
  rw [h4] at g4
  rw [h5] at g5
  simp at g3 g4 g5
  subst g3 g4 g5
  refine DiskAt.mk' (w := w) (a0 := b0) (a1 := b1) (a2 := b2) (b0 := b0) (b1 := b1) (b2 := b2) (wv := .slice none 0 0) hE hg ?_ ?_ ?_ (Rd.nil _ _ _)
  · have h := blk_set (blk_set (blk_set (blk_set (blk_set (blk_set hb 0 b0) 1 b1) 2 b2) 6 (.slice none 0 0)) 8 (.bool true)) 9 (.int .i64 0)
    simpa [Dk.down, Dk.withKept] using h
  · show PlateRd w ok b0 b1 b2 (d.fell keep tear)
    rw [← hp]
    exact ⟨r3, r4, r5⟩
  · show PlateRd w ok b0 b1 b2 (d.fell keep tear)
    rw [← hp]
    exact ⟨r3, r4, r5⟩
/-- The prefix that is done: the loop. -/
def LoopInv (w : World) (ok : Nat → Prop) (g : Nat) (d : Dk) (j : Nat) (wr : World) : Prop := Hid (DiskAt wr ok g (d.withKept (d.kept.all (d.wait.take j)))) ∧ Hid (Ext (Only g) w wr)
set_option maxHeartbeats 1000000 in
theorem crash_up {w : World} {ok : Nat → Prop} {g : Nat} {d : Dk} (H : DiskAt w ok g d) (hG : d.Good) (hf : ∀ k, w.heap.size ≤ k → ok k) (hg : ¬ ok g) (hab : d.able = 0) (keep tear : Int) :
    Calls Try.prog 19 #[.pointer (some ⟨g, 0, none⟩), .int .i64 keep, .int .i64 tear] w (DPost ok g (0, d.down keep tear) w) := by
  have HH := Lib.hid H
  have HG := Lib.hid hG
  have HF := Lib.hid hf
  have HA := Lib.hid hab
  have HGG := Lib.hid hg
  have hgs : g < w.heap.size := by
    obtain ⟨_, _, _, _, _, _, _, hb, _⟩ := H
    exact blk_lt hb
  obtain ⟨A0, n0, c0, A1, n1, c1, A2, n2, c2, B0, m0, d0, B1, m1, d1, B2, m2, d2, Aw, nw, cw, hb, hp0, hp1, hw, hnw⟩ := H.open
  have e6 := blk_cell hb 6
  simp at e6
  obtain ⟨_, cw', he, hcw, hmw⟩ := hw.slice
  simp only [Value.slice.injEq] at he
  obtain ⟨rfl, he0, rfl⟩ := he
  have qc : (nw : Int) ≤ (cw : Int) := by omega
  have qcm : (nw : Int) ≤ 9223372036854775807 := by omega
  have hup : (d.upto keep : Int) = max 0 (min keep (nw : Int)) := by
    rw [hnw]
    unfold Dk.upto
    omega
  have hun : d.upto keep ≤ nw := by rw [hnw]; exact d.upto_le keep
  obtain ⟨N, hN⟩ : ∃ N : Nat, N = d.upto keep := ⟨_, rfl⟩
  rw [← hN] at hup hun
  have HUP := Lib.hid hup
  have HUN := Lib.hid hun
  have HNW := Lib.hid hnw
  have HN := Lib.hid hN
  have HW := Lib.hid hw
  clear H hG hf hg hab hb hp0 hp1 hw hcw hmw hnw hN hup hun he0
  go_enter Try.func19, Try.ntmps19
  go_wp2_with fail
  refine (able_calls HH.out).mono ?_
  rintro e w1 ⟨rfl, rfl⟩
  rw [HA.out]
  go_upto_region 4 with fail
  go_cut [8] (fun s8 wx => s8 = .int .i64 (N : Int) ∧ w = wx)
  case first =>
    go_wp2_with fail
    all_goals
      go_meet
      refine ⟨congrArg (Value.int IntKind.i64) ?_, rfl⟩
      have h1 := HUP.out
      (repeat' split at *) <;> omega
  obtain ⟨rfl, rfl⟩ := hcut
  have hun := HUN.out
  have q1 : (0 : Int) ≤ (N : Int) := by omega
  have q2 : (N : Int) ≤ (cw : Int) := by omega
  have q3 : max (N : Int) 0 = (N : Int) := by omega
  have q4 : (N : Int) ≤ 9223372036854775807 := by omega
  clear hun
  have HQ := Lib.hid q2
  go_wp2_with fail
  clear e6
  go_loopw [31] (fun i wr => ∃ j : Nat, j ≤ N ∧ i = .int .i64 j ∧ LoopInv w ok g d j wr) (fun i _ => N - (intOf i).toNat)
  case atStart => exact ⟨0, by omega, rfl, HH.out, Ext.refl _ _⟩
  case round =>
    obtain ⟨j, hj, rfl, HI, HEr⟩ := hrel
    have hx0 : ∀ k, ok k → k < w.heap.size → ¬ Only g k := fun k hk _ e => HGG.out (by have e' : k = g := e; rw [← e']; exact hk)
    have HX0 := Lib.hid hx0
    have hf1 : ∀ k, wr.heap.size ≤ k → ok k := fun k hk => HF.out k (Nat.le_trans HEr.out.size hk)
    have HF0 := Lib.hid hf1
    clear hx0 hf1
    have hnl := HNW.out
    have hun := HUN.out
    by_cases hlt : j < N
    · obtain ⟨a, hx⟩ : ∃ a, d.wait[j]? = some a := ⟨_, List.getElem?_eq_getElem (by omega)⟩
      obtain ⟨ga, off, cs, rfl, hga, hgl, hk, hcs⟩ := (HW.out.ext HEr.out HX0.out).at_ hx
      obtain ⟨v, rfl, hv⟩ := hk
      obtain ⟨A3, n3, c3, rfl, -⟩ := rd_abs hv
      have z0 : wr.cell? ⟨ga, off + j * 2, none⟩ = some (.int .i64 a.kind) := hcs 0 _ rfl
      have z1 : wr.cell? ⟨ga, off + j * 2 + 1, none⟩ = some (.slice A3 n3 c3) := hcs 1 _ rfl
      obtain ⟨hne, htl, hkd⟩ := HG.out.next hx
      obtain ⟨_, _, _, _, _, _, _, _, _, B0, m0, d0, B1, m1, d1, B2, m2, d2, _, _, _, hb, -, hp1, -, -⟩ := HI.out.open
      have hgr := blk_lt hb
      have HNE := Lib.hid hne
      have HTL := Lib.hid htl
      have HKD := Lib.hid hkd
      have hp1 : PlateRd wr ok (.slice B0 m0 d0) (.slice B1 m1 d1) (.slice B2 m2 d2) (d.kept.all (d.wait.take j)) := hp1
      have HP0 := Lib.hid hp1
      have HV0 := Lib.hid hv
      have HB := Lib.hid hb
      have hgne : g ≠ ga := fun e => HGG.out (by rw [e]; exact hga)
      generalize d.kept.all (d.wait.take j) = p at HI hne htl HNE HTL HP0 hp1
      clear hx hcs hv hne htl hkd hp1 hb hnl hun hga
      go_wp2_with fail
      obtain ⟨W1, hW1⟩ : ∃ W1, wr.alloc (.cells #[.int .i64 a.kind, .slice A3 n3 c3] 74) = W1 := ⟨_, rfl⟩
      rw [hW1]
      have eA : Ext Non wr W1.drew := by rw [← hW1]; exact ((Ext.refl Non wr).alloc _).drew
      have k0 := blk_cell (heap_alloc_new wr (.cells #[.int .i64 a.kind, .slice A3 n3 c3] 74)) 0
      have k1 := blk_cell (heap_alloc_new wr (.cells #[.int .i64 a.kind, .slice A3 n3 c3] 74)) 1
      rw [hW1] at k0 k1
      simp at k0 k1
      have EA := Lib.hid eA
      have HD1 := Lib.hid (HI.out.ext eA)
      have E1 := Lib.hid (HEr.out.trans0 eA)
      have HP := Lib.hid (And.intro (HP0.out.1.ext0 eA) (And.intro (HP0.out.2.1.ext0 eA) (HP0.out.2.2.ext0 eA)))
      have HV := Lib.hid (HV0.out.ext0 eA)
      have HF1 := Lib.hid (fun k (hk : W1.drew.heap.size ≤ k) => HF0.out k (Nat.le_trans eA.size hk))
      have BG := Lib.hid (eA.obj HB.out (fun e => e))
      have h3 : W1.cell? ⟨g, 3, none⟩ = some (.slice B0 m0 d0) := blk_cell BG.out 3
      have h4 : W1.cell? ⟨g, 4, none⟩ = some (.slice B1 m1 d1) := blk_cell BG.out 4
      have h5 : W1.cell? ⟨g, 5, none⟩ = some (.slice B2 m2 d2) := blk_cell BG.out 5
      clear hW1 eA
      refine Last.start_ (S := fun W => W.cell? ⟨g, 3, none⟩ = some (.slice B0 m0 d0) ∧ W.cell? ⟨g, 4, none⟩ = some (.slice B1 m1 d1) ∧ W.cell? ⟨g, 5, none⟩ = some (.slice B2 m2 d2) ∧ W.cell? ⟨wr.heap.size, 0, none⟩ = some (.int .i64 a.kind) ∧ W.cell? ⟨wr.heap.size, 1, none⟩ = some (.slice A3 n3 c3)) (ds := [9]) #[false, false, false, false, false, false, false, false, false, false] (by kernel_rfl) (by rfl) (by rfl) ⟨h3, h4, h5, k0, k1⟩ (fun hS => ?_)
      refine Last.take_ (i := 0) (N := some 35) (v := .pointer (some ⟨g, 0, none⟩)) #[true, false, false, false, false, false, false, false, false, false] (by simp only [List.getElem?_toArray, List.getElem?_cons_zero]; rfl) rfl (by kernel_rfl) (by exact fun _ _ _ h => h) (Or.inl ⟨by rfl, fun W hW => by first | rfl | (try dsimp only at hW); go_simp⟩) hS rfl ?_
      simp only [Act.put, List.setIfInBounds_toArray, List.set_cons_zero, List.set_cons_succ]
      refine Last.take_ (i := 1) (N := some 36) (v := .pointer (some ⟨g, 0, none⟩)) #[true, true, false, false, false, false, false, false, false, false] (by simp only [List.getElem?_toArray, List.getElem?_cons_zero, List.getElem?_cons_succ]; rfl) rfl (by kernel_rfl) (by exact fun _ _ _ h => h) (Or.inl ⟨by rfl, fun W hW => by first | rfl | (try dsimp only at hW); go_simp⟩) hS rfl ?_
      simp only [Act.put, List.setIfInBounds_toArray, List.set_cons_zero, List.set_cons_succ]
      refine Last.take_ (i := 2) (N := some 37) (v := .pointer (some ⟨g, 0, none⟩)) #[true, true, true, false, false, false, false, false, false, false] (by simp only [List.getElem?_toArray, List.getElem?_cons_zero, List.getElem?_cons_succ]; rfl) rfl (by kernel_rfl) (by exact fun _ _ _ h => h) (Or.inl ⟨by rfl, fun W hW => by first | rfl | (try dsimp only at hW); go_simp⟩) hS rfl ?_
      simp only [Act.put, List.setIfInBounds_toArray, List.set_cons_zero, List.set_cons_succ]
      refine Last.take_ (i := 3) (N := some 38) (v := .pointer (some ⟨g, 3, none⟩)) #[true, true, true, true, false, false, false, false, false, false] (by simp only [List.getElem?_toArray, List.getElem?_cons_zero, List.getElem?_cons_succ]; rfl) rfl (by kernel_rfl) (by exact fun _ _ _ h => h) (Or.inl ⟨by rfl, fun W hW => by first | rfl | (try dsimp only at hW); go_simp⟩) hS rfl ?_
      simp only [Act.put, List.setIfInBounds_toArray, List.set_cons_zero, List.set_cons_succ]
      refine Last.take_ (i := 4) (N := some 39) (v := .agg #[.slice B0 m0 d0, .slice B1 m1 d1, .slice B2 m2 d2]) #[true, true, true, true, true, false, false, false, false, false] (by simp only [List.getElem?_toArray, List.getElem?_cons_zero, List.getElem?_cons_succ]; rfl) rfl (by kernel_rfl) (by exact fun _ _ _ h => h) (Or.inl ⟨by rfl, fun W hW => by first | rfl | (try dsimp only at hW); go_simp⟩) hS rfl ?_
      simp only [Act.put, List.setIfInBounds_toArray, List.set_cons_zero, List.set_cons_succ]
      refine Last.take_ (i := 5) (N := some 40) (v := .agg #[.int .i64 a.kind, .slice A3 n3 c3]) #[true, true, true, true, true, true, false, false, false, false] (by simp only [List.getElem?_toArray, List.getElem?_cons_zero, List.getElem?_cons_succ]; rfl) rfl (by kernel_rfl) (by exact fun _ _ _ h => h) (Or.inl ⟨by rfl, fun W hW => by first | rfl | (try dsimp only at hW); go_simp⟩) hS rfl ?_
      simp only [Act.put, List.setIfInBounds_toArray, List.set_cons_zero, List.set_cons_succ]
      refine Last.one_ (i := 6) (N := some 41) #[true, true, true, true, true, true, true, false, false, false] (by simp only [List.getElem?_toArray, List.getElem?_cons_zero, List.getElem?_cons_succ]; rfl) rfl (by kernel_rfl) (by decide) (fun K hK => ?_)
      refine Last.goes_ Try.func48 (by kernel_rfl) rfl #[.agg #[.slice B0 m0 d0, .slice B1 m1 d1, .slice B2 m2 d2], .agg #[.int .i64 a.kind, .slice A3 n3 c3]] (by rfl) rfl rfl (by simp [Act.eval]) ?_
      refine (pdoes_calls HP.out HV.out HKD.out HF1.out HTL.out).mono ?_
      rintro e w2 ⟨D0, l0, e0, D1, l1, e1, D2, l2, e2, rfl, hp, he⟩
      have h3 := he.out.cell h3 (fun e => e)
      have h4 := he.out.cell h4 (fun e => e)
      have h5 := he.out.cell h5 (fun e => e)
      have k0 := he.out.cell k0 (fun e => e)
      have k1 := he.out.cell k1 (fun e => e)
      have y3 := blk_frozen (he.out.obj BG.out (fun e => e)) 3
      have y4 := blk_frozen (he.out.obj BG.out (fun e => e)) 4
      have y5 := blk_frozen (he.out.obj BG.out (fun e => e)) 5
      have HD2 := Lib.hid (HD1.out.ext he.out)
      have E2 := Lib.hid (E1.out.trans0 he.out)
      clear he
      refine ⟨_, rfl, ?_⟩
      refine hK.out _ _ ⟨h3, h4, h5, k0, k1⟩ (fun hS => ?_)
      try simp only [Act.put, List.setIfInBounds_toArray, List.set_cons_zero, List.set_cons_succ]
      refine Last.take_ (i := 7) (N := some 42) (v := .pointer (some ⟨g, 0, none⟩)) #[true, true, true, true, true, true, true, true, false, false] (by simp only [List.getElem?_toArray, List.getElem?_cons_zero, List.getElem?_cons_succ]; rfl) rfl (by kernel_rfl) (by exact fun _ _ _ h => h) (Or.inl ⟨by rfl, fun W hW => by first | rfl | (try dsimp only at hW); go_simp⟩) hS rfl ?_
      simp only [Act.put, List.setIfInBounds_toArray, List.set_cons_zero, List.set_cons_succ]
      refine Last.take_ (i := 8) (N := some 43) (v := .pointer (some ⟨g, 3, none⟩)) #[true, true, true, true, true, true, true, true, true, false] (by simp only [List.getElem?_toArray, List.getElem?_cons_zero, List.getElem?_cons_succ]; rfl) rfl (by kernel_rfl) (by exact fun _ _ _ h => h) (Or.inl ⟨by rfl, fun W hW => by first | rfl | (try dsimp only at hW); go_simp⟩) hS rfl ?_
      simp only [Act.put, List.setIfInBounds_toArray, List.set_cons_zero, List.set_cons_succ]
      refine Last.last_ (i := 9) (N := none) #[true, true, true, true, true, true, true, true, true, true] (by simp only [List.getElem?_toArray, List.getElem?_cons_zero, List.getElem?_cons_succ]; rfl) rfl (by kernel_rfl) (by decide) (fun K hK => ?_)
      go_simp
      refine hK.out _ _ ?_
      try simp only [Act.put, List.setIfInBounds_toArray, List.set_cons_zero, List.set_cons_succ]
      refine Last.done_ (by kernel_rfl) ?_
      go_wp2_with fail
      go_roundw
      case rel =>
        refine ⟨j + 1, by omega, by go_num, ?_, ?_⟩
        · show DiskAt _ _ _ _
          rw [HNE.out]
          exact HD2.out.kept3 HGG.out hp.out
        · exact ((E2.out.og 3 _).og 4 _).og 5 _
      case measure => simp [intOf]; omega
    · obtain rfl : j = N := by omega
      clear hlt
      obtain ⟨_, _, _, _, _, _, _, _, _, B0, m0, d0, B1, m1, d1, B2, m2, d2, Aw2, nw2, cw2, hb, -, hp1, hw2, hnw2⟩ := HI.out.open
      have h3 : wr.cell? ⟨g, 3, none⟩ = some (.slice B0 m0 d0) := blk_cell hb 3
      have h4 : wr.cell? ⟨g, 4, none⟩ = some (.slice B1 m1 d1) := blk_cell hb 4
      have h5 : wr.cell? ⟨g, 5, none⟩ = some (.slice B2 m2 d2) := blk_cell hb 5
      have h6 : wr.cell? ⟨g, 6, none⟩ = some (.slice Aw2 nw2 cw2) := blk_cell hb 6
      have hnw2 : nw2 = d.wait.length := hnw2
      have hw2 : Rd actK wr ok (.slice Aw2 nw2 cw2) d.wait := hw2
      have hgr := blk_lt hb
      have BG0 := Lib.hid hb
      cases hx : d.wait[j]? with
      | none =>
        have hle := List.getElem?_eq_none_iff.1 hx
        have q7 : ¬ j < nw2 := by omega
        have hfell : d.fell keep tear = d.kept.all (d.wait.take j) := by
          unfold Dk.fell
          rw [← HN.out, hx]
        have HFE := Lib.hid hfell
        have h0 := blk_cell hb 0
        have h1 := blk_cell hb 1
        have h2 := blk_cell hb 2
        have h8 := blk_cell hb 8
        have h9 := blk_cell hb 9
        simp at h0 h1 h2 h8 h9
        have y0 := blk_frozen hb 0
        have y1 := blk_frozen hb 1
        have y2 := blk_frozen hb 2
        have y6 := blk_frozen hb 6
        have y8 := blk_frozen hb 8
        have y9 := blk_frozen hb 9
        clear hx hle hp1 hb hnl hun hw2 hnw2 hfell
        go_wp2_with fail
        go_ret
        have hd := HI.out.down keep tear HGG.out HFE.out.symm h3 h4 h5
        exact ⟨rfl, hd.1, HEr.out.trans hd.2 (fun _ _ e => e)⟩
      | some a =>
        have hlt2 := (List.getElem?_eq_some_iff.1 hx).1
        have q7 : j < nw2 := by omega
        have hfell : d.fell keep tear = (d.kept.all (d.wait.take j)).torn a tear := by
          unfold Dk.fell
          rw [← HN.out, hx]
        have HFE := Lib.hid hfell
        obtain ⟨ga, off, cs, rfl, hga, hgl, hk, hcs⟩ := hw2.at_ hx
        obtain ⟨v, rfl, hv⟩ := hk
        obtain ⟨A3, n3, c3, rfl, -⟩ := rd_abs hv
        have k0 : wr.cell? ⟨ga, off + j * 2, none⟩ = some (.int .i64 a.kind) := hcs 0 _ rfl
        have k1 : wr.cell? ⟨ga, off + j * 2 + 1, none⟩ = some (.slice A3 n3 c3) := hcs 1 _ rfl
        obtain ⟨-, htl, hkd⟩ := HG.out.next hx
        have HTL := Lib.hid htl
        have HKD := Lib.hid hkd
        have hp1 : PlateRd wr ok (.slice B0 m0 d0) (.slice B1 m1 d1) (.slice B2 m2 d2) (d.kept.all (d.wait.take j)) := hp1
        have eA : Ext Non wr wr.drew := (Ext.refl Non wr).drew
        have HD1 := Lib.hid (HI.out.ext eA)
        have E1 := Lib.hid (HEr.out.trans0 eA)
        have HP := Lib.hid (And.intro (hp1.1.ext0 eA) (And.intro (hp1.2.1.ext0 eA) (hp1.2.2.ext0 eA)))
        have HV := Lib.hid (hv.ext0 eA)
        have HF1 := Lib.hid (fun k (hk : wr.drew.heap.size ≤ k) => HF0.out k (Nat.le_trans eA.size hk))
        have BG := Lib.hid (eA.obj hb (fun e => e))
        generalize d.kept.all (d.wait.take j) = p at HI HFE HTL HP HD1 htl hp1 hfell
        clear hx hcs hv htl hkd hp1 hb hnl hun hga hlt2 hnw2 hfell eA
        go_wp2_with fail
        refine Last.start_ (S := fun W => W.cell? ⟨g, 3, none⟩ = some (.slice B0 m0 d0) ∧ W.cell? ⟨g, 4, none⟩ = some (.slice B1 m1 d1) ∧ W.cell? ⟨g, 5, none⟩ = some (.slice B2 m2 d2) ∧ W.cell? ⟨g, 6, none⟩ = some (.slice (some ⟨ga, off, none⟩) nw2 cw2) ∧ W.cell? ⟨ga, off + j * 2, none⟩ = some (.int .i64 a.kind) ∧ W.cell? ⟨ga, off + j * 2 + 1, none⟩ = some (.slice A3 n3 c3)) (ds := [16]) #[false, false, false, false, false, false, false, false, false, false, false, false, false, false, false, false, false] (by kernel_rfl) (by rfl) (by rfl) ⟨h3, h4, h5, h6, k0, k1⟩ (fun hS => ?_)
        refine Last.take_ (i := 0) (N := some 52) (v := .pointer (some ⟨g, 0, none⟩)) #[true, false, false, false, false, false, false, false, false, false, false, false, false, false, false, false, false] (by simp only [List.getElem?_toArray, List.getElem?_cons_zero]; rfl) rfl (by kernel_rfl) (by exact fun _ _ _ h => h) (Or.inl ⟨by rfl, fun W hW => by first | rfl | (try dsimp only at hW); go_simp⟩) hS rfl ?_
        simp only [Act.put, List.setIfInBounds_toArray, List.set_cons_zero, List.set_cons_succ]
        refine Last.take_ (i := 1) (N := some 53) (v := .pointer (some ⟨g, 0, none⟩)) #[true, true, false, false, false, false, false, false, false, false, false, false, false, false, false, false, false] (by simp only [List.getElem?_toArray, List.getElem?_cons_zero, List.getElem?_cons_succ]; rfl) rfl (by kernel_rfl) (by exact fun _ _ _ h => h) (Or.inl ⟨by rfl, fun W hW => by first | rfl | (try dsimp only at hW); go_simp⟩) hS rfl ?_
        simp only [Act.put, List.setIfInBounds_toArray, List.set_cons_zero, List.set_cons_succ]
        refine Last.take_ (i := 2) (N := some 54) (v := .pointer (some ⟨g, 0, none⟩)) #[true, true, true, false, false, false, false, false, false, false, false, false, false, false, false, false, false] (by simp only [List.getElem?_toArray, List.getElem?_cons_zero, List.getElem?_cons_succ]; rfl) rfl (by kernel_rfl) (by exact fun _ _ _ h => h) (Or.inl ⟨by rfl, fun W hW => by first | rfl | (try dsimp only at hW); go_simp⟩) hS rfl ?_
        simp only [Act.put, List.setIfInBounds_toArray, List.set_cons_zero, List.set_cons_succ]
        refine Last.take_ (i := 3) (N := some 55) (v := .pointer (some ⟨g, 3, none⟩)) #[true, true, true, true, false, false, false, false, false, false, false, false, false, false, false, false, false] (by simp only [List.getElem?_toArray, List.getElem?_cons_zero, List.getElem?_cons_succ]; rfl) rfl (by kernel_rfl) (by exact fun _ _ _ h => h) (Or.inl ⟨by rfl, fun W hW => by first | rfl | (try dsimp only at hW); go_simp⟩) hS rfl ?_
        simp only [Act.put, List.setIfInBounds_toArray, List.set_cons_zero, List.set_cons_succ]
        refine Last.take_ (i := 4) (N := some 56) (v := .agg #[.slice B0 m0 d0, .slice B1 m1 d1, .slice B2 m2 d2]) #[true, true, true, true, true, false, false, false, false, false, false, false, false, false, false, false, false] (by simp only [List.getElem?_toArray, List.getElem?_cons_zero, List.getElem?_cons_succ]; rfl) rfl (by kernel_rfl) (by exact fun _ _ _ h => h) (Or.inl ⟨by rfl, fun W hW => by first | rfl | (try dsimp only at hW); go_simp⟩) hS rfl ?_
        simp only [Act.put, List.setIfInBounds_toArray, List.set_cons_zero, List.set_cons_succ]
        refine Last.take_ (i := 5) (N := some 57) (v := .pointer (some ⟨g, 0, none⟩)) #[true, true, true, true, true, true, false, false, false, false, false, false, false, false, false, false, false] (by simp only [List.getElem?_toArray, List.getElem?_cons_zero, List.getElem?_cons_succ]; rfl) rfl (by kernel_rfl) (by exact fun _ _ _ h => h) (Or.inl ⟨by rfl, fun W hW => by first | rfl | (try dsimp only at hW); go_simp⟩) hS rfl ?_
        simp only [Act.put, List.setIfInBounds_toArray, List.set_cons_zero, List.set_cons_succ]
        refine Last.take_ (i := 6) (N := some 58) (v := .pointer (some ⟨g, 0, none⟩)) #[true, true, true, true, true, true, true, false, false, false, false, false, false, false, false, false, false] (by simp only [List.getElem?_toArray, List.getElem?_cons_zero, List.getElem?_cons_succ]; rfl) rfl (by kernel_rfl) (by exact fun _ _ _ h => h) (Or.inl ⟨by rfl, fun W hW => by first | rfl | (try dsimp only at hW); go_simp⟩) hS rfl ?_
        simp only [Act.put, List.setIfInBounds_toArray, List.set_cons_zero, List.set_cons_succ]
        refine Last.take_ (i := 7) (N := some 59) (v := .pointer (some ⟨g, 6, none⟩)) #[true, true, true, true, true, true, true, true, false, false, false, false, false, false, false, false, false] (by simp only [List.getElem?_toArray, List.getElem?_cons_zero, List.getElem?_cons_succ]; rfl) rfl (by kernel_rfl) (by exact fun _ _ _ h => h) (Or.inl ⟨by rfl, fun W hW => by first | rfl | (try dsimp only at hW); go_simp⟩) hS rfl ?_
        simp only [Act.put, List.setIfInBounds_toArray, List.set_cons_zero, List.set_cons_succ]
        refine Last.take_ (i := 8) (N := some 60) (v := .slice (some ⟨ga, off, none⟩) nw2 cw2) #[true, true, true, true, true, true, true, true, true, false, false, false, false, false, false, false, false] (by simp only [List.getElem?_toArray, List.getElem?_cons_zero, List.getElem?_cons_succ]; rfl) rfl (by kernel_rfl) (by exact fun _ _ _ h => h) (Or.inl ⟨by rfl, fun W hW => by first | rfl | (try dsimp only at hW); go_simp⟩) hS rfl ?_
        simp only [Act.put, List.setIfInBounds_toArray, List.set_cons_zero, List.set_cons_succ]
        refine Last.take_ (i := 9) (N := some 61) (v := .int .i64 (j : Int)) #[true, true, true, true, true, true, true, true, true, true, false, false, false, false, false, false, false] (by simp only [List.getElem?_toArray, List.getElem?_cons_zero, List.getElem?_cons_succ]; rfl) rfl (by kernel_rfl) (by exact fun _ _ _ h => h) (Or.inl ⟨by rfl, fun W hW => by first | rfl | (try dsimp only at hW); go_simp⟩) hS rfl ?_
        simp only [Act.put, List.setIfInBounds_toArray, List.set_cons_zero, List.set_cons_succ]
        refine Last.take_ (i := 10) (N := some 62) (v := .pointer (some ⟨ga, off + j * 2, none⟩)) #[true, true, true, true, true, true, true, true, true, true, true, false, false, false, false, false, false] (by simp only [List.getElem?_toArray, List.getElem?_cons_zero, List.getElem?_cons_succ]; rfl) rfl (by kernel_rfl) (by exact fun _ _ _ h => h) (Or.inl ⟨by rfl, fun W hW => by first | rfl | (try dsimp only at hW); go_simp⟩) hS rfl ?_
        simp only [Act.put, List.setIfInBounds_toArray, List.set_cons_zero, List.set_cons_succ]
        refine Last.take_ (i := 11) (N := some 63) (v := .agg #[.int .i64 a.kind, .slice A3 n3 c3]) #[true, true, true, true, true, true, true, true, true, true, true, true, false, false, false, false, false] (by simp only [List.getElem?_toArray, List.getElem?_cons_zero, List.getElem?_cons_succ]; rfl) rfl (by kernel_rfl) (by exact fun _ _ _ h => h) (Or.inl ⟨by rfl, fun W hW => by first | rfl | (try dsimp only at hW); go_simp⟩) hS rfl ?_
        simp only [Act.put, List.setIfInBounds_toArray, List.set_cons_zero, List.set_cons_succ]
        refine Last.take_ (i := 12) (N := some 64) (v := .int .i64 tear) #[true, true, true, true, true, true, true, true, true, true, true, true, true, false, false, false, false] (by simp only [List.getElem?_toArray, List.getElem?_cons_zero, List.getElem?_cons_succ]; rfl) rfl (by kernel_rfl) (by exact fun _ _ _ h => h) (Or.inl ⟨by rfl, fun W hW => by first | rfl | (try dsimp only at hW); go_simp⟩) hS rfl ?_
        simp only [Act.put, List.setIfInBounds_toArray, List.set_cons_zero, List.set_cons_succ]
        refine Last.one_ (i := 13) (N := some 65) #[true, true, true, true, true, true, true, true, true, true, true, true, true, true, false, false, false] (by simp only [List.getElem?_toArray, List.getElem?_cons_zero, List.getElem?_cons_succ]; rfl) rfl (by kernel_rfl) (by decide) (fun K hK => ?_)
        refine Last.goes_ Try.func49 (by kernel_rfl) rfl #[.agg #[.slice B0 m0 d0, .slice B1 m1 d1, .slice B2 m2 d2], .agg #[.int .i64 a.kind, .slice A3 n3 c3], .int .i64 tear] (by rfl) rfl rfl (by simp [Act.eval]) ?_
        refine (ptorn_calls HP.out HV.out HKD.out HF1.out HTL.out tear).mono ?_
        rintro e w2 ⟨D0, l0, e0, D1, l1, e1, D2, l2, e2, rfl, hp, he⟩
        have h3 := he.out.cell h3 (fun e => e)
        have h4 := he.out.cell h4 (fun e => e)
        have h5 := he.out.cell h5 (fun e => e)
        have h6 := he.out.cell h6 (fun e => e)
        have k0 := he.out.cell k0 (fun e => e)
        have k1 := he.out.cell k1 (fun e => e)
        have y3 := blk_frozen (he.out.obj BG.out (fun e => e)) 3
        have y4 := blk_frozen (he.out.obj BG.out (fun e => e)) 4
        have y5 := blk_frozen (he.out.obj BG.out (fun e => e)) 5
        have HD2 := Lib.hid (HD1.out.ext he.out)
        have E2 := Lib.hid (E1.out.trans0 he.out)
        clear he
        refine ⟨_, rfl, ?_⟩
        refine hK.out _ _ ⟨h3, h4, h5, h6, k0, k1⟩ (fun hS => ?_)
        try simp only [Act.put, List.setIfInBounds_toArray, List.set_cons_zero, List.set_cons_succ]
        refine Last.take_ (i := 14) (N := some 66) (v := .pointer (some ⟨g, 0, none⟩)) #[true, true, true, true, true, true, true, true, true, true, true, true, true, true, true, false, false] (by simp only [List.getElem?_toArray, List.getElem?_cons_zero, List.getElem?_cons_succ]; rfl) rfl (by kernel_rfl) (by exact fun _ _ _ h => h) (Or.inl ⟨by rfl, fun W hW => by first | rfl | (try dsimp only at hW); go_simp⟩) hS rfl ?_
        simp only [Act.put, List.setIfInBounds_toArray, List.set_cons_zero, List.set_cons_succ]
        refine Last.take_ (i := 15) (N := some 67) (v := .pointer (some ⟨g, 3, none⟩)) #[true, true, true, true, true, true, true, true, true, true, true, true, true, true, true, true, false] (by simp only [List.getElem?_toArray, List.getElem?_cons_zero, List.getElem?_cons_succ]; rfl) rfl (by kernel_rfl) (by exact fun _ _ _ h => h) (Or.inl ⟨by rfl, fun W hW => by first | rfl | (try dsimp only at hW); go_simp⟩) hS rfl ?_
        simp only [Act.put, List.setIfInBounds_toArray, List.set_cons_zero, List.set_cons_succ]
        refine Last.last_ (i := 16) (N := none) #[true, true, true, true, true, true, true, true, true, true, true, true, true, true, true, true, true] (by simp only [List.getElem?_toArray, List.getElem?_cons_zero, List.getElem?_cons_succ]; rfl) rfl (by kernel_rfl) (by decide) (fun K hK => ?_)
        go_simp
        refine hK.out _ _ ?_
        try simp only [Act.put, List.setIfInBounds_toArray, List.set_cons_zero, List.set_cons_succ]
        refine Last.done_ (by kernel_rfl) ?_
        have hd3 : DiskAt (((w2.setCell ⟨g, 3, none⟩ (.slice D0 l0 e0)).setCell ⟨g, 4, none⟩ (.slice D1 l1 e1)).setCell ⟨g, 5, none⟩ (.slice D2 l2 e2)) ok g (d.withKept (p.torn a tear)) := HD2.out.kept3 HGG.out hp.out
        have HD3 := Lib.hid hd3
        clear hd3
        have E3 := Lib.hid (((E2.out.og 3 (.slice D0 l0 e0)).og 4 (.slice D1 l1 e1)).og 5 (.slice D2 l2 e2))
        generalize ((w2.setCell ⟨g, 3, none⟩ (.slice D0 l0 e0)).setCell ⟨g, 4, none⟩ (.slice D1 l1 e1)).setCell ⟨g, 5, none⟩ (.slice D2 l2 e2) = w3 at HD3 E3 ⊢
        clear h3 h4 h5 h6 y3 y4 y5 k0 k1 hS
        obtain ⟨_, _, _, _, _, _, _, _, _, B0, m0, d0, B1, m1, d1, B2, m2, d2, _, _, _, hb, -, -, -, -⟩ := HD3.out.open
        have h3 : w3.cell? ⟨g, 3, none⟩ = some (.slice B0 m0 d0) := blk_cell hb 3
        have h4 : w3.cell? ⟨g, 4, none⟩ = some (.slice B1 m1 d1) := blk_cell hb 4
        have h5 : w3.cell? ⟨g, 5, none⟩ = some (.slice B2 m2 d2) := blk_cell hb 5
        have h0 := blk_cell hb 0
        have h1 := blk_cell hb 1
        have h2 := blk_cell hb 2
        have h8 := blk_cell hb 8
        have h9 := blk_cell hb 9
        have h6 := blk_cell hb 6
        simp at h0 h1 h2 h6 h8 h9
        have y0 := blk_frozen hb 0
        have y1 := blk_frozen hb 1
        have y2 := blk_frozen hb 2
        have y6 := blk_frozen hb 6
        have y8 := blk_frozen hb 8
        have y9 := blk_frozen hb 9
        have hd := HD3.out.down keep tear HGG.out HFE.out.symm h3 h4 h5
        have HD4 := Lib.hid hd.1
        have E4 := Lib.hid (E3.out.trans hd.2 (fun _ _ e => e))
        clear hb hd
        simp only [Exit.then]
        rename (∀ (a : Act) (w1 : World), Code.wp Try.prog _ _ a w1 → _) => hK0
        refine hK0 _ _ ?_
        go_wp2_with fail
        go_ret
        exact ⟨rfl, HD4.out, E4.out⟩
end Go.Proofs.Ytpmncppfopbaaaa
