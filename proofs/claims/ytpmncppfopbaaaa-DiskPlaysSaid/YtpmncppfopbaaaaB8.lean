/- The disk's calls: New, Start, Arm, Sync, Clear. -/
import Derived.Test.YtpmncppfopbaaaaB7
namespace Go.Proofs.Ytpmncppfopbaaaa
open Go.RowKit Go.TM

/-- What holds of a disk at work. -/
structure Live (w : World) (ok : Nat → Prop) (g : Nat) (d : Dk) : Prop where
  at_ : DiskAt w ok g d
  good : d.Good
  fresh : ∀ k, w.heap.size ≤ k → ok k
  out : ¬ ok g
  wl : d.wait.length ≤ 100000000
theorem able_cases (d : Dk) : d.able = 0 ∨ (d.able ≠ 0 ∧ ∃ A, d.able = A ∧ (A != 0) = true ∧ (A == 0) = false) := by
  by_cases h : d.able = 0
  · exact .inl h
  · exact .inr ⟨h, _, rfl, by simpa using h, by simpa using h⟩
theorem DiskAt.synced {w : World} {ok : Nat → Prop} {g : Nat} {d : Dk} {a0 a1 a2 : Value} (h : DiskAt w ok g d) (hg : ¬ ok g) (h0 : w.cell? ⟨g, 0, none⟩ = some a0) (h1 : w.cell? ⟨g, 1, none⟩ = some a1) (h2 : w.cell? ⟨g, 2, none⟩ = some a2) :
    DiskAt ((((w.setCell ⟨g, 3, none⟩ a0).setCell ⟨g, 4, none⟩ a1).setCell ⟨g, 5, none⟩ a2).setCell ⟨g, 6, none⟩ (.slice none 0 0)) ok g d.synced ∧
    Ext (Only g) w ((((w.setCell ⟨g, 3, none⟩ a0).setCell ⟨g, 4, none⟩ a1).setCell ⟨g, 5, none⟩ a2).setCell ⟨g, 6, none⟩ (.slice none 0 0)) := by
  have hE := ((((Ext.refl (Only g) w).og 3 a0).og 4 a1).og 5 a2).og 6 (.slice none 0 0)
  refine ⟨?_, hE⟩
  obtain ⟨a0', a1', a2', b0, b1, b2, wv, hb, r0, r1, r2, r3, r4, r5, r6⟩ := h
  have g0 := blk_cell hb 0
  have g1 := blk_cell hb 1
  have g2 := blk_cell hb 2
  rw [h0] at g0
  rw [h1] at g1
  rw [h2] at g2
  simp at g0 g1 g2
  subst g0 g1 g2
  refine DiskAt.mk' (w := w) (a0 := a0) (a1 := a1) (a2 := a2) (b0 := a0) (b1 := a1) (b2 := a2) (wv := .slice none 0 0) hE hg ?_ ⟨r0, r1, r2⟩ ⟨r0, r1, r2⟩ (Rd.nil _ _ _)
  have h := blk_set (blk_set (blk_set (blk_set hb 3 a0) 4 a1) 5 a2) 6 (.slice none 0 0)
  simpa [Dk.synced] using h
theorem DiskAt.set_off {w : World} {ok : Nat → Prop} {g : Nat} {d : Dk} (h : DiskAt w ok g d) (hg : ¬ ok g) : DiskAt (w.setCell ⟨g, 8, none⟩ (.bool false)) ok g d.on := by
  obtain ⟨a0, a1, a2, b0, b1, b2, wv, hb, r0, r1, r2, r3, r4, r5, r6⟩ := h
  refine DiskAt.mk' (w := w) (a0 := a0) (a1 := a1) (a2 := a2) (b0 := b0) (b1 := b1) (b2 := b2) (wv := wv) ((Ext.refl _ w).og 8 _) hg ?_ ⟨r0, r1, r2⟩ ⟨r3, r4, r5⟩ r6
  have h := blk_set hb 8 (.bool false)
  simpa [Dk.on] using h
theorem DiskAt.set_arm {w : World} {ok : Nat → Prop} {g : Nat} {d : Dk} (h : DiskAt w ok g d) (hg : ¬ ok g) (n keep tear : Int) : DiskAt (((w.setCell ⟨g, 9, none⟩ (.int .i64 n)).setCell ⟨g, 10, none⟩ (.int .i64 keep)).setCell ⟨g, 11, none⟩ (.int .i64 tear)) ok g (d.armed n keep tear) := by
  obtain ⟨a0, a1, a2, b0, b1, b2, wv, hb, r0, r1, r2, r3, r4, r5, r6⟩ := h
  refine DiskAt.mk' (w := w) (a0 := a0) (a1 := a1) (a2 := a2) (b0 := b0) (b1 := b1) (b2 := b2) (wv := wv) ((((Ext.refl _ w).og 9 _).og 10 _).og 11 _) hg ?_ ⟨r0, r1, r2⟩ ⟨r3, r4, r5⟩ r6
  have h := blk_set (blk_set (blk_set hb 9 (.int .i64 n)) 10 (.int .i64 keep)) 11 (.int .i64 tear)
  simpa [Dk.armed] using h

theorem Start_calls {w : World} {ok : Nat → Prop} {g : Nat} {d : Dk} (H : DiskAt w ok g d) (hg : ¬ ok g) :
    Calls Try.prog 15 #[.pointer (some ⟨g, 0, none⟩)] w (DPost ok g d.start w) := by
  have HH := Lib.hid H
  obtain ⟨e7, e8, -, -, -, hy, hgs⟩ := H.cells
  have y8 := hy 8
  have HD := Lib.hid (H.set_off hg)
  by_cases h0 : d.room = 0
  · have hr : d.start = (6, d) := by unfold Dk.start; rw [if_pos h0]
    rw [hr]
    rw [h0] at e7
    clear H hg hy h0 hr
    go_enter Try.func15, Try.ntmps15
    go_wp2_with fail
    go_ret
    exact ⟨rfl, HH.out, Ext.refl _ _⟩
  · have hr : d.start = (0, d.on) := by unfold Dk.start; rw [if_neg h0]
    rw [hr]
    obtain ⟨R, hR⟩ : ∃ R, d.room = R := ⟨_, rfl⟩
    rw [hR] at e7 h0
    have q : (R == 0) = false := by simpa using h0
    clear H hg hy h0 hr hR
    go_enter Try.func15, Try.ntmps15
    go_wp2_with fail
    go_ret
    exact ⟨rfl, HD.out, (Ext.refl (Only g) w).og 8 _⟩

theorem Arm_calls {w : World} {ok : Nat → Prop} {g : Nat} {d : Dk} (H : DiskAt w ok g d) (hg : ¬ ok g) (n keep tear : Int) :
    Calls Try.prog 16 #[.pointer (some ⟨g, 0, none⟩), .int .i64 n, .int .i64 keep, .int .i64 tear] w (DPost ok g (d.arm n keep tear) w) := by
  have HH := Lib.hid H
  obtain ⟨-, -, e9, e10, e11, hy, hgs⟩ := H.cells
  have y9 := hy 9
  have y10 := hy 10
  have y11 := hy 11
  have HD := Lib.hid (H.set_arm hg n keep tear)
  rcases able_cases d with h0 | ⟨h0, A, hA, q, q2⟩
  · have HA := Lib.hid h0
    by_cases hn : n < 0
    · have hr : d.arm n keep tear = (1, d) := by unfold Dk.arm; rw [if_neg (by simp [h0]), if_pos hn]
      rw [hr]
      clear H hg hy h0 hr
      go_enter Try.func16, Try.ntmps16
      go_wp2_with fail
      refine (able_calls HH.out).mono ?_
      rintro e w1 ⟨rfl, rfl⟩
      rw [HA.out]
      go_wp2_with fail
      go_ret
      exact ⟨rfl, HH.out, Ext.refl _ _⟩
    · have hr : d.arm n keep tear = (0, d.armed n keep tear) := by unfold Dk.arm; rw [if_neg (by simp [h0]), if_neg hn]
      rw [hr]
      have hn2 : 0 ≤ n := by omega
      clear H hg hy h0 hr
      go_enter Try.func16, Try.ntmps16
      go_wp2_with fail
      refine (able_calls HH.out).mono ?_
      rintro e w1 ⟨rfl, rfl⟩
      rw [HA.out]
      go_wp2_with fail
      go_ret
      exact ⟨rfl, HD.out, (((Ext.refl (Only g) w).og 9 _).og 10 _).og 11 _⟩
  · have hr : d.arm n keep tear = (A, d) := by unfold Dk.arm; rw [if_pos h0, hA]
    rw [hr]
    have HA := Lib.hid hA
    clear H hg hy h0 hr hA
    go_enter Try.func16, Try.ntmps16
    go_wp2_with fail
    refine (able_calls HH.out).mono ?_
    rintro e w1 ⟨rfl, rfl⟩
    rw [HA.out]
    go_wp2_with fail
    go_ret
    exact ⟨rfl, HH.out, Ext.refl _ _⟩

theorem Sync_calls {w : World} {ok : Nat → Prop} {g : Nat} {d : Dk} (L : Live w ok g d) :
    Calls Try.prog 17 #[.pointer (some ⟨g, 0, none⟩)] w (DPost ok g d.sync w) := by
  have HL := Lib.hid L
  have HH := Lib.hid L.at_
  rcases able_cases d with h0 | ⟨h0, A, hA, q, q2⟩
  · have HA := Lib.hid h0
    have HAS : Hid (d.synced.able = 0) := h0
    have HGS := Lib.hid L.good.synced
    have hr : d.sync = Dk.told d.synced.fuse := by unfold Dk.sync; rw [if_neg (by simp [h0])]
    rw [hr]
    obtain ⟨A0, n0, c0, A1, n1, c1, A2, n2, c2, B0, m0, d0, B1, m1, d1, B2, m2, d2, Aw, nw, cw, hb, -, -, -, -⟩ := L.at_.open
    have e0 : w.cell? ⟨g, 0, none⟩ = some (.slice A0 n0 c0) := blk_cell hb 0
    have e1 : w.cell? ⟨g, 1, none⟩ = some (.slice A1 n1 c1) := blk_cell hb 1
    have e2 : w.cell? ⟨g, 2, none⟩ = some (.slice A2 n2 c2) := blk_cell hb 2
    have e3 : w.cell? ⟨g, 3, none⟩ = some (.slice B0 m0 d0) := blk_cell hb 3
    have e4 : w.cell? ⟨g, 4, none⟩ = some (.slice B1 m1 d1) := blk_cell hb 4
    have e5 : w.cell? ⟨g, 5, none⟩ = some (.slice B2 m2 d2) := blk_cell hb 5
    have e6 : w.cell? ⟨g, 6, none⟩ = some (.slice Aw nw cw) := blk_cell hb 6
    have y3 := blk_frozen hb 3
    have y4 := blk_frozen hb 4
    have y5 := blk_frozen hb 5
    have y6 := blk_frozen hb 6
    have hd := L.at_.synced L.out e0 e1 e2
    have HD := Lib.hid hd.1
    have HE := Lib.hid hd.2
    clear L h0 hr hd hb
    go_enter Try.func17, Try.ntmps17
    go_wp2_with fail
    refine (able_calls HH.out).mono ?_
    rintro e w1 ⟨rfl, rfl⟩
    rw [HA.out]
    go_wp2_with fail
    generalize (((w.setCell ⟨g, 3, none⟩ (.slice A0 n0 c0)).setCell ⟨g, 4, none⟩ (.slice A1 n1 c1)).setCell ⟨g, 5, none⟩ (.slice A2 n2 c2)).setCell ⟨g, 6, none⟩ (.slice none 0 0) = w2 at HD HE ⊢
    refine (fuse_calls HD.out HGS.out (fun k hk => HL.out.fresh k (Nat.le_trans HE.out.size hk)) HL.out.out HAS.out).mono ?_
    rintro e w6 ⟨rfl, hd, he⟩
    have HD6 := Lib.hid hd
    have E7 := Lib.hid (HE.out.trans he (fun _ _ e => e))
    clear hd he
    cases hr : d.synced.fuse.1 with
    | true =>
      have hra : Dk.told d.synced.fuse = (30, d.synced.fuse.2) := by unfold Dk.told; rw [hr]; rfl
      have HR := Lib.hid hra
      clear hr hra
      go_wp2_with fail
      go_ret
      rw [HR.out]
      exact ⟨rfl, HD6.out, E7.out⟩
    | false =>
      have hra : Dk.told d.synced.fuse = (0, d.synced.fuse.2) := by unfold Dk.told; rw [hr]; rfl
      have HR := Lib.hid hra
      clear hr hra
      go_wp2_with fail
      go_ret
      rw [HR.out]
      exact ⟨rfl, HD6.out, E7.out⟩
  · have hr : d.sync = (A, d) := by unfold Dk.sync; rw [if_pos h0, hA]
    rw [hr]
    have HA := Lib.hid hA
    clear L h0 hr hA
    go_enter Try.func17, Try.ntmps17
    go_wp2_with fail
    refine (able_calls HH.out).mono ?_
    rintro e w1 ⟨rfl, rfl⟩
    rw [HA.out]
    go_wp2_with fail
    go_ret
    exact ⟨rfl, HH.out, Ext.refl _ _⟩

theorem Clear_calls {w : World} {ok : Nat → Prop} {g : Nat} {d : Dk} (L : Live w ok g d) :
    Calls Try.prog 25 #[.pointer (some ⟨g, 0, none⟩)] w (DPost ok g d.clear w) := by
  have HL := Lib.hid L
  have HH := Lib.hid L.at_
  rcases able_cases d with h0 | ⟨h0, A, hA, q, q2⟩
  · have HA := Lib.hid h0
    have hr : d.clear = d.act ⟨3, []⟩ := by unfold Dk.clear; rw [if_neg (by simp [h0])]
    rw [hr]
    clear L h0 hr
    go_enter Try.func25, Try.ntmps25
    go_wp2_with fail
    refine (able_calls HH.out).mono ?_
    rintro e w1 ⟨rfl, rfl⟩
    rw [HA.out]
    go_wp2_with fail
    refine (do_calls (a := ⟨3, []⟩) HL.out.at_ HL.out.good HL.out.fresh HL.out.out HA.out (Rd.nil _ _ _) ⟨by decide, by decide⟩ HL.out.good.clear_fit HL.out.wl).mono ?_
    rintro e w6 ⟨rfl, hd, he⟩
    have HD6 := Lib.hid hd
    have E7 := Lib.hid he
    clear hd he
    go_wp2_with fail
    go_ret
    exact ⟨rfl, HD6.out, E7.out⟩
  · have hr : d.clear = (A, d) := by unfold Dk.clear; rw [if_pos h0, hA]
    rw [hr]
    have HA := Lib.hid hA
    clear L h0 hr hA
    go_enter Try.func25, Try.ntmps25
    go_wp2_with fail
    refine (able_calls HH.out).mono ?_
    rintro e w1 ⟨rfl, rfl⟩
    rw [HA.out]
    go_wp2_with fail
    go_ret
    exact ⟨rfl, HH.out, Ext.refl _ _⟩
end Go.Proofs.Ytpmncppfopbaaaa
