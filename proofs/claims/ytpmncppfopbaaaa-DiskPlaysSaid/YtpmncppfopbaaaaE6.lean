/- The document's disk: Slot, Append, Clear, Sync, Crash. -/
import Derived.Test.YtpmncppfopbaaaaE5
namespace Go.Proofs.Ytpmncppfopbaaaa
open Go.RowKit Go.TM

theorem rcrash_calls {w : World} {ok : Nat → Prop} {g : Nat} {d : Dk} (L : RLive w ok g d) (keep tear : Int) :
    Calls Try.prog 36 #[.pointer (some ⟨g, 0, none⟩), .int .i64 keep, .int .i64 tear] w (RPost ok g (d.crash keep tear) w) := by
  have HL := Lib.hid L
  obtain ⟨-, e5, -, -, -, -, hgs⟩ := L.at_.flat
  have hab := live_able L.good
  cases ho : d.off with
  | true =>
    rw [ho] at e5 hab
    have hr : d.crash keep tear = (30, d) := by unfold Dk.crash; rw [if_neg (by rw [hab]; decide), hab]; rfl
    rw [hr]
    clear L hab ho hr
    go_enter Try.func36, Try.ntmps36
    go_wp2_with fail
    go_ret
    exact ⟨rfl, HL.out.at_, Ext.refl _ _⟩
  | false =>
    rw [ho] at hab
    have hr : d.crash keep tear = (0, d.down keep tear) := by unfold Dk.crash; rw [if_pos (show d.able = 0 from hab)]
    rw [hr]
    exact rcrash_up L ho keep tear
theorem rclear_calls {w : World} {ok : Nat → Prop} {g : Nat} {d : Dk} (L : RLive w ok g d) (hwl : d.wait.length ≤ 90000000) : Calls Try.prog 34 #[.pointer (some ⟨g, 0, none⟩)] w (RPost ok g d.clear w) := by
  have HL := Lib.hid L
  have HWL := Lib.hid hwl
  obtain ⟨-, e5, -, -, -, -, hgs⟩ := L.at_.flat
  have hab := live_able L.good
  cases ho : d.off with
  | true =>
    rw [ho] at e5 hab
    have hr : d.clear = (30, d) := by unfold Dk.clear; rw [hab]; rfl
    rw [hr]
    clear L hab ho hr
    go_enter Try.func34, Try.ntmps34
    go_wp2_with fail
    go_ret
    exact ⟨rfl, HL.out.at_, Ext.refl _ _⟩
  | false =>
    rw [ho] at e5 hab
    have hab0 : d.able = 0 := hab
    have hr : d.clear = d.act ⟨3, []⟩ := by unfold Dk.clear; rw [if_neg (by simp [hab0])]
    rw [hr]
    have HOF := Lib.hid ho
    clear L hab hab0 ho hr hwl
    go_enter Try.func34, Try.ntmps34
    go_wp2_with fail
    refine (ract_calls (a := ⟨3, []⟩) HL.out HOF.out (Rd.nil _ _ _) ⟨by decide, by decide⟩ HL.out.good.clear_fit HWL.out).mono ?_
    rintro e w6 ⟨rfl, hd, he⟩
    have HD6 := Lib.hid hd
    have E6 := Lib.hid he
    clear hd he
    go_wp2_with fail
    go_ret
    exact ⟨rfl, HD6.out, E6.out⟩
theorem RefAt.rsynced {w : World} {ok : Nat → Prop} {g : Nat} {d : Dk} {D0 D1 D2 : Option Addr} {l0 l1 l2 e0 e1 e2 : Nat} (h : RefAt w ok g d) (hg : ¬ ok g) (hp : PlateRd w ok (.slice D0 l0 e0) (.slice D1 l1 e1) (.slice D2 l2 e2) d.now) :
    RefAt ((((w.setCell ⟨g, 1, none⟩ (.slice D0 l0 e0)).setCell ⟨g, 2, none⟩ (.slice D1 l1 e1)).setCell ⟨g, 3, none⟩ (.slice D2 l2 e2)).setCell ⟨g, 4, none⟩ (.slice none 0 0)) ok g d.synced := by
  obtain ⟨B0, m0, d0, B1, m1, d1, B2, m2, d2, Aw, nw, cw, hb, -, hr⟩ := h
  refine RefAt.mk' (w := w) (B0 := D0) (m0 := l0) (d0 := e0) (B1 := D1) (m1 := l1) (d1 := e1) (B2 := D2) (m2 := l2) (d2 := e2) (Aw := none) (nw := 0) (cw := 0) (((((Ext.refl _ w).og 1 _).og 2 _).og 3 _).og 4 _) hg ?_ hp (Rd.nil _ _ _)
  have h := blk_set (blk_set (blk_set (blk_set hb 1 (.slice D0 l0 e0)) 2 (.slice D1 l1 e1)) 3 (.slice D2 l2 e2)) 4 (.slice none 0 0)
  simpa [Dk.synced] using h
theorem rsync_calls {w : World} {ok : Nat → Prop} {g : Nat} {d : Dk} (L : RLive w ok g d) : Calls Try.prog 35 #[.pointer (some ⟨g, 0, none⟩)] w (RPost ok g d.sync w) := by
  have HL := Lib.hid L
  obtain ⟨-, e5, -, -, -, -, hgs⟩ := L.at_.flat
  have hab := live_able L.good
  cases ho : d.off with
  | true =>
    rw [ho] at e5 hab
    have hr : d.sync = (30, d) := by unfold Dk.sync; rw [hab]; rfl
    rw [hr]
    clear L hab ho hr
    go_enter Try.func35, Try.ntmps35
    go_wp2_with fail
    go_ret
    exact ⟨rfl, HL.out.at_, Ext.refl _ _⟩
  | false =>
    rw [ho] at e5 hab
    have hab0 : d.able = 0 := hab
    have hr : d.sync = Dk.told d.synced.fuse := by unfold Dk.sync; rw [if_neg (by simp [hab0])]
    rw [hr]
    have HOF : Hid (d.synced.off = false) := ho
    have HGS := Lib.hid L.good.synced
    clear L hab hab0 ho hr
    go_enter Try.func35, Try.ntmps35
    go_wp2_with fail
    refine (rnow_calls HL.out).mono ?_
    rintro e w1 ⟨D0, l0, e0, D1, l1, e1, D2, l2, e2, rfl, hp, he⟩
    have HL1 := Lib.hid (HL.out.ext he.out)
    obtain ⟨B0, m0, d0, B1, m1, d1, B2, m2, d2, Aw, nw, cw, hb, -, -⟩ := id HL1.out.at_
    have f1 : w1.cell? ⟨g, 1, none⟩ = some (.slice B0 m0 d0) := blk_cell hb 1
    have f2 : w1.cell? ⟨g, 2, none⟩ = some (.slice B1 m1 d1) := blk_cell hb 2
    have f3 : w1.cell? ⟨g, 3, none⟩ = some (.slice B2 m2 d2) := blk_cell hb 3
    have f4 : w1.cell? ⟨g, 4, none⟩ = some (.slice Aw nw cw) := blk_cell hb 4
    have y1 := blk_frozen hb 1
    have y2 := blk_frozen hb 2
    have y3 := blk_frozen hb 3
    have y4 := blk_frozen hb 4
    have HD := Lib.hid (HL1.out.at_.rsynced HL1.out.out hp.out)
    have E1 := Lib.hid (((((he.out.of0 (M := Only g)).og 1 (.slice D0 l0 e0)).og 2 (.slice D1 l1 e1)).og 3 (.slice D2 l2 e2)).og 4 (.slice none 0 0))
    clear hp he hb
    go_wp2_with fail
    generalize (((w1.setCell ⟨g, 1, none⟩ (.slice D0 l0 e0)).setCell ⟨g, 2, none⟩ (.slice D1 l1 e1)).setCell ⟨g, 3, none⟩ (.slice D2 l2 e2)).setCell ⟨g, 4, none⟩ (.slice none 0 0) = w2 at HD E1 ⊢
    have HL2 := Lib.hid (RLive.mk HD.out HGS.out (fun k hk => HL.out.fresh k (Nat.le_trans E1.out.size hk)) HL.out.out (by simp [Dk.synced]))
    refine (rfuse_calls HL2.out HOF.out).mono ?_
    rintro e w6 ⟨rfl, hd, he⟩
    have HD6 := Lib.hid hd
    have E6 := Lib.hid (E1.out.trans he (fun _ _ e => e))
    clear hd he
    go_wp2_with fail
    go_ret
    exact ⟨rfl, HD6.out, E6.out⟩
set_option maxHeartbeats 2000000 in
theorem rappend_calls {w : World} {ok okb : Nat → Prop} {g : Nat} {d : Dk} (L : RLive w ok g d) {A : Option Addr} {n c : Nat} {b : List UInt8} (RB : Rd Kd.u8 w okb (.slice A n c) b) (hbl : b.length ≤ 140737488355328) (hwl : d.wait.length ≤ 90000000) :
    Calls Try.prog 39 #[.pointer (some ⟨g, 0, none⟩), .slice A n c] w (RPost ok g (d.append b) w) := by
  have HL := Lib.hid L
  have HRR := Lib.hid RB
  have HBL := Lib.hid hbl
  have HWL := Lib.hid hwl
  obtain ⟨f0, e5, -, -, -, -, hgs⟩ := L.at_.flat
  have hab := live_able L.good
  cases ho : d.off with
  | true =>
    rw [ho] at e5 hab
    have hr : d.append b = (30, d) := by unfold Dk.append; rw [hab]; rfl
    rw [hr]
    clear L hab ho hr RB hbl hwl f0
    go_enter Try.func39, Try.ntmps39
    go_wp2_with fail
    go_ret
    exact ⟨rfl, HL.out.at_, Ext.refl _ _⟩
  | false =>
    rw [ho] at e5 hab
    have hab0 : d.able = 0 := hab
    have HOF := Lib.hid ho
    have hus := L.good.used
    have hroom := L.good.room
    obtain ⟨hn, -⟩ := rd_len RB
    obtain ⟨R, hR⟩ : ∃ R, d.room = R := ⟨_, rfl⟩
    obtain ⟨U, hU⟩ : ∃ U : Int, (d.now.used : Int) = U := ⟨_, rfl⟩
    have hU0 : 0 ≤ U := by omega
    obtain ⟨Y, hY⟩ : ∃ Y : Int, Y = U + (n : Int) := ⟨_, rfl⟩
    have w2 : IntKind.i64.wrap (U + (n : Int)) = Y := by rw [hY]; exact IntWalk.i64_in _ (by omega)
    have w2' : wrap64 (U + (n : Int)) = Y := by rw [← w2, Last.i64_w]
    have HU := Lib.hid hU
    rw [hR] at f0
    have hfit : d.fits (b.length : Int) = decide (¬ R < Y) := by
      unfold Dk.fits
      rw [decide_eq_decide, hR, hU, hY, ← hn]
      omega
    by_cases hc : R < Y
    · have hr : d.append b = (7, d) := by unfold Dk.append; rw [if_neg (by simp [hab0]), hfit, if_neg (by simp; exact hc)]
      rw [hr]
      clear L hab hab0 ho hr RB hbl hwl hus hroom hn hR hU hU0 hY hfit
      go_enter Try.func39, Try.ntmps39
      go_wp2_with fail
      have ED : Hid (Ext Non w w.drew) := (Ext.refl Non w).drew
      have HLD := Lib.hid (HL.out.ext ED.out)
      have f0 : w.drew.cell? ⟨g, 0, none⟩ = some (.int .i64 R) := f0
      refine Last.start_ (S := fun W => W.cell? ⟨g, 0, none⟩ = some (.int .i64 R)) (ds := []) #[false, false, false, false, false, false, false, false, false, false] (by kernel_rfl) (by rfl) (by rfl) f0 (fun hS => ?_)
      refine Last.take_ (i := 0) (N := some 9) (v := .pointer (some ⟨g, 0, none⟩)) #[true, false, false, false, false, false, false, false, false, false] (by simp only [List.getElem?_toArray, List.getElem?_cons_zero]; rfl) rfl (by kernel_rfl) (by exact fun _ _ _ h => h) (Or.inl ⟨by rfl, fun W hW => by first | rfl | (try dsimp only at hW); go_simp⟩) hS rfl ?_
      simp only [Act.put, List.setIfInBounds_toArray, List.set_cons_zero, List.set_cons_succ]
      refine Last.take_ (i := 2) (N := some 11) (v := .slice A n c) #[true, false, true, false, false, false, false, false, false, false] (by simp only [List.getElem?_toArray, List.getElem?_cons_zero, List.getElem?_cons_succ]; rfl) rfl (by kernel_rfl) (by exact fun _ _ _ h => h) (Or.inl ⟨by rfl, fun W hW => by first | rfl | (try dsimp only at hW); go_simp⟩) hS rfl ?_
      simp only [Act.put, List.setIfInBounds_toArray, List.set_cons_zero, List.set_cons_succ]
      refine Last.take_ (i := 3) (N := some 12) (v := .int .i64 (n : Int)) #[true, false, true, true, false, false, false, false, false, false] (by simp only [List.getElem?_toArray, List.getElem?_cons_zero, List.getElem?_cons_succ]; rfl) rfl (by kernel_rfl) (by exact fun _ _ _ h => h) (Or.inl ⟨by rfl, fun W hW => by first | rfl | (try dsimp only at hW); go_simp⟩) hS rfl ?_
      simp only [Act.put, List.setIfInBounds_toArray, List.set_cons_zero, List.set_cons_succ]
      refine Last.take_ (i := 5) (N := some 14) (v := .pointer (some ⟨g, 0, none⟩)) #[true, false, true, true, false, true, false, false, false, false] (by simp only [List.getElem?_toArray, List.getElem?_cons_zero, List.getElem?_cons_succ]; rfl) rfl (by kernel_rfl) (by exact fun _ _ _ h => h) (Or.inl ⟨by rfl, fun W hW => by first | rfl | (try dsimp only at hW); go_simp⟩) hS rfl ?_
      simp only [Act.put, List.setIfInBounds_toArray, List.set_cons_zero, List.set_cons_succ]
      refine Last.take_ (i := 6) (N := some 15) (v := .pointer (some ⟨g, 0, none⟩)) #[true, false, true, true, false, true, true, false, false, false] (by simp only [List.getElem?_toArray, List.getElem?_cons_zero, List.getElem?_cons_succ]; rfl) rfl (by kernel_rfl) (by exact fun _ _ _ h => h) (Or.inl ⟨by rfl, fun W hW => by first | rfl | (try dsimp only at hW); go_simp⟩) hS rfl ?_
      simp only [Act.put, List.setIfInBounds_toArray, List.set_cons_zero, List.set_cons_succ]
      refine Last.take_ (i := 7) (N := some 16) (v := .pointer (some ⟨g, 0, none⟩)) #[true, false, true, true, false, true, true, true, false, false] (by simp only [List.getElem?_toArray, List.getElem?_cons_zero, List.getElem?_cons_succ]; rfl) rfl (by kernel_rfl) (by exact fun _ _ _ h => h) (Or.inl ⟨by rfl, fun W hW => by first | rfl | (try dsimp only at hW); go_simp⟩) hS rfl ?_
      simp only [Act.put, List.setIfInBounds_toArray, List.set_cons_zero, List.set_cons_succ]
      refine Last.take_ (i := 8) (N := some 17) (v := .int .i64 R) #[true, false, true, true, false, true, true, true, true, false] (by simp only [List.getElem?_toArray, List.getElem?_cons_zero, List.getElem?_cons_succ]; rfl) rfl (by kernel_rfl) (by exact fun _ _ _ h => h) (Or.inl ⟨by rfl, fun W hW => by first | rfl | (try dsimp only at hW); go_simp⟩) hS rfl ?_
      simp only [Act.put, List.setIfInBounds_toArray, List.set_cons_zero, List.set_cons_succ]
      refine Last.one_ (i := 1) (N := some 10) #[true, true, true, true, false, true, true, true, true, false] (by simp only [List.getElem?_toArray, List.getElem?_cons_zero, List.getElem?_cons_succ]; rfl) rfl (by kernel_rfl) (by decide) (fun K hK => ?_)
      refine Last.goes_ Try.func42 (by kernel_rfl) rfl #[.pointer (some ⟨g, 0, none⟩)] (by rfl) rfl rfl (by simp [Act.eval]) ?_
      refine (rused_calls HLD.out).mono ?_
      rintro e w1 ⟨rfl, he⟩
      rw [HU.out]
      have f0 := he.cell f0 (fun e => e)
      have HL1 := Lib.hid (HLD.out.ext he)
      have E1 := Lib.hid (ED.out.trans0 he)
      clear he
      refine ⟨_, rfl, ?_⟩
      refine hK.out _ _ f0 (fun hS => ?_)
      try simp only [Act.put, List.setIfInBounds_toArray, List.set_cons_zero, List.set_cons_succ]
      refine Last.take_ (i := 4) (N := some 13) (v := .int .i64 Y) #[true, true, true, true, true, true, true, true, true, false] (by simp only [List.getElem?_toArray, List.getElem?_cons_zero, List.getElem?_cons_succ]; rfl) rfl (by kernel_rfl) (by exact fun _ _ _ h => h) (Or.inl ⟨by rfl, fun W hW => by first | rfl | (try dsimp only at hW); go_simp⟩) hS rfl ?_
      simp only [Act.put, List.setIfInBounds_toArray, List.set_cons_zero, List.set_cons_succ]
      refine Last.take_ (i := 9) (N := some 18) (v := .bool true) #[true, true, true, true, true, true, true, true, true, true] (by simp only [List.getElem?_toArray, List.getElem?_cons_zero, List.getElem?_cons_succ]; rfl) rfl (by kernel_rfl) (by exact fun _ _ _ h => h) (Or.inl ⟨by rfl, fun W hW => by first | rfl | (try dsimp only at hW); go_simp⟩) hS rfl ?_
      simp only [Act.put, List.setIfInBounds_toArray, List.set_cons_zero, List.set_cons_succ]
      refine Last.done_ (by kernel_rfl) ?_
      clear f0 hS
      go_wp2_with fail
      go_ret
      exact ⟨rfl, HL1.out.at_, E1.out.of0⟩
    · have hr : d.append b = d.act ⟨2, b⟩ := by unfold Dk.append; rw [if_neg (by simp [hab0]), hfit, if_pos (by simpa using hc)]
      have HFIT := Lib.hid (Dk.Good.app_fit (d := d) (b := b) (by rw [hfit]; simpa using hc))
      rw [hr]
      clear L hab hab0 ho hr RB hbl hwl hus hroom hn hR hU hU0 hY hfit
      go_enter Try.func39, Try.ntmps39
      go_wp2_with fail
      have ED : Hid (Ext Non w w.drew) := (Ext.refl Non w).drew
      have HLD := Lib.hid (HL.out.ext ED.out)
      have f0 : w.drew.cell? ⟨g, 0, none⟩ = some (.int .i64 R) := f0
      refine Last.start_ (S := fun W => W.cell? ⟨g, 0, none⟩ = some (.int .i64 R)) (ds := []) #[false, false, false, false, false, false, false, false, false, false] (by kernel_rfl) (by rfl) (by rfl) f0 (fun hS => ?_)
      refine Last.take_ (i := 0) (N := some 9) (v := .pointer (some ⟨g, 0, none⟩)) #[true, false, false, false, false, false, false, false, false, false] (by simp only [List.getElem?_toArray, List.getElem?_cons_zero]; rfl) rfl (by kernel_rfl) (by exact fun _ _ _ h => h) (Or.inl ⟨by rfl, fun W hW => by first | rfl | (try dsimp only at hW); go_simp⟩) hS rfl ?_
      simp only [Act.put, List.setIfInBounds_toArray, List.set_cons_zero, List.set_cons_succ]
      refine Last.take_ (i := 2) (N := some 11) (v := .slice A n c) #[true, false, true, false, false, false, false, false, false, false] (by simp only [List.getElem?_toArray, List.getElem?_cons_zero, List.getElem?_cons_succ]; rfl) rfl (by kernel_rfl) (by exact fun _ _ _ h => h) (Or.inl ⟨by rfl, fun W hW => by first | rfl | (try dsimp only at hW); go_simp⟩) hS rfl ?_
      simp only [Act.put, List.setIfInBounds_toArray, List.set_cons_zero, List.set_cons_succ]
      refine Last.take_ (i := 3) (N := some 12) (v := .int .i64 (n : Int)) #[true, false, true, true, false, false, false, false, false, false] (by simp only [List.getElem?_toArray, List.getElem?_cons_zero, List.getElem?_cons_succ]; rfl) rfl (by kernel_rfl) (by exact fun _ _ _ h => h) (Or.inl ⟨by rfl, fun W hW => by first | rfl | (try dsimp only at hW); go_simp⟩) hS rfl ?_
      simp only [Act.put, List.setIfInBounds_toArray, List.set_cons_zero, List.set_cons_succ]
      refine Last.take_ (i := 5) (N := some 14) (v := .pointer (some ⟨g, 0, none⟩)) #[true, false, true, true, false, true, false, false, false, false] (by simp only [List.getElem?_toArray, List.getElem?_cons_zero, List.getElem?_cons_succ]; rfl) rfl (by kernel_rfl) (by exact fun _ _ _ h => h) (Or.inl ⟨by rfl, fun W hW => by first | rfl | (try dsimp only at hW); go_simp⟩) hS rfl ?_
      simp only [Act.put, List.setIfInBounds_toArray, List.set_cons_zero, List.set_cons_succ]
      refine Last.take_ (i := 6) (N := some 15) (v := .pointer (some ⟨g, 0, none⟩)) #[true, false, true, true, false, true, true, false, false, false] (by simp only [List.getElem?_toArray, List.getElem?_cons_zero, List.getElem?_cons_succ]; rfl) rfl (by kernel_rfl) (by exact fun _ _ _ h => h) (Or.inl ⟨by rfl, fun W hW => by first | rfl | (try dsimp only at hW); go_simp⟩) hS rfl ?_
      simp only [Act.put, List.setIfInBounds_toArray, List.set_cons_zero, List.set_cons_succ]
      refine Last.take_ (i := 7) (N := some 16) (v := .pointer (some ⟨g, 0, none⟩)) #[true, false, true, true, false, true, true, true, false, false] (by simp only [List.getElem?_toArray, List.getElem?_cons_zero, List.getElem?_cons_succ]; rfl) rfl (by kernel_rfl) (by exact fun _ _ _ h => h) (Or.inl ⟨by rfl, fun W hW => by first | rfl | (try dsimp only at hW); go_simp⟩) hS rfl ?_
      simp only [Act.put, List.setIfInBounds_toArray, List.set_cons_zero, List.set_cons_succ]
      refine Last.take_ (i := 8) (N := some 17) (v := .int .i64 R) #[true, false, true, true, false, true, true, true, true, false] (by simp only [List.getElem?_toArray, List.getElem?_cons_zero, List.getElem?_cons_succ]; rfl) rfl (by kernel_rfl) (by exact fun _ _ _ h => h) (Or.inl ⟨by rfl, fun W hW => by first | rfl | (try dsimp only at hW); go_simp⟩) hS rfl ?_
      simp only [Act.put, List.setIfInBounds_toArray, List.set_cons_zero, List.set_cons_succ]
      refine Last.one_ (i := 1) (N := some 10) #[true, true, true, true, false, true, true, true, true, false] (by simp only [List.getElem?_toArray, List.getElem?_cons_zero, List.getElem?_cons_succ]; rfl) rfl (by kernel_rfl) (by decide) (fun K hK => ?_)
      refine Last.goes_ Try.func42 (by kernel_rfl) rfl #[.pointer (some ⟨g, 0, none⟩)] (by rfl) rfl rfl (by simp [Act.eval]) ?_
      refine (rused_calls HLD.out).mono ?_
      rintro e w1 ⟨rfl, he⟩
      rw [HU.out]
      have f0 := he.cell f0 (fun e => e)
      have HL1 := Lib.hid (HLD.out.ext he)
      have E1 := Lib.hid (ED.out.trans0 he)
      clear he
      refine ⟨_, rfl, ?_⟩
      refine hK.out _ _ f0 (fun hS => ?_)
      try simp only [Act.put, List.setIfInBounds_toArray, List.set_cons_zero, List.set_cons_succ]
      refine Last.take_ (i := 4) (N := some 13) (v := .int .i64 Y) #[true, true, true, true, true, true, true, true, true, false] (by simp only [List.getElem?_toArray, List.getElem?_cons_zero, List.getElem?_cons_succ]; rfl) rfl (by kernel_rfl) (by exact fun _ _ _ h => h) (Or.inl ⟨by rfl, fun W hW => by first | rfl | (try dsimp only at hW); go_simp⟩) hS rfl ?_
      simp only [Act.put, List.setIfInBounds_toArray, List.set_cons_zero, List.set_cons_succ]
      refine Last.take_ (i := 9) (N := some 18) (v := .bool false) #[true, true, true, true, true, true, true, true, true, true] (by simp only [List.getElem?_toArray, List.getElem?_cons_zero, List.getElem?_cons_succ]; rfl) rfl (by kernel_rfl) (by exact fun _ _ _ h => h) (Or.inl ⟨by rfl, fun W hW => by first | rfl | (try dsimp only at hW); go_simp⟩) hS rfl ?_
      simp only [Act.put, List.setIfInBounds_toArray, List.set_cons_zero, List.set_cons_succ]
      refine Last.done_ (by kernel_rfl) ?_
      clear f0 hS
      go_wp2_with (at_builtin; refine app_own (w0 := w1) (xs := []) rfl _ _ rfl rfl rfl (lit0 (Ext.refl _ _)) ((Ext.refl Non w1).alloc _) (HRR.out.ext0 E1.out) (by simpa using HBL.out) ?_; intro A5 n5 c5 w5 hn5 O5 E5)
      have HL5 := Lib.hid (HL1.out.ext E5.out)
      have R5 := Lib.hid (((Own.tight O5.out).rd).mono (ok' := ok) (fun k hk => HL1.out.fresh k hk.1))
      have EX := Lib.hid (E1.out.trans0 E5.out)
      rw [List.nil_append] at R5
      refine (ract_calls (a := ⟨2, b⟩) HL5.out HOF.out R5.out ⟨by simp, by simp⟩ HFIT.out HWL.out).mono ?_
      rintro e w6 ⟨rfl, hd, he⟩
      have HD6 := Lib.hid hd
      have E6 := Lib.hid (EX.out.of0.trans he (fun _ _ e => e))
      clear hd he
      go_wp2_with fail
      go_ret
      exact ⟨rfl, HD6.out, E6.out⟩

set_option maxHeartbeats 4000000 in
theorem rslot_calls {w : World} {ok okb : Nat → Prop} {g : Nat} {d : Dk} (L : RLive w ok g d) (i : Int) {A : Option Addr} {n c : Nat} {b : List UInt8} (RB : Rd Kd.u8 w okb (.slice A n c) b) (hbl : b.length ≤ 140737488355328) (hwl : d.wait.length ≤ 90000000) :
    Calls Try.prog 33 #[.pointer (some ⟨g, 0, none⟩), .int .i64 i, .slice A n c] w (RPost ok g (d.slot i b) w) := by
  have HL := Lib.hid L
  have HRR := Lib.hid RB
  have HBL := Lib.hid hbl
  have HWL := Lib.hid hwl
  obtain ⟨f0, e5, -, -, -, -, hgs⟩ := L.at_.flat
  have hab := live_able L.good
  cases ho : d.off with
  | true =>
    rw [ho] at e5 hab
    have hr : d.slot i b = (30, d) := by unfold Dk.slot; rw [hab]; rfl
    rw [hr]
    clear L hab ho hr RB hbl hwl f0
    go_enter Try.func33, Try.ntmps33
    go_wp2_with fail
    go_ret
    exact ⟨rfl, HL.out.at_, Ext.refl _ _⟩
  | false =>
    rw [ho] at e5 hab
    have hab0 : d.able = 0 := hab
    have HOF := Lib.hid ho
    by_cases hi : i < 0 ∨ 1 < i
    · have hr : d.slot i b = (31, d) := by unfold Dk.slot; rw [if_neg (by simp [hab0]), if_pos hi]
      have q1 : (i != 0) = true := by simp; omega
      have q2 : (i != 1) = true := by simp; omega
      rw [hr]
      clear L hab hab0 ho hr RB hbl hwl f0 hi
      go_enter Try.func33, Try.ntmps33
      go_wp2_with fail
      go_ret
      exact ⟨rfl, HL.out.at_, Ext.refl _ _⟩
    have hus := L.good.used
    have hroom := L.good.room
    obtain ⟨hn, -⟩ := rd_len RB
    obtain ⟨R, hR⟩ : ∃ R, d.room = R := ⟨_, rfl⟩
    obtain ⟨U, hU⟩ : ∃ U : Int, (d.now.used : Int) = U := ⟨_, rfl⟩
    obtain ⟨ns, hns⟩ : ∃ ns : Nat, ns = (d.now.slot i).length := ⟨_, rfl⟩
    have hsu : (ns : Int) ≤ U := by
      rw [hns, ← hU]
      unfold Plate.slot Plate.used
      split <;> omega
    have hU0 : 0 ≤ U := by omega
    obtain ⟨X, hX⟩ : ∃ X : Int, X = U - (ns : Int) := ⟨_, rfl⟩
    obtain ⟨Y, hY⟩ : ∃ Y : Int, Y = X + (n : Int) := ⟨_, rfl⟩
    have w1' : IntKind.i64.wrap (U - (ns : Int)) = X := by rw [hX]; exact IntWalk.i64_in _ (by omega)
    have w1'' : wrap64 (U - (ns : Int)) = X := by rw [← w1', Last.i64_w]
    have w2 : IntKind.i64.wrap (X + (n : Int)) = Y := by rw [hY]; exact IntWalk.i64_in _ (by omega)
    have w2' : wrap64 (X + (n : Int)) = Y := by rw [← w2, Last.i64_w]
    have HU := Lib.hid hU
    have HNS := Lib.hid hns
    rw [hR] at f0
    have hfit : d.fits ((b.length : Int) - ((d.now.slot i).length : Int)) = decide (¬ R < Y) := by
      unfold Dk.fits
      rw [decide_eq_decide, hR, hU, hY, hX, ← hn, ← hns]
      omega
    by_cases hc : R < Y
    · have hr : d.slot i b = (7, d) := by unfold Dk.slot; rw [if_neg (by simp [hab0]), if_neg hi, hfit, if_neg (by simp; exact hc)]
      rw [hr]
      have hi2 := slot01 hi
      clear L hab hab0 ho hr RB hbl hwl hus hroom hn hR hU hU0 hY hX hns hsu hfit hi
      rcases hi2 with rfl | rfl
      · go_enter Try.func33, Try.ntmps33
        go_wp2_with fail
        have ED : Hid (Ext Non w w.drew) := (Ext.refl Non w).drew
        have HLD := Lib.hid (HL.out.ext ED.out)
        have f0 : w.drew.cell? ⟨g, 0, none⟩ = some (.int .i64 R) := f0
        refine Last.start_ (S := fun W => W.cell? ⟨g, 0, none⟩ = some (.int .i64 R)) (ds := []) #[false, false, false, false, false, false, false, false, false, false, false, false, false, false, false, false] (by kernel_rfl) (by rfl) (by rfl) f0 (fun hS => ?_)
        refine Last.take_ (i := 0) (N := some 17) (v := .pointer (some ⟨g, 0, none⟩)) #[true, false, false, false, false, false, false, false, false, false, false, false, false, false, false, false] (by simp only [List.getElem?_toArray, List.getElem?_cons_zero]; rfl) rfl (by kernel_rfl) (by exact fun _ _ _ h => h) (Or.inl ⟨by rfl, fun W hW => by first | rfl | (try dsimp only at hW); go_simp⟩) hS rfl ?_
        simp only [Act.put, List.setIfInBounds_toArray, List.set_cons_zero, List.set_cons_succ]
        refine Last.take_ (i := 2) (N := some 19) (v := .pointer (some ⟨g, 0, none⟩)) #[true, false, true, false, false, false, false, false, false, false, false, false, false, false, false, false] (by simp only [List.getElem?_toArray, List.getElem?_cons_zero, List.getElem?_cons_succ]; rfl) rfl (by kernel_rfl) (by exact fun _ _ _ h => h) (Or.inl ⟨by rfl, fun W hW => by first | rfl | (try dsimp only at hW); go_simp⟩) hS rfl ?_
        simp only [Act.put, List.setIfInBounds_toArray, List.set_cons_zero, List.set_cons_succ]
        refine Last.take_ (i := 4) (N := some 21) (v := .int .i64 0) #[true, false, true, false, true, false, false, false, false, false, false, false, false, false, false, false] (by simp only [List.getElem?_toArray, List.getElem?_cons_zero, List.getElem?_cons_succ]; rfl) rfl (by kernel_rfl) (by exact fun _ _ _ h => h) (Or.inl ⟨by rfl, fun W hW => by first | rfl | (try dsimp only at hW); go_simp⟩) hS rfl ?_
        simp only [Act.put, List.setIfInBounds_toArray, List.set_cons_zero, List.set_cons_succ]
        refine Last.take_ (i := 8) (N := some 25) (v := .slice A n c) #[true, false, true, false, true, false, false, false, true, false, false, false, false, false, false, false] (by simp only [List.getElem?_toArray, List.getElem?_cons_zero, List.getElem?_cons_succ]; rfl) rfl (by kernel_rfl) (by exact fun _ _ _ h => h) (Or.inl ⟨by rfl, fun W hW => by first | rfl | (try dsimp only at hW); go_simp⟩) hS rfl ?_
        simp only [Act.put, List.setIfInBounds_toArray, List.set_cons_zero, List.set_cons_succ]
        refine Last.take_ (i := 9) (N := some 26) (v := .int .i64 (n : Int)) #[true, false, true, false, true, false, false, false, true, true, false, false, false, false, false, false] (by simp only [List.getElem?_toArray, List.getElem?_cons_zero, List.getElem?_cons_succ]; rfl) rfl (by kernel_rfl) (by exact fun _ _ _ h => h) (Or.inl ⟨by rfl, fun W hW => by first | rfl | (try dsimp only at hW); go_simp⟩) hS rfl ?_
        simp only [Act.put, List.setIfInBounds_toArray, List.set_cons_zero, List.set_cons_succ]
        refine Last.take_ (i := 11) (N := some 28) (v := .pointer (some ⟨g, 0, none⟩)) #[true, false, true, false, true, false, false, false, true, true, false, true, false, false, false, false] (by simp only [List.getElem?_toArray, List.getElem?_cons_zero, List.getElem?_cons_succ]; rfl) rfl (by kernel_rfl) (by exact fun _ _ _ h => h) (Or.inl ⟨by rfl, fun W hW => by first | rfl | (try dsimp only at hW); go_simp⟩) hS rfl ?_
        simp only [Act.put, List.setIfInBounds_toArray, List.set_cons_zero, List.set_cons_succ]
        refine Last.take_ (i := 12) (N := some 29) (v := .pointer (some ⟨g, 0, none⟩)) #[true, false, true, false, true, false, false, false, true, true, false, true, true, false, false, false] (by simp only [List.getElem?_toArray, List.getElem?_cons_zero, List.getElem?_cons_succ]; rfl) rfl (by kernel_rfl) (by exact fun _ _ _ h => h) (Or.inl ⟨by rfl, fun W hW => by first | rfl | (try dsimp only at hW); go_simp⟩) hS rfl ?_
        simp only [Act.put, List.setIfInBounds_toArray, List.set_cons_zero, List.set_cons_succ]
        refine Last.take_ (i := 13) (N := some 30) (v := .pointer (some ⟨g, 0, none⟩)) #[true, false, true, false, true, false, false, false, true, true, false, true, true, true, false, false] (by simp only [List.getElem?_toArray, List.getElem?_cons_zero, List.getElem?_cons_succ]; rfl) rfl (by kernel_rfl) (by exact fun _ _ _ h => h) (Or.inl ⟨by rfl, fun W hW => by first | rfl | (try dsimp only at hW); go_simp⟩) hS rfl ?_
        simp only [Act.put, List.setIfInBounds_toArray, List.set_cons_zero, List.set_cons_succ]
        refine Last.take_ (i := 14) (N := some 31) (v := .int .i64 R) #[true, false, true, false, true, false, false, false, true, true, false, true, true, true, true, false] (by simp only [List.getElem?_toArray, List.getElem?_cons_zero, List.getElem?_cons_succ]; rfl) rfl (by kernel_rfl) (by exact fun _ _ _ h => h) (Or.inl ⟨by rfl, fun W hW => by first | rfl | (try dsimp only at hW); go_simp⟩) hS rfl ?_
        simp only [Act.put, List.setIfInBounds_toArray, List.set_cons_zero, List.set_cons_succ]
        refine Last.one_ (i := 1) (N := some 18) #[true, true, true, false, true, false, false, false, true, true, false, true, true, true, true, false] (by simp only [List.getElem?_toArray, List.getElem?_cons_zero, List.getElem?_cons_succ]; rfl) rfl (by kernel_rfl) (by decide) (fun K hK => ?_)
        refine Last.goes_ Try.func42 (by kernel_rfl) rfl #[.pointer (some ⟨g, 0, none⟩)] (by rfl) rfl rfl (by simp [Act.eval]) ?_
        refine (rused_calls HLD.out).mono ?_
        rintro e w1 ⟨rfl, he⟩
        rw [HU.out]
        have f0 := he.cell f0 (fun e => e)
        have HL1 := Lib.hid (HLD.out.ext he)
        have E1 := Lib.hid (ED.out.trans0 he)
        clear he
        refine ⟨_, rfl, ?_⟩
        refine hK.out _ _ f0 (fun hS => ?_)
        try simp only [Act.put, List.setIfInBounds_toArray, List.set_cons_zero, List.set_cons_succ]
        refine Last.one_ (i := 3) (N := some 20) #[true, true, true, true, true, false, false, false, true, true, false, true, true, true, true, false] (by simp only [List.getElem?_toArray, List.getElem?_cons_zero, List.getElem?_cons_succ]; rfl) rfl (by kernel_rfl) (by decide) (fun K hK => ?_)
        refine Last.goes_ Try.func53 (by kernel_rfl) rfl #[.pointer (some ⟨g, 0, none⟩)] (by rfl) rfl rfl (by simp [Act.eval]) ?_
        refine (rnow_calls HL1.out).mono ?_
        rintro e w2 ⟨A0, n0, c0, A1, n1, c1, A2, n2, c2, rfl, hp, he⟩
        have f0 := he.out.cell f0 (fun e => e)
        have HL2 := Lib.hid (HL1.out.ext he.out)
        have E2 := Lib.hid (E1.out.trans0 he.out)
        have hnn : ns = n0 := HNS.out.trans (rd_len hp.out.1).1.symm
        subst hnn
        have i0 := fun W => idx0 W A0 A1 A2 ns n1 n2 c0 c1 c2
        clear he hp
        refine ⟨_, rfl, ?_⟩
        refine hK.out _ _ f0 (fun hS => ?_)
        try simp only [Act.put, List.setIfInBounds_toArray, List.set_cons_zero, List.set_cons_succ]
        refine Last.take_ (i := 5) (N := some 22) (v := .slice A0 ns c0) #[true, true, true, true, true, true, false, false, true, true, false, true, true, true, true, false] (by simp only [List.getElem?_toArray, List.getElem?_cons_zero, List.getElem?_cons_succ]; rfl) rfl (by kernel_rfl) (by exact fun _ _ _ h => h) (Or.inl ⟨by rfl, fun W hW => by first | rfl | (try dsimp only at hW); go_simp⟩) hS rfl ?_
        simp only [Act.put, List.setIfInBounds_toArray, List.set_cons_zero, List.set_cons_succ]
        refine Last.take_ (i := 6) (N := some 23) (v := .int .i64 (ns : Int)) #[true, true, true, true, true, true, true, false, true, true, false, true, true, true, true, false] (by simp only [List.getElem?_toArray, List.getElem?_cons_zero, List.getElem?_cons_succ]; rfl) rfl (by kernel_rfl) (by exact fun _ _ _ h => h) (Or.inl ⟨by rfl, fun W hW => by first | rfl | (try dsimp only at hW); go_simp⟩) hS rfl ?_
        simp only [Act.put, List.setIfInBounds_toArray, List.set_cons_zero, List.set_cons_succ]
        refine Last.take_ (i := 7) (N := some 24) (v := .int .i64 X) #[true, true, true, true, true, true, true, true, true, true, false, true, true, true, true, false] (by simp only [List.getElem?_toArray, List.getElem?_cons_zero, List.getElem?_cons_succ]; rfl) rfl (by kernel_rfl) (by exact fun _ _ _ h => h) (Or.inl ⟨by rfl, fun W hW => by first | rfl | (try dsimp only at hW); go_simp⟩) hS rfl ?_
        simp only [Act.put, List.setIfInBounds_toArray, List.set_cons_zero, List.set_cons_succ]
        refine Last.take_ (i := 10) (N := some 27) (v := .int .i64 Y) #[true, true, true, true, true, true, true, true, true, true, true, true, true, true, true, false] (by simp only [List.getElem?_toArray, List.getElem?_cons_zero, List.getElem?_cons_succ]; rfl) rfl (by kernel_rfl) (by exact fun _ _ _ h => h) (Or.inl ⟨by rfl, fun W hW => by first | rfl | (try dsimp only at hW); go_simp⟩) hS rfl ?_
        simp only [Act.put, List.setIfInBounds_toArray, List.set_cons_zero, List.set_cons_succ]
        refine Last.take_ (i := 15) (N := some 32) (v := .bool true) #[true, true, true, true, true, true, true, true, true, true, true, true, true, true, true, true] (by simp only [List.getElem?_toArray, List.getElem?_cons_zero, List.getElem?_cons_succ]; rfl) rfl (by kernel_rfl) (by exact fun _ _ _ h => h) (Or.inl ⟨by rfl, fun W hW => by first | rfl | (try dsimp only at hW); go_simp⟩) hS rfl ?_
        simp only [Act.put, List.setIfInBounds_toArray, List.set_cons_zero, List.set_cons_succ]
        refine Last.done_ (by kernel_rfl) ?_
        clear f0 hS
        go_wp2_with fail
        go_ret
        exact ⟨rfl, HL2.out.at_, E2.out.of0⟩
      · go_enter Try.func33, Try.ntmps33
        go_wp2_with fail
        have ED : Hid (Ext Non w w.drew) := (Ext.refl Non w).drew
        have HLD := Lib.hid (HL.out.ext ED.out)
        have f0 : w.drew.cell? ⟨g, 0, none⟩ = some (.int .i64 R) := f0
        refine Last.start_ (S := fun W => W.cell? ⟨g, 0, none⟩ = some (.int .i64 R)) (ds := []) #[false, false, false, false, false, false, false, false, false, false, false, false, false, false, false, false] (by kernel_rfl) (by rfl) (by rfl) f0 (fun hS => ?_)
        refine Last.take_ (i := 0) (N := some 17) (v := .pointer (some ⟨g, 0, none⟩)) #[true, false, false, false, false, false, false, false, false, false, false, false, false, false, false, false] (by simp only [List.getElem?_toArray, List.getElem?_cons_zero]; rfl) rfl (by kernel_rfl) (by exact fun _ _ _ h => h) (Or.inl ⟨by rfl, fun W hW => by first | rfl | (try dsimp only at hW); go_simp⟩) hS rfl ?_
        simp only [Act.put, List.setIfInBounds_toArray, List.set_cons_zero, List.set_cons_succ]
        refine Last.take_ (i := 2) (N := some 19) (v := .pointer (some ⟨g, 0, none⟩)) #[true, false, true, false, false, false, false, false, false, false, false, false, false, false, false, false] (by simp only [List.getElem?_toArray, List.getElem?_cons_zero, List.getElem?_cons_succ]; rfl) rfl (by kernel_rfl) (by exact fun _ _ _ h => h) (Or.inl ⟨by rfl, fun W hW => by first | rfl | (try dsimp only at hW); go_simp⟩) hS rfl ?_
        simp only [Act.put, List.setIfInBounds_toArray, List.set_cons_zero, List.set_cons_succ]
        refine Last.take_ (i := 4) (N := some 21) (v := .int .i64 1) #[true, false, true, false, true, false, false, false, false, false, false, false, false, false, false, false] (by simp only [List.getElem?_toArray, List.getElem?_cons_zero, List.getElem?_cons_succ]; rfl) rfl (by kernel_rfl) (by exact fun _ _ _ h => h) (Or.inl ⟨by rfl, fun W hW => by first | rfl | (try dsimp only at hW); go_simp⟩) hS rfl ?_
        simp only [Act.put, List.setIfInBounds_toArray, List.set_cons_zero, List.set_cons_succ]
        refine Last.take_ (i := 8) (N := some 25) (v := .slice A n c) #[true, false, true, false, true, false, false, false, true, false, false, false, false, false, false, false] (by simp only [List.getElem?_toArray, List.getElem?_cons_zero, List.getElem?_cons_succ]; rfl) rfl (by kernel_rfl) (by exact fun _ _ _ h => h) (Or.inl ⟨by rfl, fun W hW => by first | rfl | (try dsimp only at hW); go_simp⟩) hS rfl ?_
        simp only [Act.put, List.setIfInBounds_toArray, List.set_cons_zero, List.set_cons_succ]
        refine Last.take_ (i := 9) (N := some 26) (v := .int .i64 (n : Int)) #[true, false, true, false, true, false, false, false, true, true, false, false, false, false, false, false] (by simp only [List.getElem?_toArray, List.getElem?_cons_zero, List.getElem?_cons_succ]; rfl) rfl (by kernel_rfl) (by exact fun _ _ _ h => h) (Or.inl ⟨by rfl, fun W hW => by first | rfl | (try dsimp only at hW); go_simp⟩) hS rfl ?_
        simp only [Act.put, List.setIfInBounds_toArray, List.set_cons_zero, List.set_cons_succ]
        refine Last.take_ (i := 11) (N := some 28) (v := .pointer (some ⟨g, 0, none⟩)) #[true, false, true, false, true, false, false, false, true, true, false, true, false, false, false, false] (by simp only [List.getElem?_toArray, List.getElem?_cons_zero, List.getElem?_cons_succ]; rfl) rfl (by kernel_rfl) (by exact fun _ _ _ h => h) (Or.inl ⟨by rfl, fun W hW => by first | rfl | (try dsimp only at hW); go_simp⟩) hS rfl ?_
        simp only [Act.put, List.setIfInBounds_toArray, List.set_cons_zero, List.set_cons_succ]
        refine Last.take_ (i := 12) (N := some 29) (v := .pointer (some ⟨g, 0, none⟩)) #[true, false, true, false, true, false, false, false, true, true, false, true, true, false, false, false] (by simp only [List.getElem?_toArray, List.getElem?_cons_zero, List.getElem?_cons_succ]; rfl) rfl (by kernel_rfl) (by exact fun _ _ _ h => h) (Or.inl ⟨by rfl, fun W hW => by first | rfl | (try dsimp only at hW); go_simp⟩) hS rfl ?_
        simp only [Act.put, List.setIfInBounds_toArray, List.set_cons_zero, List.set_cons_succ]
        refine Last.take_ (i := 13) (N := some 30) (v := .pointer (some ⟨g, 0, none⟩)) #[true, false, true, false, true, false, false, false, true, true, false, true, true, true, false, false] (by simp only [List.getElem?_toArray, List.getElem?_cons_zero, List.getElem?_cons_succ]; rfl) rfl (by kernel_rfl) (by exact fun _ _ _ h => h) (Or.inl ⟨by rfl, fun W hW => by first | rfl | (try dsimp only at hW); go_simp⟩) hS rfl ?_
        simp only [Act.put, List.setIfInBounds_toArray, List.set_cons_zero, List.set_cons_succ]
        refine Last.take_ (i := 14) (N := some 31) (v := .int .i64 R) #[true, false, true, false, true, false, false, false, true, true, false, true, true, true, true, false] (by simp only [List.getElem?_toArray, List.getElem?_cons_zero, List.getElem?_cons_succ]; rfl) rfl (by kernel_rfl) (by exact fun _ _ _ h => h) (Or.inl ⟨by rfl, fun W hW => by first | rfl | (try dsimp only at hW); go_simp⟩) hS rfl ?_
        simp only [Act.put, List.setIfInBounds_toArray, List.set_cons_zero, List.set_cons_succ]
        refine Last.one_ (i := 1) (N := some 18) #[true, true, true, false, true, false, false, false, true, true, false, true, true, true, true, false] (by simp only [List.getElem?_toArray, List.getElem?_cons_zero, List.getElem?_cons_succ]; rfl) rfl (by kernel_rfl) (by decide) (fun K hK => ?_)
        refine Last.goes_ Try.func42 (by kernel_rfl) rfl #[.pointer (some ⟨g, 0, none⟩)] (by rfl) rfl rfl (by simp [Act.eval]) ?_
        refine (rused_calls HLD.out).mono ?_
        rintro e w1 ⟨rfl, he⟩
        rw [HU.out]
        have f0 := he.cell f0 (fun e => e)
        have HL1 := Lib.hid (HLD.out.ext he)
        have E1 := Lib.hid (ED.out.trans0 he)
        clear he
        refine ⟨_, rfl, ?_⟩
        refine hK.out _ _ f0 (fun hS => ?_)
        try simp only [Act.put, List.setIfInBounds_toArray, List.set_cons_zero, List.set_cons_succ]
        refine Last.one_ (i := 3) (N := some 20) #[true, true, true, true, true, false, false, false, true, true, false, true, true, true, true, false] (by simp only [List.getElem?_toArray, List.getElem?_cons_zero, List.getElem?_cons_succ]; rfl) rfl (by kernel_rfl) (by decide) (fun K hK => ?_)
        refine Last.goes_ Try.func53 (by kernel_rfl) rfl #[.pointer (some ⟨g, 0, none⟩)] (by rfl) rfl rfl (by simp [Act.eval]) ?_
        refine (rnow_calls HL1.out).mono ?_
        rintro e w2 ⟨A0, n0, c0, A1, n1, c1, A2, n2, c2, rfl, hp, he⟩
        have f0 := he.out.cell f0 (fun e => e)
        have HL2 := Lib.hid (HL1.out.ext he.out)
        have E2 := Lib.hid (E1.out.trans0 he.out)
        have hnn : ns = n1 := HNS.out.trans (rd_len hp.out.2.1).1.symm
        subst hnn
        have i1 := fun W => idx1 W A0 A1 A2 n0 ns n2 c0 c1 c2
        clear he hp
        refine ⟨_, rfl, ?_⟩
        refine hK.out _ _ f0 (fun hS => ?_)
        try simp only [Act.put, List.setIfInBounds_toArray, List.set_cons_zero, List.set_cons_succ]
        refine Last.take_ (i := 5) (N := some 22) (v := .slice A1 ns c1) #[true, true, true, true, true, true, false, false, true, true, false, true, true, true, true, false] (by simp only [List.getElem?_toArray, List.getElem?_cons_zero, List.getElem?_cons_succ]; rfl) rfl (by kernel_rfl) (by exact fun _ _ _ h => h) (Or.inl ⟨by rfl, fun W hW => by first | rfl | (try dsimp only at hW); go_simp⟩) hS rfl ?_
        simp only [Act.put, List.setIfInBounds_toArray, List.set_cons_zero, List.set_cons_succ]
        refine Last.take_ (i := 6) (N := some 23) (v := .int .i64 (ns : Int)) #[true, true, true, true, true, true, true, false, true, true, false, true, true, true, true, false] (by simp only [List.getElem?_toArray, List.getElem?_cons_zero, List.getElem?_cons_succ]; rfl) rfl (by kernel_rfl) (by exact fun _ _ _ h => h) (Or.inl ⟨by rfl, fun W hW => by first | rfl | (try dsimp only at hW); go_simp⟩) hS rfl ?_
        simp only [Act.put, List.setIfInBounds_toArray, List.set_cons_zero, List.set_cons_succ]
        refine Last.take_ (i := 7) (N := some 24) (v := .int .i64 X) #[true, true, true, true, true, true, true, true, true, true, false, true, true, true, true, false] (by simp only [List.getElem?_toArray, List.getElem?_cons_zero, List.getElem?_cons_succ]; rfl) rfl (by kernel_rfl) (by exact fun _ _ _ h => h) (Or.inl ⟨by rfl, fun W hW => by first | rfl | (try dsimp only at hW); go_simp⟩) hS rfl ?_
        simp only [Act.put, List.setIfInBounds_toArray, List.set_cons_zero, List.set_cons_succ]
        refine Last.take_ (i := 10) (N := some 27) (v := .int .i64 Y) #[true, true, true, true, true, true, true, true, true, true, true, true, true, true, true, false] (by simp only [List.getElem?_toArray, List.getElem?_cons_zero, List.getElem?_cons_succ]; rfl) rfl (by kernel_rfl) (by exact fun _ _ _ h => h) (Or.inl ⟨by rfl, fun W hW => by first | rfl | (try dsimp only at hW); go_simp⟩) hS rfl ?_
        simp only [Act.put, List.setIfInBounds_toArray, List.set_cons_zero, List.set_cons_succ]
        refine Last.take_ (i := 15) (N := some 32) (v := .bool true) #[true, true, true, true, true, true, true, true, true, true, true, true, true, true, true, true] (by simp only [List.getElem?_toArray, List.getElem?_cons_zero, List.getElem?_cons_succ]; rfl) rfl (by kernel_rfl) (by exact fun _ _ _ h => h) (Or.inl ⟨by rfl, fun W hW => by first | rfl | (try dsimp only at hW); go_simp⟩) hS rfl ?_
        simp only [Act.put, List.setIfInBounds_toArray, List.set_cons_zero, List.set_cons_succ]
        refine Last.done_ (by kernel_rfl) ?_
        clear f0 hS
        go_wp2_with fail
        go_ret
        exact ⟨rfl, HL2.out.at_, E2.out.of0⟩
    · have hr : d.slot i b = d.act ⟨i, b⟩ := by unfold Dk.slot; rw [if_neg (by simp [hab0]), if_neg hi, hfit, if_pos (by simpa using hc)]
      have HFIT := Lib.hid (Dk.Good.slot_fit (d := d) (b := b) hi (by rw [hfit]; simpa using hc))
      rw [hr]
      have hi2 := slot01 hi
      clear L hab hab0 ho hr RB hbl hwl hus hroom hn hR hU hU0 hY hX hns hsu hfit hi
      rcases hi2 with rfl | rfl
      · go_enter Try.func33, Try.ntmps33
        go_wp2_with fail
        have ED : Hid (Ext Non w w.drew) := (Ext.refl Non w).drew
        have HLD := Lib.hid (HL.out.ext ED.out)
        have f0 : w.drew.cell? ⟨g, 0, none⟩ = some (.int .i64 R) := f0
        refine Last.start_ (S := fun W => W.cell? ⟨g, 0, none⟩ = some (.int .i64 R)) (ds := []) #[false, false, false, false, false, false, false, false, false, false, false, false, false, false, false, false] (by kernel_rfl) (by rfl) (by rfl) f0 (fun hS => ?_)
        refine Last.take_ (i := 0) (N := some 17) (v := .pointer (some ⟨g, 0, none⟩)) #[true, false, false, false, false, false, false, false, false, false, false, false, false, false, false, false] (by simp only [List.getElem?_toArray, List.getElem?_cons_zero]; rfl) rfl (by kernel_rfl) (by exact fun _ _ _ h => h) (Or.inl ⟨by rfl, fun W hW => by first | rfl | (try dsimp only at hW); go_simp⟩) hS rfl ?_
        simp only [Act.put, List.setIfInBounds_toArray, List.set_cons_zero, List.set_cons_succ]
        refine Last.take_ (i := 2) (N := some 19) (v := .pointer (some ⟨g, 0, none⟩)) #[true, false, true, false, false, false, false, false, false, false, false, false, false, false, false, false] (by simp only [List.getElem?_toArray, List.getElem?_cons_zero, List.getElem?_cons_succ]; rfl) rfl (by kernel_rfl) (by exact fun _ _ _ h => h) (Or.inl ⟨by rfl, fun W hW => by first | rfl | (try dsimp only at hW); go_simp⟩) hS rfl ?_
        simp only [Act.put, List.setIfInBounds_toArray, List.set_cons_zero, List.set_cons_succ]
        refine Last.take_ (i := 4) (N := some 21) (v := .int .i64 0) #[true, false, true, false, true, false, false, false, false, false, false, false, false, false, false, false] (by simp only [List.getElem?_toArray, List.getElem?_cons_zero, List.getElem?_cons_succ]; rfl) rfl (by kernel_rfl) (by exact fun _ _ _ h => h) (Or.inl ⟨by rfl, fun W hW => by first | rfl | (try dsimp only at hW); go_simp⟩) hS rfl ?_
        simp only [Act.put, List.setIfInBounds_toArray, List.set_cons_zero, List.set_cons_succ]
        refine Last.take_ (i := 8) (N := some 25) (v := .slice A n c) #[true, false, true, false, true, false, false, false, true, false, false, false, false, false, false, false] (by simp only [List.getElem?_toArray, List.getElem?_cons_zero, List.getElem?_cons_succ]; rfl) rfl (by kernel_rfl) (by exact fun _ _ _ h => h) (Or.inl ⟨by rfl, fun W hW => by first | rfl | (try dsimp only at hW); go_simp⟩) hS rfl ?_
        simp only [Act.put, List.setIfInBounds_toArray, List.set_cons_zero, List.set_cons_succ]
        refine Last.take_ (i := 9) (N := some 26) (v := .int .i64 (n : Int)) #[true, false, true, false, true, false, false, false, true, true, false, false, false, false, false, false] (by simp only [List.getElem?_toArray, List.getElem?_cons_zero, List.getElem?_cons_succ]; rfl) rfl (by kernel_rfl) (by exact fun _ _ _ h => h) (Or.inl ⟨by rfl, fun W hW => by first | rfl | (try dsimp only at hW); go_simp⟩) hS rfl ?_
        simp only [Act.put, List.setIfInBounds_toArray, List.set_cons_zero, List.set_cons_succ]
        refine Last.take_ (i := 11) (N := some 28) (v := .pointer (some ⟨g, 0, none⟩)) #[true, false, true, false, true, false, false, false, true, true, false, true, false, false, false, false] (by simp only [List.getElem?_toArray, List.getElem?_cons_zero, List.getElem?_cons_succ]; rfl) rfl (by kernel_rfl) (by exact fun _ _ _ h => h) (Or.inl ⟨by rfl, fun W hW => by first | rfl | (try dsimp only at hW); go_simp⟩) hS rfl ?_
        simp only [Act.put, List.setIfInBounds_toArray, List.set_cons_zero, List.set_cons_succ]
        refine Last.take_ (i := 12) (N := some 29) (v := .pointer (some ⟨g, 0, none⟩)) #[true, false, true, false, true, false, false, false, true, true, false, true, true, false, false, false] (by simp only [List.getElem?_toArray, List.getElem?_cons_zero, List.getElem?_cons_succ]; rfl) rfl (by kernel_rfl) (by exact fun _ _ _ h => h) (Or.inl ⟨by rfl, fun W hW => by first | rfl | (try dsimp only at hW); go_simp⟩) hS rfl ?_
        simp only [Act.put, List.setIfInBounds_toArray, List.set_cons_zero, List.set_cons_succ]
        refine Last.take_ (i := 13) (N := some 30) (v := .pointer (some ⟨g, 0, none⟩)) #[true, false, true, false, true, false, false, false, true, true, false, true, true, true, false, false] (by simp only [List.getElem?_toArray, List.getElem?_cons_zero, List.getElem?_cons_succ]; rfl) rfl (by kernel_rfl) (by exact fun _ _ _ h => h) (Or.inl ⟨by rfl, fun W hW => by first | rfl | (try dsimp only at hW); go_simp⟩) hS rfl ?_
        simp only [Act.put, List.setIfInBounds_toArray, List.set_cons_zero, List.set_cons_succ]
        refine Last.take_ (i := 14) (N := some 31) (v := .int .i64 R) #[true, false, true, false, true, false, false, false, true, true, false, true, true, true, true, false] (by simp only [List.getElem?_toArray, List.getElem?_cons_zero, List.getElem?_cons_succ]; rfl) rfl (by kernel_rfl) (by exact fun _ _ _ h => h) (Or.inl ⟨by rfl, fun W hW => by first | rfl | (try dsimp only at hW); go_simp⟩) hS rfl ?_
        simp only [Act.put, List.setIfInBounds_toArray, List.set_cons_zero, List.set_cons_succ]
        refine Last.one_ (i := 1) (N := some 18) #[true, true, true, false, true, false, false, false, true, true, false, true, true, true, true, false] (by simp only [List.getElem?_toArray, List.getElem?_cons_zero, List.getElem?_cons_succ]; rfl) rfl (by kernel_rfl) (by decide) (fun K hK => ?_)
        refine Last.goes_ Try.func42 (by kernel_rfl) rfl #[.pointer (some ⟨g, 0, none⟩)] (by rfl) rfl rfl (by simp [Act.eval]) ?_
        refine (rused_calls HLD.out).mono ?_
        rintro e w1 ⟨rfl, he⟩
        rw [HU.out]
        have f0 := he.cell f0 (fun e => e)
        have HL1 := Lib.hid (HLD.out.ext he)
        have E1 := Lib.hid (ED.out.trans0 he)
        clear he
        refine ⟨_, rfl, ?_⟩
        refine hK.out _ _ f0 (fun hS => ?_)
        try simp only [Act.put, List.setIfInBounds_toArray, List.set_cons_zero, List.set_cons_succ]
        refine Last.one_ (i := 3) (N := some 20) #[true, true, true, true, true, false, false, false, true, true, false, true, true, true, true, false] (by simp only [List.getElem?_toArray, List.getElem?_cons_zero, List.getElem?_cons_succ]; rfl) rfl (by kernel_rfl) (by decide) (fun K hK => ?_)
        refine Last.goes_ Try.func53 (by kernel_rfl) rfl #[.pointer (some ⟨g, 0, none⟩)] (by rfl) rfl rfl (by simp [Act.eval]) ?_
        refine (rnow_calls HL1.out).mono ?_
        rintro e w2 ⟨A0, n0, c0, A1, n1, c1, A2, n2, c2, rfl, hp, he⟩
        have f0 := he.out.cell f0 (fun e => e)
        have HL2 := Lib.hid (HL1.out.ext he.out)
        have E2 := Lib.hid (E1.out.trans0 he.out)
        have hnn : ns = n0 := HNS.out.trans (rd_len hp.out.1).1.symm
        subst hnn
        have i0 := fun W => idx0 W A0 A1 A2 ns n1 n2 c0 c1 c2
        clear he hp
        refine ⟨_, rfl, ?_⟩
        refine hK.out _ _ f0 (fun hS => ?_)
        try simp only [Act.put, List.setIfInBounds_toArray, List.set_cons_zero, List.set_cons_succ]
        refine Last.take_ (i := 5) (N := some 22) (v := .slice A0 ns c0) #[true, true, true, true, true, true, false, false, true, true, false, true, true, true, true, false] (by simp only [List.getElem?_toArray, List.getElem?_cons_zero, List.getElem?_cons_succ]; rfl) rfl (by kernel_rfl) (by exact fun _ _ _ h => h) (Or.inl ⟨by rfl, fun W hW => by first | rfl | (try dsimp only at hW); go_simp⟩) hS rfl ?_
        simp only [Act.put, List.setIfInBounds_toArray, List.set_cons_zero, List.set_cons_succ]
        refine Last.take_ (i := 6) (N := some 23) (v := .int .i64 (ns : Int)) #[true, true, true, true, true, true, true, false, true, true, false, true, true, true, true, false] (by simp only [List.getElem?_toArray, List.getElem?_cons_zero, List.getElem?_cons_succ]; rfl) rfl (by kernel_rfl) (by exact fun _ _ _ h => h) (Or.inl ⟨by rfl, fun W hW => by first | rfl | (try dsimp only at hW); go_simp⟩) hS rfl ?_
        simp only [Act.put, List.setIfInBounds_toArray, List.set_cons_zero, List.set_cons_succ]
        refine Last.take_ (i := 7) (N := some 24) (v := .int .i64 X) #[true, true, true, true, true, true, true, true, true, true, false, true, true, true, true, false] (by simp only [List.getElem?_toArray, List.getElem?_cons_zero, List.getElem?_cons_succ]; rfl) rfl (by kernel_rfl) (by exact fun _ _ _ h => h) (Or.inl ⟨by rfl, fun W hW => by first | rfl | (try dsimp only at hW); go_simp⟩) hS rfl ?_
        simp only [Act.put, List.setIfInBounds_toArray, List.set_cons_zero, List.set_cons_succ]
        refine Last.take_ (i := 10) (N := some 27) (v := .int .i64 Y) #[true, true, true, true, true, true, true, true, true, true, true, true, true, true, true, false] (by simp only [List.getElem?_toArray, List.getElem?_cons_zero, List.getElem?_cons_succ]; rfl) rfl (by kernel_rfl) (by exact fun _ _ _ h => h) (Or.inl ⟨by rfl, fun W hW => by first | rfl | (try dsimp only at hW); go_simp⟩) hS rfl ?_
        simp only [Act.put, List.setIfInBounds_toArray, List.set_cons_zero, List.set_cons_succ]
        refine Last.take_ (i := 15) (N := some 32) (v := .bool false) #[true, true, true, true, true, true, true, true, true, true, true, true, true, true, true, true] (by simp only [List.getElem?_toArray, List.getElem?_cons_zero, List.getElem?_cons_succ]; rfl) rfl (by kernel_rfl) (by exact fun _ _ _ h => h) (Or.inl ⟨by rfl, fun W hW => by first | rfl | (try dsimp only at hW); go_simp⟩) hS rfl ?_
        simp only [Act.put, List.setIfInBounds_toArray, List.set_cons_zero, List.set_cons_succ]
        refine Last.done_ (by kernel_rfl) ?_
        clear f0 hS
        go_wp2_with (at_builtin; refine app_own (w0 := w2) (xs := []) rfl _ _ rfl rfl rfl (lit0 (Ext.refl _ _)) ((Ext.refl Non w2).alloc _) (HRR.out.ext0 E2.out) (by simpa using HBL.out) ?_; intro A5 n5 c5 w5 hn5 O5 E5)
        have HL5 := Lib.hid (HL2.out.ext E5.out)
        have R5 := Lib.hid (((Own.tight O5.out).rd).mono (ok' := ok) (fun k hk => HL2.out.fresh k hk.1))
        have EX := Lib.hid (E2.out.trans0 E5.out)
        rw [List.nil_append] at R5
        refine (ract_calls (a := ⟨0, b⟩) HL5.out HOF.out R5.out ⟨by simp, by simp⟩ HFIT.out HWL.out).mono ?_
        rintro e w6 ⟨rfl, hd, he⟩
        have HD6 := Lib.hid hd
        have E6 := Lib.hid (EX.out.of0.trans he (fun _ _ e => e))
        clear hd he
        go_wp2_with fail
        go_ret
        exact ⟨rfl, HD6.out, E6.out⟩
      · go_enter Try.func33, Try.ntmps33
        go_wp2_with fail
        have ED : Hid (Ext Non w w.drew) := (Ext.refl Non w).drew
        have HLD := Lib.hid (HL.out.ext ED.out)
        have f0 : w.drew.cell? ⟨g, 0, none⟩ = some (.int .i64 R) := f0
        refine Last.start_ (S := fun W => W.cell? ⟨g, 0, none⟩ = some (.int .i64 R)) (ds := []) #[false, false, false, false, false, false, false, false, false, false, false, false, false, false, false, false] (by kernel_rfl) (by rfl) (by rfl) f0 (fun hS => ?_)
        refine Last.take_ (i := 0) (N := some 17) (v := .pointer (some ⟨g, 0, none⟩)) #[true, false, false, false, false, false, false, false, false, false, false, false, false, false, false, false] (by simp only [List.getElem?_toArray, List.getElem?_cons_zero]; rfl) rfl (by kernel_rfl) (by exact fun _ _ _ h => h) (Or.inl ⟨by rfl, fun W hW => by first | rfl | (try dsimp only at hW); go_simp⟩) hS rfl ?_
        simp only [Act.put, List.setIfInBounds_toArray, List.set_cons_zero, List.set_cons_succ]
        refine Last.take_ (i := 2) (N := some 19) (v := .pointer (some ⟨g, 0, none⟩)) #[true, false, true, false, false, false, false, false, false, false, false, false, false, false, false, false] (by simp only [List.getElem?_toArray, List.getElem?_cons_zero, List.getElem?_cons_succ]; rfl) rfl (by kernel_rfl) (by exact fun _ _ _ h => h) (Or.inl ⟨by rfl, fun W hW => by first | rfl | (try dsimp only at hW); go_simp⟩) hS rfl ?_
        simp only [Act.put, List.setIfInBounds_toArray, List.set_cons_zero, List.set_cons_succ]
        refine Last.take_ (i := 4) (N := some 21) (v := .int .i64 1) #[true, false, true, false, true, false, false, false, false, false, false, false, false, false, false, false] (by simp only [List.getElem?_toArray, List.getElem?_cons_zero, List.getElem?_cons_succ]; rfl) rfl (by kernel_rfl) (by exact fun _ _ _ h => h) (Or.inl ⟨by rfl, fun W hW => by first | rfl | (try dsimp only at hW); go_simp⟩) hS rfl ?_
        simp only [Act.put, List.setIfInBounds_toArray, List.set_cons_zero, List.set_cons_succ]
        refine Last.take_ (i := 8) (N := some 25) (v := .slice A n c) #[true, false, true, false, true, false, false, false, true, false, false, false, false, false, false, false] (by simp only [List.getElem?_toArray, List.getElem?_cons_zero, List.getElem?_cons_succ]; rfl) rfl (by kernel_rfl) (by exact fun _ _ _ h => h) (Or.inl ⟨by rfl, fun W hW => by first | rfl | (try dsimp only at hW); go_simp⟩) hS rfl ?_
        simp only [Act.put, List.setIfInBounds_toArray, List.set_cons_zero, List.set_cons_succ]
        refine Last.take_ (i := 9) (N := some 26) (v := .int .i64 (n : Int)) #[true, false, true, false, true, false, false, false, true, true, false, false, false, false, false, false] (by simp only [List.getElem?_toArray, List.getElem?_cons_zero, List.getElem?_cons_succ]; rfl) rfl (by kernel_rfl) (by exact fun _ _ _ h => h) (Or.inl ⟨by rfl, fun W hW => by first | rfl | (try dsimp only at hW); go_simp⟩) hS rfl ?_
        simp only [Act.put, List.setIfInBounds_toArray, List.set_cons_zero, List.set_cons_succ]
        refine Last.take_ (i := 11) (N := some 28) (v := .pointer (some ⟨g, 0, none⟩)) #[true, false, true, false, true, false, false, false, true, true, false, true, false, false, false, false] (by simp only [List.getElem?_toArray, List.getElem?_cons_zero, List.getElem?_cons_succ]; rfl) rfl (by kernel_rfl) (by exact fun _ _ _ h => h) (Or.inl ⟨by rfl, fun W hW => by first | rfl | (try dsimp only at hW); go_simp⟩) hS rfl ?_
        simp only [Act.put, List.setIfInBounds_toArray, List.set_cons_zero, List.set_cons_succ]
        refine Last.take_ (i := 12) (N := some 29) (v := .pointer (some ⟨g, 0, none⟩)) #[true, false, true, false, true, false, false, false, true, true, false, true, true, false, false, false] (by simp only [List.getElem?_toArray, List.getElem?_cons_zero, List.getElem?_cons_succ]; rfl) rfl (by kernel_rfl) (by exact fun _ _ _ h => h) (Or.inl ⟨by rfl, fun W hW => by first | rfl | (try dsimp only at hW); go_simp⟩) hS rfl ?_
        simp only [Act.put, List.setIfInBounds_toArray, List.set_cons_zero, List.set_cons_succ]
        refine Last.take_ (i := 13) (N := some 30) (v := .pointer (some ⟨g, 0, none⟩)) #[true, false, true, false, true, false, false, false, true, true, false, true, true, true, false, false] (by simp only [List.getElem?_toArray, List.getElem?_cons_zero, List.getElem?_cons_succ]; rfl) rfl (by kernel_rfl) (by exact fun _ _ _ h => h) (Or.inl ⟨by rfl, fun W hW => by first | rfl | (try dsimp only at hW); go_simp⟩) hS rfl ?_
        simp only [Act.put, List.setIfInBounds_toArray, List.set_cons_zero, List.set_cons_succ]
        refine Last.take_ (i := 14) (N := some 31) (v := .int .i64 R) #[true, false, true, false, true, false, false, false, true, true, false, true, true, true, true, false] (by simp only [List.getElem?_toArray, List.getElem?_cons_zero, List.getElem?_cons_succ]; rfl) rfl (by kernel_rfl) (by exact fun _ _ _ h => h) (Or.inl ⟨by rfl, fun W hW => by first | rfl | (try dsimp only at hW); go_simp⟩) hS rfl ?_
        simp only [Act.put, List.setIfInBounds_toArray, List.set_cons_zero, List.set_cons_succ]
        refine Last.one_ (i := 1) (N := some 18) #[true, true, true, false, true, false, false, false, true, true, false, true, true, true, true, false] (by simp only [List.getElem?_toArray, List.getElem?_cons_zero, List.getElem?_cons_succ]; rfl) rfl (by kernel_rfl) (by decide) (fun K hK => ?_)
        refine Last.goes_ Try.func42 (by kernel_rfl) rfl #[.pointer (some ⟨g, 0, none⟩)] (by rfl) rfl rfl (by simp [Act.eval]) ?_
        refine (rused_calls HLD.out).mono ?_
        rintro e w1 ⟨rfl, he⟩
        rw [HU.out]
        have f0 := he.cell f0 (fun e => e)
        have HL1 := Lib.hid (HLD.out.ext he)
        have E1 := Lib.hid (ED.out.trans0 he)
        clear he
        refine ⟨_, rfl, ?_⟩
        refine hK.out _ _ f0 (fun hS => ?_)
        try simp only [Act.put, List.setIfInBounds_toArray, List.set_cons_zero, List.set_cons_succ]
        refine Last.one_ (i := 3) (N := some 20) #[true, true, true, true, true, false, false, false, true, true, false, true, true, true, true, false] (by simp only [List.getElem?_toArray, List.getElem?_cons_zero, List.getElem?_cons_succ]; rfl) rfl (by kernel_rfl) (by decide) (fun K hK => ?_)
        refine Last.goes_ Try.func53 (by kernel_rfl) rfl #[.pointer (some ⟨g, 0, none⟩)] (by rfl) rfl rfl (by simp [Act.eval]) ?_
        refine (rnow_calls HL1.out).mono ?_
        rintro e w2 ⟨A0, n0, c0, A1, n1, c1, A2, n2, c2, rfl, hp, he⟩
        have f0 := he.out.cell f0 (fun e => e)
        have HL2 := Lib.hid (HL1.out.ext he.out)
        have E2 := Lib.hid (E1.out.trans0 he.out)
        have hnn : ns = n1 := HNS.out.trans (rd_len hp.out.2.1).1.symm
        subst hnn
        have i1 := fun W => idx1 W A0 A1 A2 n0 ns n2 c0 c1 c2
        clear he hp
        refine ⟨_, rfl, ?_⟩
        refine hK.out _ _ f0 (fun hS => ?_)
        try simp only [Act.put, List.setIfInBounds_toArray, List.set_cons_zero, List.set_cons_succ]
        refine Last.take_ (i := 5) (N := some 22) (v := .slice A1 ns c1) #[true, true, true, true, true, true, false, false, true, true, false, true, true, true, true, false] (by simp only [List.getElem?_toArray, List.getElem?_cons_zero, List.getElem?_cons_succ]; rfl) rfl (by kernel_rfl) (by exact fun _ _ _ h => h) (Or.inl ⟨by rfl, fun W hW => by first | rfl | (try dsimp only at hW); go_simp⟩) hS rfl ?_
        simp only [Act.put, List.setIfInBounds_toArray, List.set_cons_zero, List.set_cons_succ]
        refine Last.take_ (i := 6) (N := some 23) (v := .int .i64 (ns : Int)) #[true, true, true, true, true, true, true, false, true, true, false, true, true, true, true, false] (by simp only [List.getElem?_toArray, List.getElem?_cons_zero, List.getElem?_cons_succ]; rfl) rfl (by kernel_rfl) (by exact fun _ _ _ h => h) (Or.inl ⟨by rfl, fun W hW => by first | rfl | (try dsimp only at hW); go_simp⟩) hS rfl ?_
        simp only [Act.put, List.setIfInBounds_toArray, List.set_cons_zero, List.set_cons_succ]
        refine Last.take_ (i := 7) (N := some 24) (v := .int .i64 X) #[true, true, true, true, true, true, true, true, true, true, false, true, true, true, true, false] (by simp only [List.getElem?_toArray, List.getElem?_cons_zero, List.getElem?_cons_succ]; rfl) rfl (by kernel_rfl) (by exact fun _ _ _ h => h) (Or.inl ⟨by rfl, fun W hW => by first | rfl | (try dsimp only at hW); go_simp⟩) hS rfl ?_
        simp only [Act.put, List.setIfInBounds_toArray, List.set_cons_zero, List.set_cons_succ]
        refine Last.take_ (i := 10) (N := some 27) (v := .int .i64 Y) #[true, true, true, true, true, true, true, true, true, true, true, true, true, true, true, false] (by simp only [List.getElem?_toArray, List.getElem?_cons_zero, List.getElem?_cons_succ]; rfl) rfl (by kernel_rfl) (by exact fun _ _ _ h => h) (Or.inl ⟨by rfl, fun W hW => by first | rfl | (try dsimp only at hW); go_simp⟩) hS rfl ?_
        simp only [Act.put, List.setIfInBounds_toArray, List.set_cons_zero, List.set_cons_succ]
        refine Last.take_ (i := 15) (N := some 32) (v := .bool false) #[true, true, true, true, true, true, true, true, true, true, true, true, true, true, true, true] (by simp only [List.getElem?_toArray, List.getElem?_cons_zero, List.getElem?_cons_succ]; rfl) rfl (by kernel_rfl) (by exact fun _ _ _ h => h) (Or.inl ⟨by rfl, fun W hW => by first | rfl | (try dsimp only at hW); go_simp⟩) hS rfl ?_
        simp only [Act.put, List.setIfInBounds_toArray, List.set_cons_zero, List.set_cons_succ]
        refine Last.done_ (by kernel_rfl) ?_
        clear f0 hS
        go_wp2_with (at_builtin; refine app_own (w0 := w2) (xs := []) rfl _ _ rfl rfl rfl (lit0 (Ext.refl _ _)) ((Ext.refl Non w2).alloc _) (HRR.out.ext0 E2.out) (by simpa using HBL.out) ?_; intro A5 n5 c5 w5 hn5 O5 E5)
        have HL5 := Lib.hid (HL2.out.ext E5.out)
        have R5 := Lib.hid (((Own.tight O5.out).rd).mono (ok' := ok) (fun k hk => HL2.out.fresh k hk.1))
        have EX := Lib.hid (E2.out.trans0 E5.out)
        rw [List.nil_append] at R5
        refine (ract_calls (a := ⟨1, b⟩) HL5.out HOF.out R5.out ⟨by simp, by simp⟩ HFIT.out HWL.out).mono ?_
        rintro e w6 ⟨rfl, hd, he⟩
        have HD6 := Lib.hid hd
        have E6 := Lib.hid (EX.out.of0.trans he (fun _ _ e => e))
        clear hd he
        go_wp2_with fail
        go_ret
        exact ⟨rfl, HD6.out, E6.out⟩
end Go.Proofs.Ytpmncppfopbaaaa
