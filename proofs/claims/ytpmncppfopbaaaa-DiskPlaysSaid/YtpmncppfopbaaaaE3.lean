/- The document's disk: Used, Look, Tape, New, Start, Arm. -/
import Derived.Test.YtpmncppfopbaaaaE2
namespace Go.Proofs.Ytpmncppfopbaaaa
open Go.RowKit Go.TM

theorem idx0 (w : World) (A0 A1 A2 : Option Addr) (n0 n1 n2 c0 c1 c2 : Nat) : (Instr.index 79 (.agg #[.slice A0 n0 c0, .slice A1 n1 c1, .slice A2 n2 c2]) (.int .i64 0)).run Try.prog w = .ok (.slice A0 n0 c0) w := by kernel_rfl
theorem idx1 (w : World) (A0 A1 A2 : Option Addr) (n0 n1 n2 c0 c1 c2 : Nat) : (Instr.index 79 (.agg #[.slice A0 n0 c0, .slice A1 n1 c1, .slice A2 n2 c2]) (.int .i64 1)).run Try.prog w = .ok (.slice A1 n1 c1) w := by kernel_rfl
theorem idx2 (w : World) (A0 A1 A2 : Option Addr) (n0 n1 n2 c0 c1 c2 : Nat) : (Instr.index 79 (.agg #[.slice A0 n0 c0, .slice A1 n1 c1, .slice A2 n2 c2]) (.int .i64 2)).run Try.prog w = .ok (.slice A2 n2 c2) w := by kernel_rfl
def RPost (ok : Nat → Prop) (g : Nat) (r : Int × Dk) (w : World) (e : Ending) (w' : World) : Prop :=
  e = .returned (.int .i64 r.1) ∧ RefAt w' ok g r.2 ∧ Ext (Only g) w w'
theorem rused_calls {w : World} {ok : Nat → Prop} {g : Nat} {d : Dk} (L : RLive w ok g d) : Calls Try.prog 42 #[.pointer (some ⟨g, 0, none⟩)] w fun e w' => e = .returned (.int .i64 (d.now.used : Int)) ∧ Ext Non w w' := by
  have HL := Lib.hid L
  have hu := L.good.used
  have hr := L.good.room
  have hU : (d.now.used : Int) = (d.now.s0.length : Int) + (d.now.s1.length : Int) + (d.now.tape.length : Int) := by unfold Plate.used; omega
  rw [hU] at hu ⊢
  have q1 : (d.now.s0.length : Int) + (d.now.s1.length : Int) ≤ 16777216 := by omega
  have q2 : (d.now.s0.length : Int) + (d.now.s1.length : Int) + (d.now.tape.length : Int) ≤ 16777216 := by omega
  clear hu hr hU L
  go_enter Try.func42, Try.ntmps42
  go_wp2_with fail
  refine (rnow_calls HL.out).mono ?_
  rintro e w1 ⟨A0, n0, c0, A1, n1, c1, A2, n2, c2, rfl, hp, he⟩
  have E1 := he
  have h0 := (rd_len hp.out.1).1
  have h1 := (rd_len hp.out.2.1).1
  have h2 := (rd_len hp.out.2.2).1
  subst h0 h1 h2
  clear hp he
  go_wp2_with fail
  go_ret
  exact ⟨rfl, E1.out.alloc _⟩
def RLook (ok : Nat → Prop) (r : List UInt8 × Int) (w : World) (e : Ending) (w' : World) : Prop :=
  ∃ A n c, e = .returned (.tuple #[.slice A n c, .int .i64 r.2]) ∧ Hid (Rd Kd.u8 w' ok (.slice A n c) r.1) ∧ Hid (Ext Non w w')
theorem live_able {d : Dk} (h : d.Good) : d.able = if d.off = true then 30 else 0 := by unfold Dk.able; rw [if_neg (good_room h)]
set_option maxHeartbeats 1000000 in
theorem rlook_calls {w : World} {ok : Nat → Prop} {g : Nat} {d : Dk} (L : RLive w ok g d) (i : Int) : Calls Try.prog 40 #[.pointer (some ⟨g, 0, none⟩), .int .i64 i] w (RLook ok (d.look i) w) := by
  have HL := Lib.hid L
  obtain ⟨-, e5, -, -, -, -, hgs⟩ := L.at_.flat
  have hab := live_able L.good
  cases ho : d.off with
  | true =>
    rw [ho] at e5 hab
    have hr : d.look i = ([], 30) := by unfold Dk.look; rw [hab]; rfl
    rw [hr]
    clear L hab ho hr
    go_enter Try.func40, Try.ntmps40
    go_wp2_with fail
    go_ret2
    exact ⟨_, _, _, rfl, Rd.nil _ _ _, Ext.refl _ _⟩
  | false =>
    rw [ho] at e5 hab
    have hab0 : d.able = 0 := hab
    by_cases hi : i < 0 ∨ 1 < i
    · have hr : d.look i = ([], 31) := by unfold Dk.look; rw [if_neg (by simp [hab0]), if_pos hi]
      have q1 : (i != 0) = true := by simp; omega
      have q2 : (i != 1) = true := by simp; omega
      rw [hr]
      clear L hab hab0 ho hr hi
      go_enter Try.func40, Try.ntmps40
      go_wp2_with fail
      go_ret2
      exact ⟨_, _, _, rfl, Rd.nil _ _ _, Ext.refl _ _⟩
    · have hr : d.look i = (d.now.slot i, 0) := by unfold Dk.look; rw [if_neg (by simp [hab0]), if_neg hi]
      rw [hr]
      clear L hab hab0 ho hr
      rcases slot01 hi with rfl | rfl
      all_goals
        clear hi
        go_enter Try.func40, Try.ntmps40
        go_wp2_with fail
        refine (rnow_calls HL.out).mono ?_
        rintro e w1 ⟨A0, n0, c0, A1, n1, c1, A2, n2, c2, rfl, hp, he⟩
        have i0 := idx0 w1 A0 A1 A2 n0 n1 n2 c0 c1 c2
        have i1 := idx1 w1 A0 A1 A2 n0 n1 n2 c0 c1 c2
        go_wp2_with fail
        go_ret2
        first
          | exact ⟨_, _, _, rfl, hp.out.1, he⟩
          | exact ⟨_, _, _, rfl, hp.out.2.1, he⟩
theorem rtape_calls {w : World} {ok : Nat → Prop} {g : Nat} {d : Dk} (L : RLive w ok g d) : Calls Try.prog 41 #[.pointer (some ⟨g, 0, none⟩)] w (RLook ok d.tapeR w) := by
  have HL := Lib.hid L
  obtain ⟨-, e5, -, -, -, -, hgs⟩ := L.at_.flat
  have hab := live_able L.good
  cases ho : d.off with
  | true =>
    rw [ho] at e5 hab
    have hr : d.tapeR = ([], 30) := by unfold Dk.tapeR; rw [hab]; rfl
    rw [hr]
    clear L hab ho hr
    go_enter Try.func41, Try.ntmps41
    go_wp2_with fail
    go_ret2
    exact ⟨_, _, _, rfl, Rd.nil _ _ _, Ext.refl _ _⟩
  | false =>
    rw [ho] at e5 hab
    have hab0 : d.able = 0 := hab
    have hr : d.tapeR = (d.now.tape, 0) := by unfold Dk.tapeR; rw [if_neg (by simp [hab0])]
    rw [hr]
    clear L hab hab0 ho hr
    go_enter Try.func41, Try.ntmps41
    go_wp2_with fail
    refine (rnow_calls HL.out).mono ?_
    rintro e w1 ⟨A0, n0, c0, A1, n1, c1, A2, n2, c2, rfl, hp, he⟩
    have i2 := idx2 w1 A0 A1 A2 n0 n1 n2 c0 c1 c2
    go_wp2_with fail
    go_ret2
    exact ⟨_, _, _, rfl, hp.out.2.2, he⟩
theorem rnew_calls (w : World) (room : Int) (h1 : 1 ≤ room) (h2 : room ≤ 16777216) :
    Calls Try.prog 31 #[.int .i64 room] w fun e w' => e = .returned (.tuple #[.pointer (some ⟨w.heap.size, 0, none⟩), .int .i64 0]) ∧ RLive w' (Mine w.heap.size w.heap.size) w.heap.size (Dk.new room) ∧ Ext Non w w' ∧ w.heap.size < w'.heap.size := by
  go_enter Try.func31, Try.ntmps31
  go_wp2_with fail
  go_ret2
  refine ⟨rfl, ⟨?_, Dk.Good.new h1 h2, fun k hk => ?_, fun h => h.2 rfl, by simp [Dk.new]⟩, (Ext.refl Non w).alloc _, by simp⟩
  · exact ⟨none, 0, 0, none, 0, 0, none, 0, 0, none, 0, 0, heap_alloc_new w _, ⟨Rd.nil _ _ _, Rd.nil _ _ _, Rd.nil _ _ _⟩, Rd.nil _ _ _⟩
  · simp at hk
    exact ⟨by omega, by omega⟩
theorem RefAt.set_off {w : World} {ok : Nat → Prop} {g : Nat} {d : Dk} (h : RefAt w ok g d) (hg : ¬ ok g) : RefAt (w.setCell ⟨g, 5, none⟩ (.bool false)) ok g d.on := by
  obtain ⟨B0, m0, d0, B1, m1, d1, B2, m2, d2, Aw, nw, cw, hb, hp, hr⟩ := h
  refine RefAt.mk' (w := w) (B0 := B0) (m0 := m0) (d0 := d0) (B1 := B1) (m1 := m1) (d1 := d1) (B2 := B2) (m2 := m2) (d2 := d2) (Aw := Aw) (nw := nw) (cw := cw) ((Ext.refl _ w).og 5 _) hg ?_ hp hr
  have h := blk_set hb 5 (.bool false)
  simpa [Dk.on] using h
theorem rstart_calls {w : World} {ok : Nat → Prop} {g : Nat} {d : Dk} (H : RefAt w ok g d) (hg : ¬ ok g) (hG : d.Good) :
    Calls Try.prog 37 #[.pointer (some ⟨g, 0, none⟩)] w fun e w' => e = .returned (.tuple #[]) ∧ RefAt w' ok g d.start.2 ∧ Ext (Only g) w w' := by
  have hr : d.start = (0, d.on) := by unfold Dk.start; rw [if_neg (good_room hG)]
  rw [hr]
  obtain ⟨-, e5, -, -, -, hy, hgs⟩ := H.flat
  have y5 := hy 5
  have HD := Lib.hid (H.set_off hg)
  clear H hg hG hy hr
  go_enter Try.func37, Try.ntmps37
  go_wp2_with fail
  refine bodyPost_end (results_none rfl _ _ _) rfl ?_
  exact ⟨rfl, HD.out, (Ext.refl (Only g) w).og 5 _⟩
theorem RefAt.set_arm {w : World} {ok : Nat → Prop} {g : Nat} {d : Dk} (h : RefAt w ok g d) (hg : ¬ ok g) (n keep tear : Int) : RefAt (((w.setCell ⟨g, 6, none⟩ (.int .i64 n)).setCell ⟨g, 7, none⟩ (.int .i64 keep)).setCell ⟨g, 8, none⟩ (.int .i64 tear)) ok g (d.armed n keep tear) := by
  obtain ⟨B0, m0, d0, B1, m1, d1, B2, m2, d2, Aw, nw, cw, hb, hp, hr⟩ := h
  refine RefAt.mk' (w := w) (B0 := B0) (m0 := m0) (d0 := d0) (B1 := B1) (m1 := m1) (d1 := d1) (B2 := B2) (m2 := m2) (d2 := d2) (Aw := Aw) (nw := nw) (cw := cw) ((((Ext.refl _ w).og 6 _).og 7 _).og 8 _) hg ?_ hp hr
  have h := blk_set (blk_set (blk_set hb 6 (.int .i64 n)) 7 (.int .i64 keep)) 8 (.int .i64 tear)
  simpa [Dk.armed] using h
theorem rarm_calls {w : World} {ok : Nat → Prop} {g : Nat} {d : Dk} (H : RefAt w ok g d) (hg : ¬ ok g) (hG : d.Good) (n keep tear : Int) :
    Calls Try.prog 38 #[.pointer (some ⟨g, 0, none⟩), .int .i64 n, .int .i64 keep, .int .i64 tear] w (RPost ok g (d.arm n keep tear) w) := by
  have HH := Lib.hid H
  obtain ⟨-, e5, e6, e7, e8, hy, hgs⟩ := H.flat
  have y6 := hy 6
  have y7 := hy 7
  have y8 := hy 8
  have HD := Lib.hid (H.set_arm hg n keep tear)
  have hab := live_able hG
  cases ho : d.off with
  | true =>
    rw [ho] at e5 hab
    have hr : d.arm n keep tear = (30, d) := by unfold Dk.arm; rw [hab]; rfl
    rw [hr]
    clear H hab ho hr hy hg hG
    go_enter Try.func38, Try.ntmps38
    go_wp2_with fail
    go_ret
    exact ⟨rfl, HH.out, Ext.refl _ _⟩
  | false =>
    rw [ho] at e5 hab
    have hab0 : d.able = 0 := hab
    by_cases hn : n < 0
    · have hr : d.arm n keep tear = (1, d) := by unfold Dk.arm; rw [if_neg (by simp [hab0]), if_pos hn]
      rw [hr]
      clear H hab hab0 ho hr hy hg hG
      go_enter Try.func38, Try.ntmps38
      go_wp2_with fail
      go_ret
      exact ⟨rfl, HH.out, Ext.refl _ _⟩
    · have hr : d.arm n keep tear = (0, d.armed n keep tear) := by unfold Dk.arm; rw [if_neg (by simp [hab0]), if_neg hn]
      rw [hr]
      have hn2 : 0 ≤ n := by omega
      clear H hab hab0 ho hr hy hg hG
      go_enter Try.func38, Try.ntmps38
      go_wp2_with fail
      go_ret
      exact ⟨rfl, HD.out, (((Ext.refl (Only g) w).og 6 _).og 7 _).og 8 _⟩
end Go.Proofs.Ytpmncppfopbaaaa
