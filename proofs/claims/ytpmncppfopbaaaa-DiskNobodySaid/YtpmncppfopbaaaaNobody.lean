/- DiskNobody. -/
import Derived.Test.YtpmncppfopbaaaaC8
namespace Go.Proofs.Ytpmncppfopbaaaa
open Go.RowKit Go.TM

/-- A disk that no call made: all say 6, and nothing changes. -/
def Dead (v : Value) (w : World) : Prop := Calls Try.prog 46 #[v] w fun e w' => e = .returned (.int .i64 6) ∧ w = w'
def Six (w : World) (e : Ending) (w' : World) : Prop := e = .returned (.int .i64 6) ∧ w = w'
def Six2 (w : World) (e : Ending) (w' : World) : Prop := e = .returned (.tuple #[.slice none 0 0, .int .i64 6]) ∧ w = w'
def Z : Dk := Dk.new 0
theorem able_nil (w : World) : Dead (.pointer none) w := by
  unfold Dead
  go_enter Try.func46, Try.ntmps46
  go_wp2_with fail
  go_ret
  exact ⟨rfl, rfl⟩
theorem able_zero_ {w : World} {ok : Nat → Prop} {g : Nat} (H : DiskAt w ok g Z) : Dead (.pointer (some ⟨g, 0, none⟩)) w := able_calls H
section
variable {p : Option Addr} {w : World} (D : Dead (.pointer p) w)
include D
theorem dead_arm (n k t : Int) : Calls Try.prog 16 #[.pointer p, .int .i64 n, .int .i64 k, .int .i64 t] w (Six w) := by
  have HD := Lib.hid D
  clear D
  go_enter Try.func16, Try.ntmps16
  go_wp2_with fail
  refine HD.out.mono ?_
  rintro e w1 ⟨rfl, rfl⟩
  go_wp2_with fail
  go_ret
  exact ⟨rfl, rfl⟩
theorem dead_sync : Calls Try.prog 17 #[.pointer p] w (Six w) := by
  have HD := Lib.hid D
  clear D
  go_enter Try.func17, Try.ntmps17
  go_wp2_with fail
  refine HD.out.mono ?_
  rintro e w1 ⟨rfl, rfl⟩
  go_wp2_with fail
  go_ret
  exact ⟨rfl, rfl⟩
theorem dead_crash (k t : Int) : Calls Try.prog 19 #[.pointer p, .int .i64 k, .int .i64 t] w (Six w) := by
  have HD := Lib.hid D
  clear D
  go_enter Try.func19, Try.ntmps19
  go_wp2_with fail
  refine HD.out.mono ?_
  rintro e w1 ⟨rfl, rfl⟩
  go_wp2_with fail
  go_ret
  exact ⟨rfl, rfl⟩
theorem dead_clear : Calls Try.prog 25 #[.pointer p] w (Six w) := by
  have HD := Lib.hid D
  clear D
  go_enter Try.func25, Try.ntmps25
  go_wp2_with fail
  refine HD.out.mono ?_
  rintro e w1 ⟨rfl, rfl⟩
  go_wp2_with fail
  go_ret
  exact ⟨rfl, rfl⟩
theorem dead_slot (i : Int) (A : Option Addr) (n c : Nat) : Calls Try.prog 26 #[.pointer p, .int .i64 i, .slice A n c] w (Six w) := by
  have HD := Lib.hid D
  clear D
  go_enter Try.func26, Try.ntmps26
  go_wp2_with fail
  refine HD.out.mono ?_
  rintro e w1 ⟨rfl, rfl⟩
  go_wp2_with fail
  go_ret
  exact ⟨rfl, rfl⟩
theorem dead_append (A : Option Addr) (n c : Nat) : Calls Try.prog 44 #[.pointer p, .slice A n c] w (Six w) := by
  have HD := Lib.hid D
  clear D
  go_enter Try.func44, Try.ntmps44
  go_wp2_with fail
  refine HD.out.mono ?_
  rintro e w1 ⟨rfl, rfl⟩
  go_wp2_with fail
  go_ret
  exact ⟨rfl, rfl⟩
theorem dead_look (i : Int) : Calls Try.prog 29 #[.pointer p, .int .i64 i] w (Six2 w) := by
  have HD := Lib.hid D
  clear D
  go_enter Try.func29, Try.ntmps29
  go_wp2_with fail
  refine HD.out.mono ?_
  rintro e w1 ⟨rfl, rfl⟩
  go_wp2_with fail
  go_ret2
  exact ⟨rfl, rfl⟩
theorem dead_tape : Calls Try.prog 20 #[.pointer p] w (Six2 w) := by
  have HD := Lib.hid D
  clear D
  go_enter Try.func20, Try.ntmps20
  go_wp2_with fail
  refine HD.out.mono ?_
  rintro e w1 ⟨rfl, rfl⟩
  go_wp2_with fail
  go_ret2
  exact ⟨rfl, rfl⟩
end
theorem start_nil (w : World) : Calls Try.prog 15 #[.pointer none] w (Six w) := by
  go_enter Try.func15, Try.ntmps15
  go_wp2_with fail
  go_ret
  exact ⟨rfl, rfl⟩
theorem start_zero {w : World} {ok : Nat → Prop} {g : Nat} (H : DiskAt w ok g Z) : Calls Try.prog 15 #[.pointer (some ⟨g, 0, none⟩)] w (Six w) := by
  obtain ⟨e7, -⟩ := H.cells
  have e7 : w.cell? ⟨g, 7, none⟩ = some (.int .i64 0) := e7
  clear H
  go_enter Try.func15, Try.ntmps15
  go_wp2_with fail
  go_ret
  exact ⟨rfl, rfl⟩
theorem clone_nil (w : World) : Calls Try.prog 30 #[.pointer none] w fun e w' => e = .returned (.pointer none) ∧ w = w' := by
  go_enter Try.func30, Try.ntmps30
  go_wp2_with fail
  go_ret
  exact ⟨rfl, rfl⟩
theorem used_nil (w : World) : Calls Try.prog 24 #[.pointer none] w fun e w' => e = .returned (.int .i64 0) ∧ Ext Non w w' := by
  go_enter Try.func24, Try.ntmps24
  go_wp2_with fail
  go_ret
  exact ⟨rfl, Ext.refl _ _⟩
theorem used_zero {w : World} {ok : Nat → Prop} {g : Nat} (H : DiskAt w ok g Z) : Calls Try.prog 24 #[.pointer (some ⟨g, 0, none⟩)] w fun e w' => e = .returned (.int .i64 0) ∧ Ext Non w w' := by
  obtain ⟨a0, a1, a2, b0, b1, b2, wv, hb, r0, r1, r2, _⟩ := H
  obtain ⟨A0, _, c0, rfl, rfl⟩ := rd_abs r0
  obtain ⟨A1, _, c1, rfl, rfl⟩ := rd_abs r1
  obtain ⟨A2, _, c2, rfl, rfl⟩ := rd_abs r2
  have e0 : w.cell? ⟨g, 0, none⟩ = some (.slice A0 0 c0) := blk_cell hb 0
  have e1 : w.cell? ⟨g, 1, none⟩ = some (.slice A1 0 c1) := blk_cell hb 1
  have e2 : w.cell? ⟨g, 2, none⟩ = some (.slice A2 0 c2) := blk_cell hb 2
  clear hb r0 r1 r2
  go_enter Try.func24, Try.ntmps24
  go_wp2_with fail
  go_region
  go_wp2_with fail
  go_ret
  exact ⟨rfl, Ext.drew (Ext.refl _ _)⟩
def SixE (w : World) (e : Ending) (w' : World) : Prop := e = .returned (.int .i64 6) ∧ Ext Non w w'
set_option maxHeartbeats 2000000 in
theorem does_dead {p : Option Addr} {w : World} (k : TM.Call) (A : Option Addr) (n c : Nat) (D : ∀ w', Ext Non w w' → Dead (.pointer p) w') (S : ∀ w', Ext Non w w' → Calls Try.prog 15 #[.pointer p] w' (Six w')) :
    Calls Try.prog 23 #[.pointer p, .agg #[.int .i64 k.op, .int .i64 k.i, .int .i64 k.keep, .int .i64 k.tear, .slice A n c]] w (SixE w) := by
  have hq : wrap64 ((IntKind.u64.wrap k.op).tmod 9) = k.kind := kind_eq k.op
  have eA : Ext Non w (w.alloc (.cells #[.int .i64 k.op, .int .i64 k.i, .int .i64 k.keep, .int .i64 k.tear, .slice A n c] 43)) := (Ext.refl Non w).alloc _
  have H0 := Lib.hid eA
  have HD := Lib.hid (D _ eA)
  have HS := Lib.hid (S _ eA)
  clear eA D S
  have hk : k.kind = 0 ∨ k.kind = 1 ∨ k.kind = 2 ∨ k.kind = 3 ∨ k.kind = 4 ∨ k.kind = 5 ∨ k.kind = 6 ∨ k.kind = 7 ∨ k.kind = 8 := by unfold TM.Call.kind; omega
  rcases hk with h | h | h | h | h | h | h | h | h
  all_goals
    rw [h] at hq
    clear h
    go_enter Try.func23, Try.ntmps23
    go_wp2_with fail
    first
      | with_reducible refine (dead_append HD.out A n c).mono ?_
      | with_reducible refine (dead_slot HD.out k.i A n c).mono ?_
      | with_reducible refine (dead_clear HD.out).mono ?_
      | with_reducible refine (dead_sync HD.out).mono ?_
      | with_reducible refine (dead_crash HD.out k.keep k.tear).mono ?_
      | with_reducible refine HS.out.mono ?_
      | with_reducible refine (dead_arm HD.out k.i k.keep k.tear).mono ?_
    rintro e w1 ⟨rfl, rfl⟩
    go_wp2_with fail
    go_ret
    exact ⟨rfl, H0.out⟩
set_option maxHeartbeats 2000000 in
theorem nobody_calls (w : World) (k : TM.Call) (A : Option Addr) (n c : Nat) :
    Calls Try.prog 7 #[.agg #[.int .i64 k.op, .int .i64 k.i, .int .i64 k.keep, .int .i64 k.tear, .slice A n c]] w fun e w' => e = .returned (.bool true) ∧ Ext Non w w' := by
  obtain ⟨W, hW, b0, b1, b2, e0, z0⟩ := boxes3 w (.cells #[.int .i64 k.op, .int .i64 k.i, .int .i64 k.keep, .int .i64 k.tear, .slice A n c] 43)
    (.cells #[.slice none 0 0, .slice none 0 0, .slice none 0 0, .slice none 0 0, .slice none 0 0, .slice none 0 0, .slice none 0 0, .int .i64 0, .bool false, .int .i64 0, .int .i64 0, .int .i64 0] 57)
    (.cells #[.pointer none, .pointer (some ⟨w.heap.size + 1, 0, none⟩)] 25)
  have B0 := Lib.hid b0
  have B2 := Lib.hid b2
  have hd : DiskAt W (fun _ => True) (w.heap.size + 1) Z := ⟨_, _, _, _, _, _, _, b1, Rd.nil _ _ _, Rd.nil _ _ _, Rd.nil _ _ _, Rd.nil _ _ _, Rd.nil _ _ _, Rd.nil _ _ _, Rd.nil _ _ _⟩
  have HD := Lib.hid hd
  have E0 := Lib.hid e0
  have HW := Lib.hid hW
  clear hW b0 b1 b2 e0 z0 hd
  go_enter Try.func7, Try.ntmps7
  go_wp2_with fail
  rw [HW.out]
  go_loopw [14] (fun i wr => ∃ j : Nat, i = .int .i64 j ∧ j ≤ 2 ∧ Hid (Ext Non W wr)) (fun i _ => 2 - (intOf i).toNat)
  case atStart => exact ⟨0, rfl, by omega, Ext.refl _ _⟩
  case round =>
    obtain ⟨j, rfl, hj, HEr⟩ := hrel
    have c0 := blk_cell (HEr.out.obj B2.out (fun e => e)) 0
    have c1 := blk_cell (HEr.out.obj B2.out (fun e => e)) 1
    have k0 := blk_cell (HEr.out.obj B0.out (fun e => e)) 0
    have k1 := blk_cell (HEr.out.obj B0.out (fun e => e)) 1
    have k2 := blk_cell (HEr.out.obj B0.out (fun e => e)) 2
    have k3 := blk_cell (HEr.out.obj B0.out (fun e => e)) 3
    have k4 := blk_cell (HEr.out.obj B0.out (fun e => e)) 4
    simp at c0 c1 k0 k1 k2 k3 k4
    have HDr := Lib.hid (HD.out.ext HEr.out)
    have hj3 : j = 0 ∨ j = 1 ∨ j = 2 := by omega
    rcases hj3 with rfl | rfl | rfl
    · go_wp2_with fail
      refine (dead_look (able_nil _) k.i).mono ?_
      rintro e w1 ⟨rfl, rfl⟩
      go_wp2_with fail
      refine (dead_tape (able_nil _)).mono ?_
      rintro e w1 ⟨rfl, rfl⟩
      go_wp2_with fail
      refine (does_dead k A n c (fun w' _ => able_nil w') (fun w' _ => start_nil w')).mono ?_
      rintro e w1 ⟨rfl, he⟩
      have E1 := Lib.hid (HEr.out.trans0 he)
      clear he
      go_wp2_with fail
      refine (used_nil _).mono ?_
      rintro e w2 ⟨rfl, he⟩
      have E2 := Lib.hid (E1.out.trans0 he)
      clear he
      go_wp2_with fail
      go_roundw
      case rel => exact ⟨1, by go_num, by omega, E2.out⟩
      case measure => simp [intOf]
    · go_wp2_with fail
      refine (dead_look (able_zero_ HDr.out) k.i).mono ?_
      rintro e w1 ⟨rfl, rfl⟩
      go_wp2_with fail
      refine (dead_tape (able_zero_ HDr.out)).mono ?_
      rintro e w1 ⟨rfl, rfl⟩
      go_wp2_with fail
      refine (does_dead k A n c (fun w' h => able_zero_ (HDr.out.ext h)) (fun w' h => start_zero (HDr.out.ext h))).mono ?_
      rintro e w1 ⟨rfl, he⟩
      have HD1 := Lib.hid (HDr.out.ext he)
      have E1 := Lib.hid (HEr.out.trans0 he)
      clear he
      go_wp2_with fail
      refine (used_zero HD1.out).mono ?_
      rintro e w2 ⟨rfl, he⟩
      have E2 := Lib.hid (E1.out.trans0 he)
      clear he
      go_wp2_with fail
      go_roundw
      case rel => exact ⟨2, by go_num, by omega, E2.out⟩
      case measure => simp [intOf]
    · go_wp2_with fail
      refine (clone_nil _).mono ?_
      rintro e w1 ⟨rfl, rfl⟩
      go_wp2_with fail
      refine (awake_calls _).mono ?_
      rintro e w2 ⟨rfl, he⟩
      have E2 := Lib.hid ((E0.out.trans0 HEr.out).trans0 he)
      clear he
      go_wp2_with fail
      go_ret
      exact ⟨rfl, E2.out⟩
end Go.Proofs.Ytpmncppfopbaaaa
