/- The disk's ground: able, Used, fits, own. -/
import Derived.Test.YtpmncppfopbaaaaProg
import Derived.Test.YtpmncppfopbaaaaA
namespace Go.Proofs.Ytpmncppfopbaaaa
open Go.RowKit Go.TM

theorem info5 : (Try.prog.info? 5).map (fun i => (i.zero, i.size, i.bytes)) = some (some (.int .u8 0), Kd.u8.sz, 1) := by kernel_rfl
def DiskAt (w : World) (ok : Nat → Prop) (g : Nat) (d : Dk) : Prop :=
  ∃ a0 a1 a2 b0 b1 b2 wv, w.heap[g]? = some (.cells #[a0, a1, a2, b0, b1, b2, wv, .int .i64 d.room, .bool d.off, .int .i64 d.left, .int .i64 d.keep, .int .i64 d.tear] 57 (0, 0)) ∧
    Rd Kd.u8 w ok a0 d.now.s0 ∧ Rd Kd.u8 w ok a1 d.now.s1 ∧ Rd Kd.u8 w ok a2 d.now.tape ∧ Rd Kd.u8 w ok b0 d.kept.s0 ∧ Rd Kd.u8 w ok b1 d.kept.s1 ∧ Rd Kd.u8 w ok b2 d.kept.tape ∧ Rd actK w ok wv d.wait

theorem able_calls {w : World} {ok : Nat → Prop} {g : Nat} {d : Dk} (H : DiskAt w ok g d) :
    Calls Try.prog 46 #[.pointer (some ⟨g, 0, none⟩)] w fun e w' => e = .returned (.int .i64 d.able) ∧ w = w' := by
  obtain ⟨a0, a1, a2, b0, b1, b2, wv, hb, _⟩ := H
  have e7 := blk_cell hb 7
  have e8 := blk_cell hb 8
  simp at e7 e8
  clear hb
  by_cases h0 : d.room = 0
  · have hA : d.able = 6 := by unfold Dk.able; rw [if_pos h0]
    rw [hA]
    rw [h0] at e7
    go_enter Try.func46, Try.ntmps46
    go_wp2_with fail
    go_ret
    exact ⟨rfl, rfl⟩
  · have q : (d.room == 0) = false := by simpa using h0
    by_cases h1 : d.off = true
    · have hA : d.able = 30 := by unfold Dk.able; rw [if_neg h0, if_pos h1]
      rw [hA]
      rw [h1] at e8
      go_enter Try.func46, Try.ntmps46
      go_wp2_with fail
      go_ret
      exact ⟨rfl, rfl⟩
    · have hA : d.able = 0 := by unfold Dk.able; rw [if_neg h0, if_neg h1]
      rw [hA]
      rw [Bool.not_eq_true] at h1
      rw [h1] at e8
      go_enter Try.func46, Try.ntmps46
      go_wp2_with fail
      go_ret
      exact ⟨rfl, rfl⟩

theorem Used_calls {w : World} {ok : Nat → Prop} {g : Nat} {d : Dk} (H : DiskAt w ok g d) (hG : d.Good) :
    Calls Try.prog 24 #[.pointer (some ⟨g, 0, none⟩)] w fun e w' => e = .returned (.int .i64 (d.now.used : Int)) ∧ Ext Non w w' := by
  have hu := hG.used
  have hr := hG.room
  obtain ⟨a0, a1, a2, b0, b1, b2, wv, hb, r0, r1, r2, _⟩ := H
  obtain ⟨A0, _, c0, rfl, rfl⟩ := rd_abs r0
  obtain ⟨A1, _, c1, rfl, rfl⟩ := rd_abs r1
  obtain ⟨A2, _, c2, rfl, rfl⟩ := rd_abs r2
  have e0 := blk_cell hb 0
  have e1 := blk_cell hb 1
  have e2 := blk_cell hb 2
  simp at e0 e1 e2
  clear hb r0 r1 r2 hG
  have hU : (d.now.used : Int) = (d.now.s0.length : Int) + (d.now.s1.length : Int) + (d.now.tape.length : Int) := by unfold Plate.used; omega
  rw [hU] at hu ⊢
  clear hU
  have q1 : (d.now.s0.length : Int) + (d.now.s1.length : Int) ≤ 16777216 := by omega
  have q2 : (d.now.s0.length : Int) + (d.now.s1.length : Int) + (d.now.tape.length : Int) ≤ 16777216 := by omega
  clear hu hr
  go_enter Try.func24, Try.ntmps24
  go_wp2_with fail
  go_region
  go_wp2_with fail
  go_ret
  exact ⟨rfl, Ext.drew (Ext.refl _ _)⟩
end Go.Proofs.Ytpmncppfopbaaaa
