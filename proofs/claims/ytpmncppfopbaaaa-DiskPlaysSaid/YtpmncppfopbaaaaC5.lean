/- awake. -/
import Derived.Test.YtpmncppfopbaaaaC4
import Derived.Lib.SlBytesConst
namespace Go.Proofs.Ytpmncppfopbaaaa
open Go.RowKit Go.TM

def AW : List TM.Call := [⟨0, 0, 0, 0, [97, 98]⟩, ⟨5, 0, 0, 0, []⟩, ⟨0, 0, 0, 0, [99, 100]⟩, ⟨6, 0, 0, 1, []⟩, ⟨7, 0, 0, 0, []⟩]
def AD : Dk := (Dk.new 100).run AW
theorem fineAW : Fine AW := ⟨by decide, fun k hk => by simp [AW] at hk; rcases hk with rfl | rfl | rfl | rfl | rfl <;> simp, fun k hk => by simp [AW] at hk; rcases hk with rfl | rfl | rfl | rfl | rfl <;> exact ⟨by simp [inI], by simp [inI], by simp [inI], by simp [inI]⟩⟩
theorem AD_tape : AD.tapeR = ([97, 98, 99], 0) := by decide +kernel
theorem AD_slot : (AD.slot 2 []).1 = 31 := by decide +kernel
theorem AD_slot2 : (AD.slot 2 []).2 = AD := rfl
theorem AD_used : (AD.now.used : Int) = 3 := by decide +kernel
theorem flat_map_u8 : ∀ (ys : List UInt8), ys.flatMap (fun n : UInt8 => [Value.int .u8 n.toNat]) = ys.map (fun y => Value.int .u8 y.toNat)
  | [] => rfl
  | y :: t => by rw [List.flatMap_cons, flat_map_u8 t, List.map_cons]; rfl
theorem lit8 {w : World} {ok : Nat → Prop} {g : Nat} (ys : List UInt8) {cs : Array Value} {fr : Nat × Nat} (hcs : cs = (ys.map (fun y => Value.int .u8 y.toNat)).toArray) (hb : w.heap[g]? = some (.cells cs 5 fr)) (hok : ok g) (hl : ys.length ≤ 9223372036854775807) : Rd Kd.u8 w ok (.slice (some ⟨g, 0, none⟩) ys.length ys.length) ys := by
  subst hcs
  have hr : Reps Kd.u8 w ok ys (ys.map (fun y => Value.int .u8 y.toNat)) := by
    have := Reps.flat (sz := 1) (enc := fun n : UInt8 => [Value.int .u8 n.toNat]) (hl := fun _ => rfl) (h1 := by simp [Value.oneCell']) (w := w) (ok := ok) ys
    rw [flat_map_u8] at this
    exact this
  exact Rd.of_inner hr hok (blk_lt hb) (Nat.le_refl _) hl (fun j u hu => by rw [Nat.zero_add, cell_of_row w g j _ 5 fr hb]; simpa using hu)
/-- The example's calls in memory. -/
theorem lit_AW {w : World} {g0 g1 g : Nat} (h0 : w.heap[g0]? = some (.cells #[.int .u8 97, .int .u8 98] 5 (2, 3))) (h1 : w.heap[g1]? = some (.cells #[.int .u8 99, .int .u8 100] 5 (2, 3)))
    (h : w.heap[g]? = some (.cells #[.int .i64 0, .int .i64 0, .int .i64 0, .int .i64 0, .slice (some ⟨g0, 0, none⟩) 2 2, .int .i64 5, .int .i64 0, .int .i64 0, .int .i64 0, .slice none 0 0, .int .i64 0, .int .i64 0, .int .i64 0, .int .i64 0, .slice (some ⟨g1, 0, none⟩) 2 2,
      .int .i64 6, .int .i64 0, .int .i64 0, .int .i64 1, .slice none 0 0, .int .i64 7, .int .i64 0, .int .i64 0, .int .i64 0, .slice none 0 0] 43 (0, 0))) : Rd callK w (fun _ => True) (.slice (some ⟨g, 0, none⟩) 5 5) AW := by
  have r0 : Rd Kd.u8 w (fun _ => True) (.slice (some ⟨g0, 0, none⟩) 2 2) [97, 98] := lit8 [97, 98] rfl h0 trivial (by simp)
  have r1 : Rd Kd.u8 w (fun _ => True) (.slice (some ⟨g1, 0, none⟩) 2 2) [99, 100] := lit8 [99, 100] rfl h1 trivial (by simp)
  have s0 := Reps.single (d := callK) (w := w) (ok := fun _ => True) (x := ⟨0, 0, 0, 0, [97, 98]⟩) (cs := [.int .i64 0, .int .i64 0, .int .i64 0, .int .i64 0, .slice (some ⟨g0, 0, none⟩) 2 2]) ⟨_, rfl, r0⟩
  have s1 := Reps.single (d := callK) (w := w) (ok := fun _ => True) (x := ⟨5, 0, 0, 0, []⟩) (cs := [.int .i64 5, .int .i64 0, .int .i64 0, .int .i64 0, .slice none 0 0]) ⟨_, rfl, Rd.nil _ _ _⟩
  have s2 := Reps.single (d := callK) (w := w) (ok := fun _ => True) (x := ⟨0, 0, 0, 0, [99, 100]⟩) (cs := [.int .i64 0, .int .i64 0, .int .i64 0, .int .i64 0, .slice (some ⟨g1, 0, none⟩) 2 2]) ⟨_, rfl, r1⟩
  have s3 := Reps.single (d := callK) (w := w) (ok := fun _ => True) (x := ⟨6, 0, 0, 1, []⟩) (cs := [.int .i64 6, .int .i64 0, .int .i64 0, .int .i64 1, .slice none 0 0]) ⟨_, rfl, Rd.nil _ _ _⟩
  have s4 := Reps.single (d := callK) (w := w) (ok := fun _ => True) (x := ⟨7, 0, 0, 0, []⟩) (cs := [.int .i64 7, .int .i64 0, .int .i64 0, .int .i64 0, .slice none 0 0]) ⟨_, rfl, Rd.nil _ _ _⟩
  have s := (((s0.append s1).append s2).append s3).append s4
  exact Rd.of_inner (xs := AW) s trivial (blk_lt h) (Nat.le_refl _) (by decide) (fun j u hu => by rw [Nat.zero_add, cell_of_row w g j _ 43 (0, 0) h]; simpa using hu)
set_option maxHeartbeats 1000000 in
theorem awake_calls (w : World) : Calls Try.prog 13 #[] w fun e w' => e = .returned (.bool true) ∧ Ext Non w w' := by
  have kc := Lib.run_convert_bytes_const (P := Try.prog) w 30 5 #[.int .u8 97, .int .u8 98] 2 2 Try.underlying30 Try.underlying5
  have kd := Lib.run_convert_bytes_const (P := Try.prog) (w.alloc (.cells #[.int .u8 97, .int .u8 98] 5 (2, 3))) 30 5 #[.int .u8 99, .int .u8 100] 2 2 Try.underlying30 Try.underlying5
  simp at kc kd
  obtain ⟨W, hW, b0, b1, b2, e0, z0⟩ := boxes3 w (.cells #[.int .u8 97, .int .u8 98] 5 (2, 3)) (.cells #[.int .u8 99, .int .u8 100] 5 (2, 3)) (.cells #[.int .i64 0, .int .i64 0, .int .i64 0, .int .i64 0, .slice (some ⟨w.heap.size, 0, none⟩) 2 2, .int .i64 5, .int .i64 0, .int .i64 0, .int .i64 0, .slice none 0 0, .int .i64 0, .int .i64 0, .int .i64 0, .int .i64 0, .slice (some ⟨w.heap.size + 1, 0, none⟩) 2 2,
      .int .i64 6, .int .i64 0, .int .i64 0, .int .i64 1, .slice none 0 0, .int .i64 7, .int .i64 0, .int .i64 0, .int .i64 0, .slice none 0 0] 43)
  have HR := Lib.hid (lit_AW b0 b1 b2)
  have E0 := Lib.hid e0
  have HW := Lib.hid hW
  clear hW b0 b1 b2 e0 z0
  go_enter Try.func13, Try.ntmps13
  go_wp2_with fail
  rw [HW.out]
  clear kc kd
  refine (made_calls HR.out fineAW 100 (by omega) (by omega)).mono ?_
  rintro e w1 ⟨g, rfl, hg0, hg1, hl, he⟩
  have HL : Hid (Live w1 (Mine W.heap.size g) g AD) := hl
  have E1 := Lib.hid (E0.out.trans0 he)
  have z0 := E0.out.size
  clear hl he
  go_wp2_with fail
  refine (Tape_calls HL.out.at_ (fun _ => HL.out.good)).mono ?_
  rw [AD_tape]
  rintro e w2 ⟨A, n, c, rfl, ho, he⟩
  have HL2 := Lib.hid (HL.out.ext he.out)
  have E2 := Lib.hid (E1.out.trans0 he.out)
  have kt := conv_rd ho.out.rd
  clear ho he
  go_wp2_with fail
  clear kt
  refine (Slot_calls HL2.out 2 (okb := fun _ => True) (b := []) (Rd.nil _ _ _) (by simp)).mono ?_
  rintro e w3 ⟨rfl, hd, he⟩
  rw [AD_slot]
  rw [AD_slot2] at hd
  have HL3 := Lib.hid (HL2.out.next hd he HL2.out.good HL2.out.wl)
  have E3 := Lib.hid (E2.out.only_new he (by omega))
  clear hd he
  go_wp2_with fail
  refine (Used_calls HL3.out.at_ HL3.out.good).mono ?_
  rintro e w4 ⟨rfl, he⟩
  rw [AD_used]
  have E4 := Lib.hid (E3.out.trans0 he)
  clear he
  go_wp2_with fail
  go_ret
  exact ⟨rfl, E4.out⟩
end Go.Proofs.Ytpmncppfopbaaaa
