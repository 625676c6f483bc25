/- Sessions: the example. -/
import Derived.Test.YtiebnjkjgobklaaS6
namespace Go.Proofs.Ytiebnjkjgobklaa
open Go.RowKit Go.TM

def T1 : Tab := ⟨[⟨1, 0, 0, 0⟩], 1⟩
def T2 : Tab := ⟨[⟨1, 1, 0, 5⟩], 1⟩
theorem open0 : open_ ⟨[], 0⟩ = ⟨1, 0, T1⟩ := by simp [open_, T1]
theorem ask1 : ask T1.seats 1 1 = ⟨0, 0, true, 0⟩ := by simp [ask, askS, T1]
theorem keep1 : keep T1 1 1 0 5 = (0, T2) := by
  unfold keep
  rw [ask1]
  simp [T1, T2]
theorem ask2 : ask T2.seats 1 1 = ⟨0, 5, false, 0⟩ := by simp [ask, askS, T2]
theorem ask3 : ask T2.seats 1 3 = ⟨0, 0, false, 92⟩ := by simp [ask, askS, T2]
theorem ask4 : ask T2.seats 2 1 = ⟨0, 0, false, 90⟩ := by simp [ask, T2]
theorem good1 : Good T1.seats T1.last := by
  have := (Good.open_ (t := ⟨[], 0⟩) Good.zero)
  rwa [open0] at this
theorem good2 : Good T2.seats T2.last := by
  have := good1.keep 1 1 0 5 (by omega)
  rwa [keep1] at this

set_option maxHeartbeats 2000000 in
set_option maxRecDepth 100000 in
theorem awake_calls (w : World) : Calls Try.prog 11 #[] w fun e w' => e = .returned (.bool true) ∧ Ext Non w w' := by
  go_enter Try.func11, Try.ntmps11
  go_wp2_with fail
  refine (New_calls w).mono ?_
  rintro e w1 ⟨g, rfl, hg0, hg1, hT, hE⟩
  have HT := Lib.hid (hT (Mine w.heap.size g))
  have HE := Lib.hid hE
  clear hT hE
  go_wp2_with fail
  refine (Open_calls (ok := Mine w.heap.size g) HT.out (Int.le_refl _) (fun i hi => ⟨by omega, by omega⟩) (fun h => h.2 rfl)).mono ?_
  rw [open0]
  rintro e w2 ⟨rfl, h3, h4⟩
  have HT2 : Hid (TabAt w2 (Mine w.heap.size g) g T1) := h3
  have E2 : Hid (Ext Non w w2) := HE.out.trans h4 (fun i hi e => by
    have e' : i = g := e
    omega)
  have z2 := h4.size
  clear h3 h4
  go_wp2_with fail
  refine (Ask_calls HT2.out good1 1 1 (by omega) (by omega) (by omega)).mono ?_
  rw [ask1]
  rintro e w3 ⟨rfl, h4⟩
  unfold AskR.val
  have HT3 := Lib.hid (HT2.out.ext h4)
  have E3 := Lib.hid (E2.out.trans0 h4)
  have z3 := h4.size
  clear h4
  go_wp2_with fail
  refine (Keep_calls (HT3.out.ext ((Ext.refl Non w3).alloc _)) good1 1 1 0 5 (by omega) (by omega) (by omega) (fun i hi => ⟨by simp at hi; omega, by simp at hi; omega⟩)).mono ?_
  rw [keep1]
  rintro e w4 ⟨rfl, h3, h4⟩
  have HT4 : Hid (TabAt w4 (Mine w.heap.size g) g T2) := h3
  have E4 : Hid (Ext Non w w4) := (E3.out.alloc _).trans h4 (fun i hi e => by
    have e' : i = g := e
    omega)
  have z4 := h4.size
  simp at z4
  clear h3 h4
  go_wp2_with fail
  refine (Ask_calls HT4.out good2 1 1 (by omega) (by omega) (by omega)).mono ?_
  rw [ask2]
  rintro e w5 ⟨rfl, h4⟩
  unfold AskR.val
  have HT5 := Lib.hid (HT4.out.ext h4)
  have E5 := Lib.hid (E4.out.trans0 h4)
  have z5 := h4.size
  clear h4
  go_wp2_with fail
  refine (Ask_calls (HT5.out.ext ((Ext.refl Non w5).alloc _)) good2 1 3 (by omega) (by omega) (by omega)).mono ?_
  rw [ask3]
  rintro e w6 ⟨rfl, h4⟩
  unfold AskR.val
  have b8 := h4.obj (heap_alloc_new w5 _) (fun e => e)
  have HT6 := Lib.hid (HT5.out.ext (((Ext.refl Non w5).alloc _).trans0 h4))
  have E6 := Lib.hid ((E5.out.alloc _).trans0 h4)
  have B8 := Lib.hid b8
  clear h4 b8
  go_wp2_with fail
  refine (Ask_calls (HT6.out.ext ((Ext.refl Non w6).alloc _)) good2 2 1 (by omega) (by omega) (by omega)).mono ?_
  rw [ask4]
  rintro e w7 ⟨rfl, h4⟩
  unfold AskR.val
  have b8 := h4.obj (blk_alloc B8.out _) (fun e => e)
  have d8 := blk_cell b8 1
  have hl8 := blk_lt b8
  simp at d8
  have E7 := Lib.hid ((E6.out.alloc _).trans0 h4)
  clear h4 b8
  go_wp2_with fail
  go_ret
  exact ⟨rfl, E7.out.alloc _⟩
end Go.Proofs.Ytiebnjkjgobklaa
