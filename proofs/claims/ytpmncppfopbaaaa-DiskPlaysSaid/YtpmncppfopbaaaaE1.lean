/- The document's face behind an act. -/
import Derived.Test.YtpmncppfopbaaaaC8
namespace Go.Proofs.Ytpmncppfopbaaaa
open Go.RowKit Go.TM

set_option maxHeartbeats 2000000 in
theorem on2 {w : World} {ok : Nat → Prop} {A0 A1 A2 A3 : Option Addr} {n0 n1 n2 n3 c0 c1 c2 c3 : Nat} {p : Plate} {a : DAct}
    (H : PlateRd w ok (.slice A0 n0 c0) (.slice A1 n1 c1) (.slice A2 n2 c2) p) (K : Rd Kd.u8 w ok (.slice A3 n3 c3) a.b) (hk : a.kind = 2) (hf : ∀ k, w.heap.size ≤ k → ok k) (hl : p.tape.length + a.b.length ≤ 140737488355328) :
    Calls Try.prog 56 #[.agg #[.slice A0 n0 c0, .slice A1 n1 c1, .slice A2 n2 c2], .agg #[.int .i64 a.kind, .slice A3 n3 c3]] w (PlatePost ok (p.does a) w) := by
  have HH := Lib.hid H
  have HK := Lib.hid K
  have HF := Lib.hid hf
  have hd : Hid (p.does a = ⟨p.s0, p.s1, p.tape ++ a.b⟩) := by
    show _ = _
    unfold Plate.does
    rw [if_pos hk]
  have RT : Hid True := trivial
  obtain ⟨A', c', he, hc, hm⟩ := H.2.2.slice
  simp only [Value.slice.injEq] at he
  obtain ⟨rfl, hn2, rfl⟩ := he
  have HN := Lib.hid hn2
  have hl2 : Hid (p.tape.length + a.b.length ≤ 140737488355328) := hl
  have q1 : (0 : Int) ≤ (n2 : Int) := by omega
  have q2 : (n2 : Int) ≤ (c2 : Int) := by omega
  have q3 : max (n2 : Int) 0 = (n2 : Int) := by omega
  rw [hk]
  clear H K hf hk hn2 hc hm hl
  obtain ⟨W0, hW, b0, b1, b2, e0, z0⟩ := boxes3 w (.cells #[.slice A0 n0 c0, .slice A1 n1 c1, .slice A2 n2 c2] 79) (.cells #[.int .i64 2, .slice A3 n3 c3] 86) (.cells #[.slice none 0 0, .slice none 0 0, .slice none 0 0] 79)
  have f02 := blk_cell b0 2
  have f10 := blk_cell b1 0
  have f11 := blk_cell b1 1
  simp at f02 f10 f11
  have b0 := Lib.hid b0
  have b1 := Lib.hid b1
  have b2 := Lib.hid b2
  have E0 := Lib.hid e0
  clear e0
  go_enter Try.func56, Try.ntmps56
  go_wp2_with fail
  clear hW
  refine Last.start_ (S := fun W => W.cell? ⟨w.heap.size, 2, none⟩ = some (.slice A2 n2 c2) ∧ W.cell? ⟨w.heap.size + 1, 1, none⟩ = some (.slice A3 n3 c3)) (ds := [8]) #[false, false, false, false, false, false, false, false, false] (by kernel_rfl) (by rfl) (by rfl) ⟨f02, f11⟩ (fun hS => ?_)
  refine Last.take_ (i := 1) (N := some 18) (v := .pointer (some ⟨w.heap.size, 2, none⟩)) #[false, true, false, false, false, false, false, false, false] (by simp only [List.getElem?_toArray, List.getElem?_cons_zero, List.getElem?_cons_succ]; rfl) rfl (by kernel_rfl) (by exact fun _ _ _ h => h) (Or.inl ⟨by rfl, fun W hW => by first | rfl | (try dsimp only at hW); go_simp⟩) hS rfl ?_
  simp only [Act.put, List.setIfInBounds_toArray, List.set_cons_zero, List.set_cons_succ]
  refine Last.take_ (i := 2) (N := some 19) (v := .slice A2 n2 c2) #[false, true, true, false, false, false, false, false, false] (by simp only [List.getElem?_toArray, List.getElem?_cons_zero, List.getElem?_cons_succ]; rfl) rfl (by kernel_rfl) (by exact fun _ _ _ h => h) (Or.inl ⟨by rfl, fun W hW => by first | rfl | (try dsimp only at hW); go_simp⟩) hS rfl ?_
  simp only [Act.put, List.setIfInBounds_toArray, List.set_cons_zero, List.set_cons_succ]
  refine Last.take_ (i := 4) (N := some 21) (v := .pointer (some ⟨w.heap.size + 1, 1, none⟩)) #[false, true, true, false, true, false, false, false, false] (by simp only [List.getElem?_toArray, List.getElem?_cons_zero, List.getElem?_cons_succ]; rfl) rfl (by kernel_rfl) (by exact fun _ _ _ h => h) (Or.inl ⟨by rfl, fun W hW => by first | rfl | (try dsimp only at hW); go_simp⟩) hS rfl ?_
  simp only [Act.put, List.setIfInBounds_toArray, List.set_cons_zero, List.set_cons_succ]
  refine Last.take_ (i := 5) (N := some 22) (v := .slice A3 n3 c3) #[false, true, true, false, true, true, false, false, false] (by simp only [List.getElem?_toArray, List.getElem?_cons_zero, List.getElem?_cons_succ]; rfl) rfl (by kernel_rfl) (by exact fun _ _ _ h => h) (Or.inl ⟨by rfl, fun W hW => by first | rfl | (try dsimp only at hW); go_simp⟩) hS rfl ?_
  simp only [Act.put, List.setIfInBounds_toArray, List.set_cons_zero, List.set_cons_succ]
  refine Last.one_ (i := 0) (N := some 17) #[true, true, true, false, true, true, false, false, false] (by simp only [List.getElem?_toArray, List.getElem?_cons_zero]; rfl) rfl (by kernel_rfl) (by decide) (fun K hK => ?_)
  go_simp
  have eL : Ext Non W0 (W0.drew.alloc (.cells #[] 5)) := ((Ext.refl Non W0).drew).alloc _
  refine hK.out _ _ ⟨eL.cell f02 (fun e => e), eL.cell f11 (fun e => e)⟩ (fun hS => ?_)
  have OL : Hid (Own Kd.u8 5 (W0.drew.alloc (.cells #[] 5)) W0.heap.size (fun _ => True) (.slice (some ⟨W0.heap.size, 0, none⟩) 0 0) []) := Own.lit (w := W0.drew) (Reps.nil _ _ _) (Nat.le_refl _) (by simp) trivial
  have EL := Lib.hid eL
  have f02' := eL.cell f02 (fun e => e)
  have f11' := eL.cell f11 (fun e => e)
  clear eL
  try simp only [Act.put, List.setIfInBounds_toArray, List.set_cons_zero, List.set_cons_succ]
  refine Last.one_ (i := 3) (N := some 20) #[true, true, true, true, true, true, false, false, false] (by simp only [List.getElem?_toArray, List.getElem?_cons_zero, List.getElem?_cons_succ]; rfl) rfl (by kernel_rfl) (by decide) (fun K hK => ?_)
  have hb0 := OL.out.base_le
  refine step_app Kd.u8 (ok := fun _ => True) (v := .slice (some ⟨W0.heap.size, 0, none⟩) 0 0) (vx := .slice A2 n2 c2) (xs := []) (ys := p.tape) W0.heap.size (by rfl) _ _ 30 5 _ 1 (by rfl) Try.underlying30 info5 rfl (by decide) (by simp [Act.eval]) (by simp [Act.eval]) OL.out (((HH.out.2.2.bound.ext0 E0.out).ext0 EL.out).mono (fun k hk => ⟨trivial, fun e => by have := (hb0 k e.symm).1; have := hk.2; omega⟩)) (fun _ _ => trivial) (by have := hl2.out; simp; omega) (by have := hl2.out; simp; omega) (by simp) ?_
  intro v4 w4 hown hext hblk
  obtain ⟨A4, c4, rfl, -, -⟩ := hown.slice
  rw [List.nil_append] at hown
  have e4 : Ext Non W0 w4 := EL.out.trans hext (fun i hi e => by have := (hb0 i e.symm).1; omega)
  have E4 := Lib.hid e4
  have O4 := Lib.hid hown
  have g02 := e4.cell f02 (fun e => e)
  have g11 := e4.cell f11 (fun e => e)
  have z4 := e4.size
  clear hown hext hblk e4
  refine hK.out _ _ ⟨g02, g11⟩ (fun hS => ?_)
  try simp only [Act.put, List.setIfInBounds_toArray, List.set_cons_zero, List.set_cons_succ]
  refine Last.one_ (i := 6) (N := some 23) #[true, true, true, true, true, true, true, false, false] (by simp only [List.getElem?_toArray, List.getElem?_cons_zero, List.getElem?_cons_succ]; rfl) rfl (by kernel_rfl) (by decide) (fun K hK => ?_)
  have hb4 := O4.out.base_le
  refine step_app Kd.u8 (ok := fun _ => True) (v := .slice A4 ([] ++ p.tape).length c4) (vx := .slice A3 n3 c3) (xs := p.tape) (ys := a.b) W0.heap.size (by rfl) _ _ 30 5 _ 1 (by rfl) Try.underlying30 info5 rfl (by decide) (by simp [Act.eval]) (by simp [Act.eval]) O4.out (((HK.out.bound.ext0 E0.out).ext0 E4.out).mono (fun k hk => ⟨trivial, fun e => by have := (hb4 k e.symm).1; have := hk.2; omega⟩)) (fun _ _ => trivial) (by have := hl2.out; omega) (by have := hl2.out; omega) z4 ?_
  intro v5 w5 hown hext hblk
  obtain ⟨A5, c5, rfl, -, -⟩ := hown.slice
  have e5 : Ext Non W0 w5 := E4.out.trans hext (fun i hi e => by have := (hb4 i e.symm).1; omega)
  have E5 := Lib.hid e5
  have b5 := hown.base_le
  have R5 : Hid (Rd Kd.u8 w5 (fun k => W0.heap.size ≤ k ∧ k < w5.heap.size) (.slice A5 (p.tape ++ a.b).length c5) (p.tape ++ a.b)) := (Own.tight hown).rd
  have b0 := Lib.hid (e5.obj b0.out (fun e => e))
  have b1 := Lib.hid (e5.obj b1.out (fun e => e))
  have b2 := Lib.hid (e5.obj b2.out (fun e => e))
  have f00 := blk_cell b0.out 0
  have f01 := blk_cell b0.out 1
  have f02 := blk_cell b0.out 2
  have f11 := blk_cell b1.out 1
  have f20 := blk_cell b2.out 0
  have f21 := blk_cell b2.out 1
  have f22 := blk_cell b2.out 2
  simp at f00 f01 f02 f11 f20 f21 f22
  have y02 := blk_frozen b0.out 2
  have y20 := blk_frozen b2.out 0
  have y21 := blk_frozen b2.out 1
  have y22 := blk_frozen b2.out 2
  generalize (p.tape ++ a.b).length = n5 at R5 ⊢
  clear hown hext hblk e5 b5 g02 g11 f02' f11'
  refine hK.out _ _ ⟨f02, f11⟩ (fun hS => ?_)
  try simp only [Act.put, List.setIfInBounds_toArray, List.set_cons_zero, List.set_cons_succ]
  refine Last.take_ (i := 7) (N := some 24) (v := .pointer (some ⟨w.heap.size, 2, none⟩)) #[true, true, true, true, true, true, true, true, false] (by simp only [List.getElem?_toArray, List.getElem?_cons_zero, List.getElem?_cons_succ]; rfl) rfl (by kernel_rfl) (by exact fun _ _ _ h => h) (Or.inl ⟨by rfl, fun W hW => by first | rfl | (try dsimp only at hW); go_simp⟩) hS rfl ?_
  simp only [Act.put, List.setIfInBounds_toArray, List.set_cons_zero, List.set_cons_succ]
  refine Last.last_ (i := 8) (N := none) #[true, true, true, true, true, true, true, true, true] (by simp only [List.getElem?_toArray, List.getElem?_cons_zero, List.getElem?_cons_succ]; rfl) rfl (by kernel_rfl) (by decide) (fun K hK => ?_)
  go_simp
  refine hK.out _ _ ?_
  try simp only [Act.put, List.setIfInBounds_toArray, List.set_cons_zero, List.set_cons_succ]
  refine Last.done_ (by kernel_rfl) ?_
  go_wp2_with fail
  have hblk : (((((w5.setCell ⟨w.heap.size, 2, none⟩ (.slice A5 n5 c5)).setCell ⟨w.heap.size + 1 + 1, 0, none⟩ (.slice A0 n0 c0)).setCell ⟨w.heap.size + 1 + 1, 1, none⟩ (.slice A1 n1 c1)).setCell ⟨w.heap.size + 1 + 1, 2, none⟩ (.slice A5 n5 c5))).heap[w.heap.size + 1 + 1]? = some (.cells #[.slice A0 n0 c0, .slice A1 n1 c1, (.slice A5 n5 c5)] 79 (0, 0)) := by
    have h := blk_set (blk_set (blk_set (blk_far b2.out (p := ⟨w.heap.size, 2, none⟩) (by simp only []; omega) (.slice A5 n5 c5)) 0 (.slice A0 n0 c0)) 1 (.slice A1 n1 c1)) 2 (.slice A5 n5 c5)
    simpa using h
  have hc0 := blk_cell hblk 0
  have hc1 := blk_cell hblk 1
  have hc2 := blk_cell hblk 2
  simp at hc0 hc1 hc2
  (try simp only [Exit.inBlock, Exit.then])
  refine bodyPost_ret (v := .agg #[.slice A0 n0 c0, .slice A1 n1 c1, .slice A5 n5 c5]) (by simp [results, Try.results56, go_sem, hc0, hc1, hc2]) rfl ?_
  have EF : Ext Non w ((((w5.setCell ⟨w.heap.size, 2, none⟩ (.slice A5 n5 c5)).setCell ⟨w.heap.size + 1 + 1, 0, none⟩ (.slice A0 n0 c0)).setCell ⟨w.heap.size + 1 + 1, 1, none⟩ (.slice A1 n1 c1)).setCell ⟨w.heap.size + 1 + 1, 2, none⟩ (.slice A5 n5 c5)) :=
    ((((E0.out.trans0 E5.out).setNew (by omega) _).setNew (by omega) _).setNew (by omega) _).setNew (by omega) _
  have EM : Ext (fun k => w.heap.size ≤ k ∧ k < w.heap.size + 3) w5 ((((w5.setCell ⟨w.heap.size, 2, none⟩ (.slice A5 n5 c5)).setCell ⟨w.heap.size + 1 + 1, 0, none⟩ (.slice A0 n0 c0)).setCell ⟨w.heap.size + 1 + 1, 1, none⟩ (.slice A1 n1 c1)).setCell ⟨w.heap.size + 1 + 1, 2, none⟩ (.slice A5 n5 c5)) :=
    ((((Ext.refl _ w5).setCell (fun _ => by simp only []; omega) _).setCell (fun _ => by simp only []; omega) _).setCell (fun _ => by simp only []; omega) _).setCell (fun _ => by simp only []; omega) _
  refine ⟨_, _, _, _, _, _, _, _, _, rfl, ?_, EF⟩
  rw [hd.out]
  exact ⟨HH.out.1.ext0 EF, HH.out.2.1.ext0 EF, (R5.out.ext EM (fun k hk _ hM => by have h1 := hk.1; have h2 : w.heap.size ≤ k ∧ k < w.heap.size + 3 := hM; omega)).mono (fun k hk => HF.out k (by have h1 := hk.1; omega))⟩

theorem on3 {w : World} {ok : Nat → Prop} {A0 A1 A2 A3 : Option Addr} {n0 n1 n2 n3 c0 c1 c2 c3 : Nat} {p : Plate} {a : DAct}
    (H : PlateRd w ok (.slice A0 n0 c0) (.slice A1 n1 c1) (.slice A2 n2 c2) p) (hk : a.kind = 3) :
    Calls Try.prog 56 #[.agg #[.slice A0 n0 c0, .slice A1 n1 c1, .slice A2 n2 c2], .agg #[.int .i64 a.kind, .slice A3 n3 c3]] w (PlatePost ok (p.does a) w) := by
  have HH := Lib.hid H
  have hd : Hid (p.does a = ⟨p.s0, p.s1, []⟩) := by
    show _ = _
    unfold Plate.does
    rw [if_neg (by omega), if_pos hk]
  rw [hk]
  clear H hk
  obtain ⟨W0, hW, b0, b1, b2, e0, z0⟩ := boxes3 w (.cells #[.slice A0 n0 c0, .slice A1 n1 c1, .slice A2 n2 c2] 79) (.cells #[.int .i64 3, .slice A3 n3 c3] 86) (.cells #[.slice none 0 0, .slice none 0 0, .slice none 0 0] 79)
  have f00 := blk_cell b0 0
  have f01 := blk_cell b0 1
  have f02 := blk_cell b0 2
  have f10 := blk_cell b1 0
  have f11 := blk_cell b1 1
  have f20 := blk_cell b2 0
  have f21 := blk_cell b2 1
  have f22 := blk_cell b2 2
  simp at f00 f01 f02 f10 f11 f20 f21 f22
  have y02 := blk_frozen b0 2
  have y20 := blk_frozen b2 0
  have y21 := blk_frozen b2 1
  have y22 := blk_frozen b2 2
  have E0 := Lib.hid e0
  have b2 := Lib.hid b2
  clear e0 z0 b0 b1
  go_enter Try.func56, Try.ntmps56
  go_wp2_with fail
  clear hW
  have hblk : (((((W0.setCell ⟨w.heap.size, 2, none⟩ (.slice none 0 0)).setCell ⟨w.heap.size + 1 + 1, 0, none⟩ (.slice A0 n0 c0)).setCell ⟨w.heap.size + 1 + 1, 1, none⟩ (.slice A1 n1 c1)).setCell ⟨w.heap.size + 1 + 1, 2, none⟩ (.slice none 0 0))).heap[w.heap.size + 1 + 1]? = some (.cells #[.slice A0 n0 c0, .slice A1 n1 c1, (.slice none 0 0)] 79 (0, 0)) := by
    have h := blk_set (blk_set (blk_set (blk_far b2.out (p := ⟨w.heap.size, 2, none⟩) (by simp only []; omega) (.slice none 0 0)) 0 (.slice A0 n0 c0)) 1 (.slice A1 n1 c1)) 2 (.slice none 0 0)
    simpa using h
  have hc0 := blk_cell hblk 0
  have hc1 := blk_cell hblk 1
  have hc2 := blk_cell hblk 2
  simp at hc0 hc1 hc2
  (try simp only [Exit.inBlock, Exit.then])
  refine bodyPost_ret (v := .agg #[.slice A0 n0 c0, .slice A1 n1 c1, .slice none 0 0]) (by simp [results, Try.results56, go_sem, hc0, hc1, hc2]) rfl ?_
  have EF : Ext Non w ((((W0.setCell ⟨w.heap.size, 2, none⟩ (.slice none 0 0)).setCell ⟨w.heap.size + 1 + 1, 0, none⟩ (.slice A0 n0 c0)).setCell ⟨w.heap.size + 1 + 1, 1, none⟩ (.slice A1 n1 c1)).setCell ⟨w.heap.size + 1 + 1, 2, none⟩ (.slice none 0 0)) :=
    (((E0.out.setNew (by omega) _).setNew (by omega) _).setNew (by omega) _).setNew (by omega) _
  refine ⟨_, _, _, _, _, _, _, _, _, rfl, ?_, EF⟩
  rw [hd.out]
  exact ⟨HH.out.1.ext0 EF, HH.out.2.1.ext0 EF, Rd.nil _ _ _⟩
theorem on0 {w : World} {ok : Nat → Prop} {A0 A1 A2 A3 : Option Addr} {n0 n1 n2 n3 c0 c1 c2 c3 : Nat} {p : Plate} {a : DAct}
    (H : PlateRd w ok (.slice A0 n0 c0) (.slice A1 n1 c1) (.slice A2 n2 c2) p) (K : Rd Kd.u8 w ok (.slice A3 n3 c3) a.b) (hk : a.kind = 0) :
    Calls Try.prog 56 #[.agg #[.slice A0 n0 c0, .slice A1 n1 c1, .slice A2 n2 c2], .agg #[.int .i64 a.kind, .slice A3 n3 c3]] w (PlatePost ok (p.does a) w) := by
  have HH := Lib.hid H
  have hd : Hid (p.does a = ⟨a.b, p.s1, p.tape⟩) := by
    show _ = _
    unfold Plate.does
    rw [if_neg (by omega), if_neg (by omega), if_pos hk]
  rw [hk]
  have HK := Lib.hid K
  clear H hk K
  obtain ⟨W0, hW, b0, b1, b2, e0, z0⟩ := boxes3 w (.cells #[.slice A0 n0 c0, .slice A1 n1 c1, .slice A2 n2 c2] 79) (.cells #[.int .i64 0, .slice A3 n3 c3] 86) (.cells #[.slice none 0 0, .slice none 0 0, .slice none 0 0] 79)
  have f00 := blk_cell b0 0
  have f01 := blk_cell b0 1
  have f02 := blk_cell b0 2
  have f10 := blk_cell b1 0
  have f11 := blk_cell b1 1
  have f20 := blk_cell b2 0
  have f21 := blk_cell b2 1
  have f22 := blk_cell b2 2
  simp at f00 f01 f02 f10 f11 f20 f21 f22
  have y02 := blk_frozen b0 0
  have y20 := blk_frozen b2 0
  have y21 := blk_frozen b2 1
  have y22 := blk_frozen b2 2
  have E0 := Lib.hid e0
  have b2 := Lib.hid b2
  clear e0 z0 b0 b1
  go_enter Try.func56, Try.ntmps56
  go_wp2_with fail
  clear hW
  have hblk : (((((W0.setCell ⟨w.heap.size, 0, none⟩ (.slice A3 n3 c3)).setCell ⟨w.heap.size + 1 + 1, 0, none⟩ (.slice A3 n3 c3)).setCell ⟨w.heap.size + 1 + 1, 1, none⟩ (.slice A1 n1 c1)).setCell ⟨w.heap.size + 1 + 1, 2, none⟩ (.slice A2 n2 c2))).heap[w.heap.size + 1 + 1]? = some (.cells #[.slice A3 n3 c3, .slice A1 n1 c1, .slice A2 n2 c2] 79 (0, 0)) := by
    have h := blk_set (blk_set (blk_set (blk_far b2.out (p := ⟨w.heap.size, 0, none⟩) (by simp only []; omega) (.slice A3 n3 c3)) 0 (.slice A3 n3 c3)) 1 (.slice A1 n1 c1)) 2 (.slice A2 n2 c2)
    simpa using h
  have hc0 := blk_cell hblk 0
  have hc1 := blk_cell hblk 1
  have hc2 := blk_cell hblk 2
  simp at hc0 hc1 hc2
  (try simp only [Exit.inBlock, Exit.then])
  refine bodyPost_ret (v := .agg #[.slice A3 n3 c3, .slice A1 n1 c1, .slice A2 n2 c2]) (by simp [results, Try.results56, go_sem, hc0, hc1, hc2]) rfl ?_
  have EF : Ext Non w ((((W0.setCell ⟨w.heap.size, 0, none⟩ (.slice A3 n3 c3)).setCell ⟨w.heap.size + 1 + 1, 0, none⟩ (.slice A3 n3 c3)).setCell ⟨w.heap.size + 1 + 1, 1, none⟩ (.slice A1 n1 c1)).setCell ⟨w.heap.size + 1 + 1, 2, none⟩ (.slice A2 n2 c2)) :=
    (((E0.out.setNew (by omega) _).setNew (by omega) _).setNew (by omega) _).setNew (by omega) _
  refine ⟨_, _, _, _, _, _, _, _, _, rfl, ?_, EF⟩
  rw [hd.out]
  exact ⟨HK.out.ext0 EF, HH.out.2.1.ext0 EF, HH.out.2.2.ext0 EF⟩
theorem on1 {w : World} {ok : Nat → Prop} {A0 A1 A2 A3 : Option Addr} {n0 n1 n2 n3 c0 c1 c2 c3 : Nat} {p : Plate} {a : DAct}
    (H : PlateRd w ok (.slice A0 n0 c0) (.slice A1 n1 c1) (.slice A2 n2 c2) p) (K : Rd Kd.u8 w ok (.slice A3 n3 c3) a.b) (hk : a.kind = 1) :
    Calls Try.prog 56 #[.agg #[.slice A0 n0 c0, .slice A1 n1 c1, .slice A2 n2 c2], .agg #[.int .i64 a.kind, .slice A3 n3 c3]] w (PlatePost ok (p.does a) w) := by
  have HH := Lib.hid H
  have hd : Hid (p.does a = ⟨p.s0, a.b, p.tape⟩) := by
    show _ = _
    unfold Plate.does
    rw [if_neg (by omega), if_neg (by omega), if_neg (by omega)]
  rw [hk]
  have HK := Lib.hid K
  clear H hk K
  obtain ⟨W0, hW, b0, b1, b2, e0, z0⟩ := boxes3 w (.cells #[.slice A0 n0 c0, .slice A1 n1 c1, .slice A2 n2 c2] 79) (.cells #[.int .i64 1, .slice A3 n3 c3] 86) (.cells #[.slice none 0 0, .slice none 0 0, .slice none 0 0] 79)
  have f00 := blk_cell b0 0
  have f01 := blk_cell b0 1
  have f02 := blk_cell b0 2
  have f10 := blk_cell b1 0
  have f11 := blk_cell b1 1
  have f20 := blk_cell b2 0
  have f21 := blk_cell b2 1
  have f22 := blk_cell b2 2
  simp at f00 f01 f02 f10 f11 f20 f21 f22
  have y02 := blk_frozen b0 1
  have y20 := blk_frozen b2 0
  have y21 := blk_frozen b2 1
  have y22 := blk_frozen b2 2
  have E0 := Lib.hid e0
  have b2 := Lib.hid b2
  clear e0 z0 b0 b1
  go_enter Try.func56, Try.ntmps56
  go_wp2_with fail
  clear hW
  have hblk : (((((W0.setCell ⟨w.heap.size, 1, none⟩ (.slice A3 n3 c3)).setCell ⟨w.heap.size + 1 + 1, 0, none⟩ (.slice A0 n0 c0)).setCell ⟨w.heap.size + 1 + 1, 1, none⟩ (.slice A3 n3 c3)).setCell ⟨w.heap.size + 1 + 1, 2, none⟩ (.slice A2 n2 c2))).heap[w.heap.size + 1 + 1]? = some (.cells #[.slice A0 n0 c0, .slice A3 n3 c3, .slice A2 n2 c2] 79 (0, 0)) := by
    have h := blk_set (blk_set (blk_set (blk_far b2.out (p := ⟨w.heap.size, 1, none⟩) (by simp only []; omega) (.slice A3 n3 c3)) 0 (.slice A0 n0 c0)) 1 (.slice A3 n3 c3)) 2 (.slice A2 n2 c2)
    simpa using h
  have hc0 := blk_cell hblk 0
  have hc1 := blk_cell hblk 1
  have hc2 := blk_cell hblk 2
  simp at hc0 hc1 hc2
  (try simp only [Exit.inBlock, Exit.then])
  refine bodyPost_ret (v := .agg #[.slice A0 n0 c0, .slice A3 n3 c3, .slice A2 n2 c2]) (by simp [results, Try.results56, go_sem, hc0, hc1, hc2]) rfl ?_
  have EF : Ext Non w ((((W0.setCell ⟨w.heap.size, 1, none⟩ (.slice A3 n3 c3)).setCell ⟨w.heap.size + 1 + 1, 0, none⟩ (.slice A0 n0 c0)).setCell ⟨w.heap.size + 1 + 1, 1, none⟩ (.slice A3 n3 c3)).setCell ⟨w.heap.size + 1 + 1, 2, none⟩ (.slice A2 n2 c2)) :=
    (((E0.out.setNew (by omega) _).setNew (by omega) _).setNew (by omega) _).setNew (by omega) _
  refine ⟨_, _, _, _, _, _, _, _, _, rfl, ?_, EF⟩
  rw [hd.out]
  exact ⟨HH.out.1.ext0 EF, HK.out.ext0 EF, HH.out.2.2.ext0 EF⟩

theorem on_calls {w : World} {ok : Nat → Prop} {A0 A1 A2 A3 : Option Addr} {n0 n1 n2 n3 c0 c1 c2 c3 : Nat} {p : Plate} {a : DAct}
    (H : PlateRd w ok (.slice A0 n0 c0) (.slice A1 n1 c1) (.slice A2 n2 c2) p) (K : Rd Kd.u8 w ok (.slice A3 n3 c3) a.b) (hk : 0 ≤ a.kind ∧ a.kind ≤ 3) (hf : ∀ k, w.heap.size ≤ k → ok k) (hl : a.kind = 2 → p.tape.length + a.b.length ≤ 140737488355328) :
    Calls Try.prog 56 #[.agg #[.slice A0 n0 c0, .slice A1 n1 c1, .slice A2 n2 c2], .agg #[.int .i64 a.kind, .slice A3 n3 c3]] w (PlatePost ok (p.does a) w) := by
  have h4 : a.kind = 0 ∨ a.kind = 1 ∨ a.kind = 2 ∨ a.kind = 3 := by omega
  rcases h4 with h | h | h | h
  · exact on0 H K h
  · exact on1 H K h
  · exact on2 H K h hf (hl h)
  · exact on3 H h

end Go.Proofs.Ytpmncppfopbaaaa
