/- A plate behind an act. -/
import Derived.Test.YtpmncppfopbaaaaB2
import Derived.Test.YtpmncppfopbaaaaL
namespace Go.Proofs.Ytpmncppfopbaaaa
open Go.RowKit Go.TM

def PlateRd (w : World) (ok : Nat → Prop) (a0 a1 a2 : Value) (p : Plate) : Prop := Rd Kd.u8 w ok a0 p.s0 ∧ Rd Kd.u8 w ok a1 p.s1 ∧ Rd Kd.u8 w ok a2 p.tape
def PlatePost (ok : Nat → Prop) (p : Plate) (w : World) (e : Ending) (w' : World) : Prop :=
  ∃ A0 n0 c0 A1 n1 c1 A2 n2 c2, e = .returned (.agg #[.slice A0 n0 c0, .slice A1 n1 c1, .slice A2 n2 c2]) ∧ Hid (PlateRd w' ok (.slice A0 n0 c0) (.slice A1 n1 c1) (.slice A2 n2 c2) p) ∧ Hid (Ext Non w w')
set_option maxHeartbeats 1000000 in
theorem pdoes2 {w : World} {ok : Nat → Prop} {A0 A1 A2 A3 : Option Addr} {n0 n1 n2 n3 c0 c1 c2 c3 : Nat} {p : Plate} {a : DAct}
    (H : PlateRd w ok (.slice A0 n0 c0) (.slice A1 n1 c1) (.slice A2 n2 c2) p) (K : Rd Kd.u8 w ok (.slice A3 n3 c3) a.b) (hk : a.kind = 2) (hf : ∀ k, w.heap.size ≤ k → ok k) (hl : p.tape.length + a.b.length ≤ 140737488355328) :
    Calls Try.prog 48 #[.agg #[.slice A0 n0 c0, .slice A1 n1 c1, .slice A2 n2 c2], .agg #[.int .i64 a.kind, .slice A3 n3 c3]] w (PlatePost ok (p.does a) w) := by
  have HH := Lib.hid H
  have HK := Lib.hid K
  have HF := Lib.hid hf
  have hd : Hid (p.does a = ⟨p.s0, p.s1, p.tape ++ a.b⟩) := by
    show _ = _
    unfold Plate.does
    rw [if_pos hk]
  have RT : Hid (Rd Kd.u8 w ok (.slice A2 n2 n2) p.tape) := H.2.2.full
  obtain ⟨A', c', he, hc, hm⟩ := H.2.2.slice
  simp only [Value.slice.injEq] at he
  obtain ⟨rfl, hn2, rfl⟩ := he
  have HN := Lib.hid hn2
  have hl2 : Hid (p.tape.length + a.b.length ≤ 140737488355328) := hl
  have q1 : (0 : Int) ≤ (n2 : Int) := by omega
  have q2 : (n2 : Int) ≤ (c2 : Int) := by omega
  have q3 : max (n2 : Int) 0 = (n2 : Int) := by omega
  rw [hk]
  clear H K hf hk hn2 hc hm hl
  obtain ⟨W0, hW, b0, b1, b2, e0, z0⟩ := boxes3 w (.cells #[.slice A0 n0 c0, .slice A1 n1 c1, .slice A2 n2 c2] 54) (.cells #[.int .i64 2, .slice A3 n3 c3] 74) (.cells #[.slice none 0 0, .slice none 0 0, .slice none 0 0] 54)
  have f02 := blk_cell b0 2
  have f10 := blk_cell b1 0
  have f11 := blk_cell b1 1
  simp at f02 f10 f11
  have b0 := Lib.hid b0
  have b1 := Lib.hid b1
  have b2 := Lib.hid b2
  have E0 := Lib.hid e0
  clear e0
  go_enter Try.func48, Try.ntmps48
  go_wp2_with fail
  clear hW
  refine Last.start_ (S := fun W => W.cell? ⟨w.heap.size, 2, none⟩ = some (.slice A2 n2 c2) ∧ W.cell? ⟨w.heap.size + 1, 1, none⟩ = some (.slice A3 n3 c3)) (ds := [13]) #[false, false, false, false, false, false, false, false, false, false, false, false, false, false] (by kernel_rfl) (by rfl) (by rfl) ⟨f02, f11⟩ (fun hS => ?_)
  refine Last.take_ (i := 0) (N := some 15) (v := .pointer (some ⟨w.heap.size, 2, none⟩)) #[true, false, false, false, false, false, false, false, false, false, false, false, false, false] (by simp only [List.getElem?_toArray, List.getElem?_cons_zero]; rfl) rfl (by kernel_rfl) (by exact fun _ _ _ h => h) (Or.inl ⟨by rfl, fun W hW => by first | rfl | (try dsimp only at hW); go_simp⟩) hS rfl ?_
  simp only [Act.put, List.setIfInBounds_toArray, List.set_cons_zero, List.set_cons_succ]
  refine Last.take_ (i := 1) (N := some 16) (v := .slice A2 n2 c2) #[true, true, false, false, false, false, false, false, false, false, false, false, false, false] (by simp only [List.getElem?_toArray, List.getElem?_cons_zero, List.getElem?_cons_succ]; rfl) rfl (by kernel_rfl) (by exact fun _ _ _ h => h) (Or.inl ⟨by rfl, fun W hW => by first | rfl | (try dsimp only at hW); go_simp⟩) hS rfl ?_
  simp only [Act.put, List.setIfInBounds_toArray, List.set_cons_zero, List.set_cons_succ]
  refine Last.take_ (i := 2) (N := some 17) (v := .pointer (some ⟨w.heap.size, 2, none⟩)) #[true, true, true, false, false, false, false, false, false, false, false, false, false, false] (by simp only [List.getElem?_toArray, List.getElem?_cons_zero, List.getElem?_cons_succ]; rfl) rfl (by kernel_rfl) (by exact fun _ _ _ h => h) (Or.inl ⟨by rfl, fun W hW => by first | rfl | (try dsimp only at hW); go_simp⟩) hS rfl ?_
  simp only [Act.put, List.setIfInBounds_toArray, List.set_cons_zero, List.set_cons_succ]
  refine Last.take_ (i := 3) (N := some 18) (v := .slice A2 n2 c2) #[true, true, true, true, false, false, false, false, false, false, false, false, false, false] (by simp only [List.getElem?_toArray, List.getElem?_cons_zero, List.getElem?_cons_succ]; rfl) rfl (by kernel_rfl) (by exact fun _ _ _ h => h) (Or.inl ⟨by rfl, fun W hW => by first | rfl | (try dsimp only at hW); go_simp⟩) hS rfl ?_
  simp only [Act.put, List.setIfInBounds_toArray, List.set_cons_zero, List.set_cons_succ]
  refine Last.take_ (i := 4) (N := some 19) (v := .int .i64 (n2 : Int)) #[true, true, true, true, true, false, false, false, false, false, false, false, false, false] (by simp only [List.getElem?_toArray, List.getElem?_cons_zero, List.getElem?_cons_succ]; rfl) rfl (by kernel_rfl) (by exact fun _ _ _ h => h) (Or.inl ⟨by rfl, fun W hW => by first | rfl | (try dsimp only at hW); go_simp⟩) hS rfl ?_
  simp only [Act.put, List.setIfInBounds_toArray, List.set_cons_zero, List.set_cons_succ]
  refine Last.take_ (i := 5) (N := some 20) (v := .pointer (some ⟨w.heap.size, 2, none⟩)) #[true, true, true, true, true, true, false, false, false, false, false, false, false, false] (by simp only [List.getElem?_toArray, List.getElem?_cons_zero, List.getElem?_cons_succ]; rfl) rfl (by kernel_rfl) (by exact fun _ _ _ h => h) (Or.inl ⟨by rfl, fun W hW => by first | rfl | (try dsimp only at hW); go_simp⟩) hS rfl ?_
  simp only [Act.put, List.setIfInBounds_toArray, List.set_cons_zero, List.set_cons_succ]
  refine Last.take_ (i := 6) (N := some 21) (v := .slice A2 n2 c2) #[true, true, true, true, true, true, true, false, false, false, false, false, false, false] (by simp only [List.getElem?_toArray, List.getElem?_cons_zero, List.getElem?_cons_succ]; rfl) rfl (by kernel_rfl) (by exact fun _ _ _ h => h) (Or.inl ⟨by rfl, fun W hW => by first | rfl | (try dsimp only at hW); go_simp⟩) hS rfl ?_
  simp only [Act.put, List.setIfInBounds_toArray, List.set_cons_zero, List.set_cons_succ]
  refine Last.take_ (i := 7) (N := some 22) (v := .int .i64 (n2 : Int)) #[true, true, true, true, true, true, true, true, false, false, false, false, false, false] (by simp only [List.getElem?_toArray, List.getElem?_cons_zero, List.getElem?_cons_succ]; rfl) rfl (by kernel_rfl) (by exact fun _ _ _ h => h) (Or.inl ⟨by rfl, fun W hW => by first | rfl | (try dsimp only at hW); go_simp⟩) hS rfl ?_
  simp only [Act.put, List.setIfInBounds_toArray, List.set_cons_zero, List.set_cons_succ]
  refine Last.take_ (i := 8) (N := some 23) (v := .slice A2 n2 n2) #[true, true, true, true, true, true, true, true, true, false, false, false, false, false] (by simp only [List.getElem?_toArray, List.getElem?_cons_zero, List.getElem?_cons_succ]; rfl) rfl (by kernel_rfl) (by exact fun _ _ _ h => h) (Or.inl ⟨by rfl, fun W hW => by first | rfl | (try dsimp only at hW); go_simp⟩) hS rfl ?_
  simp only [Act.put, List.setIfInBounds_toArray, List.set_cons_zero, List.set_cons_succ]
  refine Last.take_ (i := 9) (N := some 24) (v := .pointer (some ⟨w.heap.size + 1, 1, none⟩)) #[true, true, true, true, true, true, true, true, true, true, false, false, false, false] (by simp only [List.getElem?_toArray, List.getElem?_cons_zero, List.getElem?_cons_succ]; rfl) rfl (by kernel_rfl) (by exact fun _ _ _ h => h) (Or.inl ⟨by rfl, fun W hW => by first | rfl | (try dsimp only at hW); go_simp⟩) hS rfl ?_
  simp only [Act.put, List.setIfInBounds_toArray, List.set_cons_zero, List.set_cons_succ]
  refine Last.take_ (i := 10) (N := some 25) (v := .slice A3 n3 c3) #[true, true, true, true, true, true, true, true, true, true, true, false, false, false] (by simp only [List.getElem?_toArray, List.getElem?_cons_zero, List.getElem?_cons_succ]; rfl) rfl (by kernel_rfl) (by exact fun _ _ _ h => h) (Or.inl ⟨by rfl, fun W hW => by first | rfl | (try dsimp only at hW); go_simp⟩) hS rfl ?_
  simp only [Act.put, List.setIfInBounds_toArray, List.set_cons_zero, List.set_cons_succ]
  refine Last.one_ (i := 11) (N := some 26) #[true, true, true, true, true, true, true, true, true, true, true, true, false, false] (by simp only [List.getElem?_toArray, List.getElem?_cons_zero, List.getElem?_cons_succ]; rfl) rfl (by kernel_rfl) (by decide) (fun K hK => ?_)
  refine step_full Kd.u8 (ok := fun k => (ok k ∧ k < w.heap.size) ∨ w.heap.size + 3 ≤ k) (A := A2) (n := n2) (vx := .slice A3 n3 c3) (xs := p.tape) (ys := a.b) (by rfl) _ _ 30 5 _ 1 (by rfl) Try.underlying30 info5 rfl (by decide) (by simp [Act.eval]) (by simp [Act.eval]) ((RT.out.bound.ext0 E0.out.drew).mono (fun _ h => Or.inl h)) ((HK.out.bound.ext0 E0.out.drew).mono (fun _ h => Or.inl h)) (fun k hk => Or.inr (Nat.le_trans (Nat.le_of_eq z0.symm) hk)) (by have := hl2.out; omega) (by have := hl2.out; omega) ?_
  intro A4 n4 c4 w4 hn4 R4 E4
  have b0 := Lib.hid (E4.out.obj (blk_drew b0.out) (fun e => e))
  have b1 := Lib.hid (E4.out.obj (blk_drew b1.out) (fun e => e))
  have b2 := Lib.hid (E4.out.obj (blk_drew b2.out) (fun e => e))
  have E5 : Hid (Ext Non w w4) := E0.out.drew.trans0 E4.out
  have f00 := blk_cell b0.out 0
  have f01 := blk_cell b0.out 1
  have f02 := blk_cell b0.out 2
  have f11 := blk_cell b1.out 1
  have f20 := blk_cell b2.out 0
  have f21 := blk_cell b2.out 1
  have f22 := blk_cell b2.out 2
  simp at f00 f01 f02 f11 f20 f21 f22
  have y02 := blk_frozen b0.out 2
  have y20 := blk_frozen b2.out 0
  have y21 := blk_frozen b2.out 1
  have y22 := blk_frozen b2.out 2
  clear E4 hn4
  refine hK.out _ _ ⟨f02, f11⟩ (fun hS => ?_)
  try simp only [Act.put, List.setIfInBounds_toArray, List.set_cons_zero, List.set_cons_succ]
  refine Last.take_ (i := 12) (N := some 27) (v := .pointer (some ⟨w.heap.size, 2, none⟩)) #[true, true, true, true, true, true, true, true, true, true, true, true, true, false] (by simp only [List.getElem?_toArray, List.getElem?_cons_zero, List.getElem?_cons_succ]; rfl) rfl (by kernel_rfl) (by exact fun _ _ _ h => h) (Or.inl ⟨by rfl, fun W hW => by first | rfl | (try dsimp only at hW); go_simp⟩) hS rfl ?_
  simp only [Act.put, List.setIfInBounds_toArray, List.set_cons_zero, List.set_cons_succ]
  refine Last.last_ (i := 13) (N := none) #[true, true, true, true, true, true, true, true, true, true, true, true, true, true] (by simp only [List.getElem?_toArray, List.getElem?_cons_zero, List.getElem?_cons_succ]; rfl) rfl (by kernel_rfl) (by decide) (fun K hK => ?_)
  go_simp
  refine hK.out _ _ ?_
  try simp only [Act.put, List.setIfInBounds_toArray, List.set_cons_zero, List.set_cons_succ]
  refine Last.done_ (by kernel_rfl) ?_
  go_wp2_with fail
  have hblk : (((((w4.setCell ⟨w.heap.size, 2, none⟩ (.slice A4 n4 c4)).setCell ⟨w.heap.size + 1 + 1, 0, none⟩ (.slice A0 n0 c0)).setCell ⟨w.heap.size + 1 + 1, 1, none⟩ (.slice A1 n1 c1)).setCell ⟨w.heap.size + 1 + 1, 2, none⟩ (.slice A4 n4 c4))).heap[w.heap.size + 1 + 1]? = some (.cells #[.slice A0 n0 c0, .slice A1 n1 c1, (.slice A4 n4 c4)] 54 (0, 0)) := by
    have h := blk_set (blk_set (blk_set (blk_far b2.out (p := ⟨w.heap.size, 2, none⟩) (by simp only []; omega) (.slice A4 n4 c4)) 0 (.slice A0 n0 c0)) 1 (.slice A1 n1 c1)) 2 (.slice A4 n4 c4)
    simpa using h
  (try simp only [Exit.inBlock, Exit.then])
  refine bodyPost_ret (results_cell_row rfl _ _ (w.heap.size + 1 + 1) 54 #[.slice A0 n0 c0, .slice A1 n1 c1, (.slice A4 n4 c4)] (0, 0) _ rfl hblk Try.underlying54 rfl (by kernel_rfl)) rfl ?_
  have EF : Ext Non w ((((w4.setCell ⟨w.heap.size, 2, none⟩ (.slice A4 n4 c4)).setCell ⟨w.heap.size + 1 + 1, 0, none⟩ (.slice A0 n0 c0)).setCell ⟨w.heap.size + 1 + 1, 1, none⟩ (.slice A1 n1 c1)).setCell ⟨w.heap.size + 1 + 1, 2, none⟩ (.slice A4 n4 c4)) :=
    (((E5.out.setNew (by omega) _).setNew (by omega) _).setNew (by omega) _).setNew (by omega) _
  have EM : Ext (fun k => w.heap.size ≤ k ∧ k < w.heap.size + 3) w4 ((((w4.setCell ⟨w.heap.size, 2, none⟩ (.slice A4 n4 c4)).setCell ⟨w.heap.size + 1 + 1, 0, none⟩ (.slice A0 n0 c0)).setCell ⟨w.heap.size + 1 + 1, 1, none⟩ (.slice A1 n1 c1)).setCell ⟨w.heap.size + 1 + 1, 2, none⟩ (.slice A4 n4 c4)) :=
    ((((Ext.refl _ w4).setCell (fun _ => by simp only []; omega) _).setCell (fun _ => by simp only []; omega) _).setCell (fun _ => by simp only []; omega) _).setCell (fun _ => by simp only []; omega) _
  refine ⟨_, _, _, _, _, _, _, _, _, rfl, ?_, EF⟩
  rw [hd.out]
  exact ⟨HH.out.1.ext0 EF, HH.out.2.1.ext0 EF, (R4.out.ext EM (fun k hk _ hM => by have h1 : (ok k ∧ k < w.heap.size) ∨ w.heap.size + 3 ≤ k := hk; have h2 : w.heap.size ≤ k ∧ k < w.heap.size + 3 := hM; omega)).mono (fun k hk => hk.elim (fun h => h.1) (fun h => HF.out k (by omega)))⟩

theorem pdoes3 {w : World} {ok : Nat → Prop} {A0 A1 A2 A3 : Option Addr} {n0 n1 n2 n3 c0 c1 c2 c3 : Nat} {p : Plate} {a : DAct}
    (H : PlateRd w ok (.slice A0 n0 c0) (.slice A1 n1 c1) (.slice A2 n2 c2) p) (hk : a.kind = 3) :
    Calls Try.prog 48 #[.agg #[.slice A0 n0 c0, .slice A1 n1 c1, .slice A2 n2 c2], .agg #[.int .i64 a.kind, .slice A3 n3 c3]] w (PlatePost ok (p.does a) w) := by
  have HH := Lib.hid H
  have hd : Hid (p.does a = ⟨p.s0, p.s1, []⟩) := by
    show _ = _
    unfold Plate.does
    rw [if_neg (by omega), if_pos hk]
  rw [hk]
  clear H hk
  obtain ⟨W0, hW, b0, b1, b2, e0, z0⟩ := boxes3 w (.cells #[.slice A0 n0 c0, .slice A1 n1 c1, .slice A2 n2 c2] 54) (.cells #[.int .i64 3, .slice A3 n3 c3] 74) (.cells #[.slice none 0 0, .slice none 0 0, .slice none 0 0] 54)
  have f00 := blk_cell b0 0
  have f01 := blk_cell b0 1
  have f02 := blk_cell b0 2
  have f10 := blk_cell b1 0
  have f11 := blk_cell b1 1
  have f20 := blk_cell b2 0
  have f21 := blk_cell b2 1
  have f22 := blk_cell b2 2
  simp at f00 f01 f02 f10 f11 f20 f21 f22
  have y02 := blk_frozen b0 2
  have y20 := blk_frozen b2 0
  have y21 := blk_frozen b2 1
  have y22 := blk_frozen b2 2
  have E0 := Lib.hid e0
  have b2 := Lib.hid b2
  clear e0 z0 b0 b1
  go_enter Try.func48, Try.ntmps48
  go_wp2_with fail
  clear hW
  have hblk : (((((W0.setCell ⟨w.heap.size, 2, none⟩ (.slice none 0 0)).setCell ⟨w.heap.size + 1 + 1, 0, none⟩ (.slice A0 n0 c0)).setCell ⟨w.heap.size + 1 + 1, 1, none⟩ (.slice A1 n1 c1)).setCell ⟨w.heap.size + 1 + 1, 2, none⟩ (.slice none 0 0))).heap[w.heap.size + 1 + 1]? = some (.cells #[.slice A0 n0 c0, .slice A1 n1 c1, (.slice none 0 0)] 54 (0, 0)) := by
    have h := blk_set (blk_set (blk_set (blk_far b2.out (p := ⟨w.heap.size, 2, none⟩) (by simp only []; omega) (.slice none 0 0)) 0 (.slice A0 n0 c0)) 1 (.slice A1 n1 c1)) 2 (.slice none 0 0)
    simpa using h
  (try simp only [Exit.inBlock, Exit.then])
  refine bodyPost_ret (results_cell_row rfl _ _ (w.heap.size + 1 + 1) 54 #[.slice A0 n0 c0, .slice A1 n1 c1, (.slice none 0 0)] (0, 0) _ rfl hblk Try.underlying54 rfl (by kernel_rfl)) rfl ?_
  have EF : Ext Non w ((((W0.setCell ⟨w.heap.size, 2, none⟩ (.slice none 0 0)).setCell ⟨w.heap.size + 1 + 1, 0, none⟩ (.slice A0 n0 c0)).setCell ⟨w.heap.size + 1 + 1, 1, none⟩ (.slice A1 n1 c1)).setCell ⟨w.heap.size + 1 + 1, 2, none⟩ (.slice none 0 0)) :=
    (((E0.out.setNew (by omega) _).setNew (by omega) _).setNew (by omega) _).setNew (by omega) _
  refine ⟨_, _, _, _, _, _, _, _, _, rfl, ?_, EF⟩
  rw [hd.out]
  exact ⟨HH.out.1.ext0 EF, HH.out.2.1.ext0 EF, Rd.nil _ _ _⟩
end Go.Proofs.Ytpmncppfopbaaaa
