/- An act. -/
import Derived.Test.YtpmncppfopbaaaaB6
namespace Go.Proofs.Ytpmncppfopbaaaa
open Go.RowKit Go.TM

def _root_.Go.TM.Dk.withNow (d : Dk) (p : Plate) : Dk := ⟨p, d.kept, d.wait, d.room, d.off, d.left, d.keep, d.tear⟩
theorem DiskAt.now3 {w : World} {ok : Nat → Prop} {g : Nat} {d : Dk} {p : Plate} {D0 D1 D2 : Value} (h : DiskAt w ok g d) (hg : ¬ ok g) (hp : PlateRd w ok D0 D1 D2 p) :
    DiskAt (((w.setCell ⟨g, 0, none⟩ D0).setCell ⟨g, 1, none⟩ D1).setCell ⟨g, 2, none⟩ D2) ok g (d.withNow p) := by
  obtain ⟨a0, a1, a2, b0, b1, b2, wv, hb, r0, r1, r2, r3, r4, r5, r6⟩ := h
  refine DiskAt.mk' (w := w) (a0 := D0) (a1 := D1) (a2 := D2) (b0 := b0) (b1 := b1) (b2 := b2) (wv := wv) ?_ hg ?_ hp ⟨r3, r4, r5⟩ r6
  · exact (((Ext.refl _ w).og 0 D0).og 1 D1).og 2 D2
  · have h := blk_set (blk_set (blk_set hb 0 D0) 1 D1) 2 D2
    simpa [Dk.withNow] using h
theorem DiskAt.wait1 {w : World} {ok : Nat → Prop} {g : Nat} {d : Dk} {a : DAct} {v : Value} (h : DiskAt w ok g (d.withNow (d.now.does a))) (hg : ¬ ok g) (hp : Rd actK w ok v (d.wait ++ [a])) :
    DiskAt (w.setCell ⟨g, 6, none⟩ v) ok g (d.acted a) := by
  obtain ⟨a0, a1, a2, b0, b1, b2, wv, hb, r0, r1, r2, r3, r4, r5, r6⟩ := h
  refine DiskAt.mk' (w := w) (a0 := a0) (a1 := a1) (a2 := a2) (b0 := b0) (b1 := b1) (b2 := b2) (wv := v) ((Ext.refl _ w).og 6 v) hg ?_ ⟨r0, r1, r2⟩ ⟨r3, r4, r5⟩ hp
  have h := blk_set hb 6 v
  simpa [Dk.acted, Dk.withNow] using h
set_option maxHeartbeats 1000000 in
theorem do_calls {w : World} {ok : Nat → Prop} {g : Nat} {d : Dk} {a : DAct} {A3 : Option Addr} {n3 c3 : Nat} (H : DiskAt w ok g d) (hG : d.Good) (hf : ∀ k, w.heap.size ≤ k → ok k) (hg : ¬ ok g) (hab : d.able = 0)
    (K : Rd Kd.u8 w ok (.slice A3 n3 c3) a.b) (hk : 0 ≤ a.kind ∧ a.kind ≤ 3) (hfit : ((d.now.does a).used : Int) ≤ d.room) (hwl : d.wait.length ≤ 100000000) :
    Calls Try.prog 51 #[.pointer (some ⟨g, 0, none⟩), .agg #[.int .i64 a.kind, .slice A3 n3 c3]] w (DPost ok g (d.act a) w) := by
  have HH := Lib.hid H
  have HF := Lib.hid hf
  have HGG := Lib.hid hg
  have HWL := Lib.hid hwl
  have HAB : Hid ((d.acted a).able = 0) := hab
  have HGA := Lib.hid (hG.acted hk hfit)
  have HKD := Lib.hid hk
  have HTL : Hid (a.kind = 2 → d.now.tape.length + a.b.length ≤ 140737488355328) := fun h => by
    have h1 := Plate.does_tape (p := d.now) h
    have h2 := hG.room
    omega
  obtain ⟨A0, n0, c0, A1, n1, c1, A2, n2, c2, B0, m0, d0, B1, m1, d1, B2, m2, d2, Aw, nw, cw, hb, hp0, -, -, -⟩ := H.open
  have eA : Ext Non w (w.alloc (.cells #[.int .i64 a.kind, .slice A3 n3 c3] 74)).drew := ((Ext.refl Non w).alloc _).drew
  have E1 := Lib.hid eA
  have HD1 := Lib.hid (H.ext eA)
  have HP := Lib.hid (And.intro (hp0.1.ext0 eA) (And.intro (hp0.2.1.ext0 eA) (hp0.2.2.ext0 eA)))
  have HV := Lib.hid (K.ext0 eA)
  have HF1 := Lib.hid (fun k (hk : (w.alloc (.cells #[.int .i64 a.kind, .slice A3 n3 c3] 74)).drew.heap.size ≤ k) => hf k (Nat.le_trans eA.size hk))
  have BG := Lib.hid (eA.obj hb (fun e => e))
  have BK := Lib.hid (heap_alloc_new w (.cells #[.int .i64 a.kind, .slice A3 n3 c3] 74))
  have h0 := (eA.cell (blk_cell hb 0) (fun e => e))
  have h1 := (eA.cell (blk_cell hb 1) (fun e => e))
  have h2 := (eA.cell (blk_cell hb 2) (fun e => e))
  have h0 : (w.alloc (.cells #[.int .i64 a.kind, .slice A3 n3 c3] 74)).cell? ⟨g, 0, none⟩ = some (.slice A0 n0 c0) := h0
  have h1 : (w.alloc (.cells #[.int .i64 a.kind, .slice A3 n3 c3] 74)).cell? ⟨g, 1, none⟩ = some (.slice A1 n1 c1) := h1
  have h2 : (w.alloc (.cells #[.int .i64 a.kind, .slice A3 n3 c3] 74)).cell? ⟨g, 2, none⟩ = some (.slice A2 n2 c2) := h2
  have hgs := blk_lt hb
  clear H K hf hg hk hfit hwl hab hG hb hp0 eA
  generalize hWA : w.alloc (.cells #[.int .i64 a.kind, .slice A3 n3 c3] 74) = WA at E1 HD1 HP HV HF1 BG BK h0 h1 h2
  have k0 : WA.cell? ⟨w.heap.size, 0, none⟩ = some (.int .i64 a.kind) := blk_cell BK.out 0
  have k1 : WA.cell? ⟨w.heap.size, 1, none⟩ = some (.slice A3 n3 c3) := blk_cell BK.out 1
  go_enter Try.func51, Try.ntmps51
  go_wp2_with fail
  (try rw [hWA])
  clear hWA
  refine Last.start_ (S := fun W => W.cell? ⟨g, 0, none⟩ = some (.slice A0 n0 c0) ∧ W.cell? ⟨g, 1, none⟩ = some (.slice A1 n1 c1) ∧ W.cell? ⟨g, 2, none⟩ = some (.slice A2 n2 c2) ∧ W.cell? ⟨w.heap.size, 0, none⟩ = some (.int .i64 a.kind) ∧ W.cell? ⟨w.heap.size, 1, none⟩ = some (.slice A3 n3 c3)) (ds := [9]) #[false, false, false, false, false, false, false, false, false, false] (by kernel_rfl) (by rfl) (by rfl) ⟨h0, h1, h2, k0, k1⟩ (fun hS => ?_)
  refine Last.take_ (i := 0) (N := some 5) (v := .pointer (some ⟨g, 0, none⟩)) #[true, false, false, false, false, false, false, false, false, false] (by simp only [List.getElem?_toArray, List.getElem?_cons_zero]; rfl) rfl (by kernel_rfl) (by exact fun _ _ _ h => h) (Or.inl ⟨by rfl, fun W hW => by first | rfl | (try dsimp only at hW); go_simp⟩) hS rfl ?_
  simp only [Act.put, List.setIfInBounds_toArray, List.set_cons_zero, List.set_cons_succ]
  refine Last.take_ (i := 1) (N := some 6) (v := .pointer (some ⟨g, 0, none⟩)) #[true, true, false, false, false, false, false, false, false, false] (by simp only [List.getElem?_toArray, List.getElem?_cons_zero, List.getElem?_cons_succ]; rfl) rfl (by kernel_rfl) (by exact fun _ _ _ h => h) (Or.inl ⟨by rfl, fun W hW => by first | rfl | (try dsimp only at hW); go_simp⟩) hS rfl ?_
  simp only [Act.put, List.setIfInBounds_toArray, List.set_cons_zero, List.set_cons_succ]
  refine Last.take_ (i := 2) (N := some 7) (v := .pointer (some ⟨g, 0, none⟩)) #[true, true, true, false, false, false, false, false, false, false] (by simp only [List.getElem?_toArray, List.getElem?_cons_zero, List.getElem?_cons_succ]; rfl) rfl (by kernel_rfl) (by exact fun _ _ _ h => h) (Or.inl ⟨by rfl, fun W hW => by first | rfl | (try dsimp only at hW); go_simp⟩) hS rfl ?_
  simp only [Act.put, List.setIfInBounds_toArray, List.set_cons_zero, List.set_cons_succ]
  refine Last.take_ (i := 3) (N := some 8) (v := .pointer (some ⟨g, 0, none⟩)) #[true, true, true, true, false, false, false, false, false, false] (by simp only [List.getElem?_toArray, List.getElem?_cons_zero, List.getElem?_cons_succ]; rfl) rfl (by kernel_rfl) (by exact fun _ _ _ h => h) (Or.inl ⟨by rfl, fun W hW => by first | rfl | (try dsimp only at hW); go_simp⟩) hS rfl ?_
  simp only [Act.put, List.setIfInBounds_toArray, List.set_cons_zero, List.set_cons_succ]
  refine Last.take_ (i := 4) (N := some 9) (v := .agg #[.slice A0 n0 c0, .slice A1 n1 c1, .slice A2 n2 c2]) #[true, true, true, true, true, false, false, false, false, false] (by simp only [List.getElem?_toArray, List.getElem?_cons_zero, List.getElem?_cons_succ]; rfl) rfl (by kernel_rfl) (by exact fun _ _ _ h => h) (Or.inl ⟨by rfl, fun W hW => by first | rfl | (try dsimp only at hW); go_simp⟩) hS rfl ?_
  simp only [Act.put, List.setIfInBounds_toArray, List.set_cons_zero, List.set_cons_succ]
  refine Last.take_ (i := 5) (N := some 10) (v := .agg #[.int .i64 a.kind, .slice A3 n3 c3]) #[true, true, true, true, true, true, false, false, false, false] (by simp only [List.getElem?_toArray, List.getElem?_cons_zero, List.getElem?_cons_succ]; rfl) rfl (by kernel_rfl) (by exact fun _ _ _ h => h) (Or.inl ⟨by rfl, fun W hW => by first | rfl | (try dsimp only at hW); go_simp⟩) hS rfl ?_
  simp only [Act.put, List.setIfInBounds_toArray, List.set_cons_zero, List.set_cons_succ]
  refine Last.one_ (i := 6) (N := some 11) #[true, true, true, true, true, true, true, false, false, false] (by simp only [List.getElem?_toArray, List.getElem?_cons_zero, List.getElem?_cons_succ]; rfl) rfl (by kernel_rfl) (by decide) (fun K hK => ?_)
  refine Last.goes_ Try.func48 (by kernel_rfl) rfl #[.agg #[.slice A0 n0 c0, .slice A1 n1 c1, .slice A2 n2 c2], .agg #[.int .i64 a.kind, .slice A3 n3 c3]] (by rfl) rfl rfl (by simp [Act.eval]) ?_
  refine (pdoes_calls HP.out HV.out HKD.out HF1.out HTL.out).mono ?_
  rintro e w2 ⟨D0, l0, e0, D1, l1, e1, D2, l2, e2, rfl, hp, he⟩
  have h0 := he.out.cell h0 (fun e => e)
  have h1 := he.out.cell h1 (fun e => e)
  have h2 := he.out.cell h2 (fun e => e)
  have k0 := he.out.cell k0 (fun e => e)
  have k1 := he.out.cell k1 (fun e => e)
  have BG2 := Lib.hid (he.out.obj BG.out (fun e => e))
  have BK2 := Lib.hid (he.out.obj BK.out (fun e => e))
  have y0 := blk_frozen BG2.out 0
  have y1 := blk_frozen BG2.out 1
  have y2 := blk_frozen BG2.out 2
  have HD2 := Lib.hid (HD1.out.ext he.out)
  have HV2 := Lib.hid (HV.out.ext0 he.out)
  have E2 := Lib.hid (E1.out.trans0 he.out)
  clear he
  refine ⟨_, rfl, ?_⟩
  refine hK.out _ _ ⟨h0, h1, h2, k0, k1⟩ (fun hS => ?_)
  try simp only [Act.put, List.setIfInBounds_toArray, List.set_cons_zero, List.set_cons_succ]
  refine Last.take_ (i := 7) (N := some 12) (v := .pointer (some ⟨g, 0, none⟩)) #[true, true, true, true, true, true, true, true, false, false] (by simp only [List.getElem?_toArray, List.getElem?_cons_zero, List.getElem?_cons_succ]; rfl) rfl (by kernel_rfl) (by exact fun _ _ _ h => h) (Or.inl ⟨by rfl, fun W hW => by first | rfl | (try dsimp only at hW); go_simp⟩) hS rfl ?_
  simp only [Act.put, List.setIfInBounds_toArray, List.set_cons_zero, List.set_cons_succ]
  refine Last.take_ (i := 8) (N := some 13) (v := .pointer (some ⟨g, 0, none⟩)) #[true, true, true, true, true, true, true, true, true, false] (by simp only [List.getElem?_toArray, List.getElem?_cons_zero, List.getElem?_cons_succ]; rfl) rfl (by kernel_rfl) (by exact fun _ _ _ h => h) (Or.inl ⟨by rfl, fun W hW => by first | rfl | (try dsimp only at hW); go_simp⟩) hS rfl ?_
  simp only [Act.put, List.setIfInBounds_toArray, List.set_cons_zero, List.set_cons_succ]
  refine Last.last_ (i := 9) (N := none) #[true, true, true, true, true, true, true, true, true, true] (by simp only [List.getElem?_toArray, List.getElem?_cons_zero, List.getElem?_cons_succ]; rfl) rfl (by kernel_rfl) (by decide) (fun K hK => ?_)
  go_simp
  refine hK.out _ _ ?_
  try simp only [Act.put, List.setIfInBounds_toArray, List.set_cons_zero, List.set_cons_succ]
  refine Last.done_ (by kernel_rfl) ?_
  have HD3 := Lib.hid (HD2.out.now3 HGG.out hp.out)
  have E3 := Lib.hid (((E2.out.mono (M' := Only g) (fun _ _ e => e.elim)).og 0 (.slice D0 l0 e0)).og 1 (.slice D1 l1 e1) |>.og 2 (.slice D2 l2 e2))
  have EM : Ext (Only g) w2 (((w2.setCell ⟨g, 0, none⟩ (.slice D0 l0 e0)).setCell ⟨g, 1, none⟩ (.slice D1 l1 e1)).setCell ⟨g, 2, none⟩ (.slice D2 l2 e2)) := (((Ext.refl _ w2).og 0 _).og 1 _).og 2 _
  have HV3 := Lib.hid (HV2.out.ext EM (fun k hk _ e => HGG.out (by have e' : k = g := e; rw [← e']; exact hk)))
  have BK3 := EM.obj BK2.out (fun e => by
    have e' : w.heap.size = g := e
    omega)
  generalize ((w2.setCell ⟨g, 0, none⟩ (.slice D0 l0 e0)).setCell ⟨g, 1, none⟩ (.slice D1 l1 e1)).setCell ⟨g, 2, none⟩ (.slice D2 l2 e2) = w3 at HD3 E3 HV3 BK3 ⊢
  clear EM h0 h1 h2 k0 k1 y0 y1 y2 hS
  obtain ⟨_, _, _, _, _, _, _, _, _, _, _, _, _, _, _, _, _, _, Aw, nw, cw, hb, -, -, hw, hnw⟩ := HD3.out.open
  replace hw : Rd actK w3 ok (.slice Aw nw cw) d.wait := hw
  replace hnw : nw = d.wait.length := hnw
  obtain ⟨_, cw', he, hcw, hmw⟩ := hw.slice
  simp only [Value.slice.injEq] at he
  obtain ⟨rfl, -, rfl⟩ := he
  have h6 : w3.cell? ⟨g, 6, none⟩ = some (.slice Aw nw cw) := blk_cell hb 6
  have h6' := h6
  have k0 : w3.cell? ⟨w.heap.size, 0, none⟩ = some (.int .i64 a.kind) := blk_cell BK3 0
  have k1 : w3.cell? ⟨w.heap.size, 1, none⟩ = some (.slice A3 n3 c3) := blk_cell BK3 1
  have k0' := k0
  have k1' := k1
  have HW := Lib.hid hw
  have BG3 := Lib.hid hb
  have HNW := Lib.hid hnw
  have q1 : (0 : Int) ≤ (nw : Int) := by omega
  have q2 : (nw : Int) ≤ (cw : Int) := by omega
  have q3 : max (nw : Int) 0 = (nw : Int) := by omega
  have hgs3 := blk_lt hb
  clear hb hw hnw hcw hmw BK3
  go_wp2_with fail
  refine Last.start_ (S := fun W => W.cell? ⟨g, 6, none⟩ = some (.slice Aw nw cw) ∧ W.cell? ⟨w.heap.size, 0, none⟩ = some (.int .i64 a.kind) ∧ W.cell? ⟨w.heap.size, 1, none⟩ = some (.slice A3 n3 c3)) (ds := [21]) #[false, false, false, false, false, false, false, false, false, false, false, false, false, false, false, false, false, false, false, false, false, false] (by kernel_rfl) (by rfl) (by rfl) ⟨h6, k0, k1⟩ (fun hS => ?_)
  refine Last.take_ (i := 0) (N := some 14) (v := .pointer (some ⟨g, 0, none⟩)) #[true, false, false, false, false, false, false, false, false, false, false, false, false, false, false, false, false, false, false, false, false, false] (by simp only [List.getElem?_toArray, List.getElem?_cons_zero]; rfl) rfl (by kernel_rfl) (by exact fun _ _ _ h => h) (Or.inl ⟨by rfl, fun W hW => by first | rfl | (try dsimp only at hW); go_simp⟩) hS rfl ?_
  simp only [Act.put, List.setIfInBounds_toArray, List.set_cons_zero, List.set_cons_succ]
  refine Last.take_ (i := 1) (N := some 15) (v := .pointer (some ⟨g, 0, none⟩)) #[true, true, false, false, false, false, false, false, false, false, false, false, false, false, false, false, false, false, false, false, false, false] (by simp only [List.getElem?_toArray, List.getElem?_cons_zero, List.getElem?_cons_succ]; rfl) rfl (by kernel_rfl) (by exact fun _ _ _ h => h) (Or.inl ⟨by rfl, fun W hW => by first | rfl | (try dsimp only at hW); go_simp⟩) hS rfl ?_
  simp only [Act.put, List.setIfInBounds_toArray, List.set_cons_zero, List.set_cons_succ]
  refine Last.take_ (i := 2) (N := some 16) (v := .pointer (some ⟨g, 0, none⟩)) #[true, true, true, false, false, false, false, false, false, false, false, false, false, false, false, false, false, false, false, false, false, false] (by simp only [List.getElem?_toArray, List.getElem?_cons_zero, List.getElem?_cons_succ]; rfl) rfl (by kernel_rfl) (by exact fun _ _ _ h => h) (Or.inl ⟨by rfl, fun W hW => by first | rfl | (try dsimp only at hW); go_simp⟩) hS rfl ?_
  simp only [Act.put, List.setIfInBounds_toArray, List.set_cons_zero, List.set_cons_succ]
  refine Last.take_ (i := 3) (N := some 17) (v := .pointer (some ⟨g, 6, none⟩)) #[true, true, true, true, false, false, false, false, false, false, false, false, false, false, false, false, false, false, false, false, false, false] (by simp only [List.getElem?_toArray, List.getElem?_cons_zero, List.getElem?_cons_succ]; rfl) rfl (by kernel_rfl) (by exact fun _ _ _ h => h) (Or.inl ⟨by rfl, fun W hW => by first | rfl | (try dsimp only at hW); go_simp⟩) hS rfl ?_
  simp only [Act.put, List.setIfInBounds_toArray, List.set_cons_zero, List.set_cons_succ]
  refine Last.take_ (i := 4) (N := some 18) (v := .slice Aw nw cw) #[true, true, true, true, true, false, false, false, false, false, false, false, false, false, false, false, false, false, false, false, false, false] (by simp only [List.getElem?_toArray, List.getElem?_cons_zero, List.getElem?_cons_succ]; rfl) rfl (by kernel_rfl) (by exact fun _ _ _ h => h) (Or.inl ⟨by rfl, fun W hW => by first | rfl | (try dsimp only at hW); go_simp⟩) hS rfl ?_
  simp only [Act.put, List.setIfInBounds_toArray, List.set_cons_zero, List.set_cons_succ]
  refine Last.take_ (i := 5) (N := some 19) (v := .pointer (some ⟨g, 0, none⟩)) #[true, true, true, true, true, true, false, false, false, false, false, false, false, false, false, false, false, false, false, false, false, false] (by simp only [List.getElem?_toArray, List.getElem?_cons_zero, List.getElem?_cons_succ]; rfl) rfl (by kernel_rfl) (by exact fun _ _ _ h => h) (Or.inl ⟨by rfl, fun W hW => by first | rfl | (try dsimp only at hW); go_simp⟩) hS rfl ?_
  simp only [Act.put, List.setIfInBounds_toArray, List.set_cons_zero, List.set_cons_succ]
  refine Last.take_ (i := 6) (N := some 20) (v := .pointer (some ⟨g, 0, none⟩)) #[true, true, true, true, true, true, true, false, false, false, false, false, false, false, false, false, false, false, false, false, false, false] (by simp only [List.getElem?_toArray, List.getElem?_cons_zero, List.getElem?_cons_succ]; rfl) rfl (by kernel_rfl) (by exact fun _ _ _ h => h) (Or.inl ⟨by rfl, fun W hW => by first | rfl | (try dsimp only at hW); go_simp⟩) hS rfl ?_
  simp only [Act.put, List.setIfInBounds_toArray, List.set_cons_zero, List.set_cons_succ]
  refine Last.take_ (i := 7) (N := some 21) (v := .pointer (some ⟨g, 6, none⟩)) #[true, true, true, true, true, true, true, true, false, false, false, false, false, false, false, false, false, false, false, false, false, false] (by simp only [List.getElem?_toArray, List.getElem?_cons_zero, List.getElem?_cons_succ]; rfl) rfl (by kernel_rfl) (by exact fun _ _ _ h => h) (Or.inl ⟨by rfl, fun W hW => by first | rfl | (try dsimp only at hW); go_simp⟩) hS rfl ?_
  simp only [Act.put, List.setIfInBounds_toArray, List.set_cons_zero, List.set_cons_succ]
  refine Last.take_ (i := 8) (N := some 22) (v := .slice Aw nw cw) #[true, true, true, true, true, true, true, true, true, false, false, false, false, false, false, false, false, false, false, false, false, false] (by simp only [List.getElem?_toArray, List.getElem?_cons_zero, List.getElem?_cons_succ]; rfl) rfl (by kernel_rfl) (by exact fun _ _ _ h => h) (Or.inl ⟨by rfl, fun W hW => by first | rfl | (try dsimp only at hW); go_simp⟩) hS rfl ?_
  simp only [Act.put, List.setIfInBounds_toArray, List.set_cons_zero, List.set_cons_succ]
  refine Last.take_ (i := 9) (N := some 23) (v := .int .i64 (nw : Int)) #[true, true, true, true, true, true, true, true, true, true, false, false, false, false, false, false, false, false, false, false, false, false] (by simp only [List.getElem?_toArray, List.getElem?_cons_zero, List.getElem?_cons_succ]; rfl) rfl (by kernel_rfl) (by exact fun _ _ _ h => h) (Or.inl ⟨by rfl, fun W hW => by first | rfl | (try dsimp only at hW); go_simp⟩) hS rfl ?_
  simp only [Act.put, List.setIfInBounds_toArray, List.set_cons_zero, List.set_cons_succ]
  refine Last.take_ (i := 10) (N := some 24) (v := .pointer (some ⟨g, 0, none⟩)) #[true, true, true, true, true, true, true, true, true, true, true, false, false, false, false, false, false, false, false, false, false, false] (by simp only [List.getElem?_toArray, List.getElem?_cons_zero, List.getElem?_cons_succ]; rfl) rfl (by kernel_rfl) (by exact fun _ _ _ h => h) (Or.inl ⟨by rfl, fun W hW => by first | rfl | (try dsimp only at hW); go_simp⟩) hS rfl ?_
  simp only [Act.put, List.setIfInBounds_toArray, List.set_cons_zero, List.set_cons_succ]
  refine Last.take_ (i := 11) (N := some 25) (v := .pointer (some ⟨g, 0, none⟩)) #[true, true, true, true, true, true, true, true, true, true, true, true, false, false, false, false, false, false, false, false, false, false] (by simp only [List.getElem?_toArray, List.getElem?_cons_zero, List.getElem?_cons_succ]; rfl) rfl (by kernel_rfl) (by exact fun _ _ _ h => h) (Or.inl ⟨by rfl, fun W hW => by first | rfl | (try dsimp only at hW); go_simp⟩) hS rfl ?_
  simp only [Act.put, List.setIfInBounds_toArray, List.set_cons_zero, List.set_cons_succ]
  refine Last.take_ (i := 12) (N := some 26) (v := .pointer (some ⟨g, 6, none⟩)) #[true, true, true, true, true, true, true, true, true, true, true, true, true, false, false, false, false, false, false, false, false, false] (by simp only [List.getElem?_toArray, List.getElem?_cons_zero, List.getElem?_cons_succ]; rfl) rfl (by kernel_rfl) (by exact fun _ _ _ h => h) (Or.inl ⟨by rfl, fun W hW => by first | rfl | (try dsimp only at hW); go_simp⟩) hS rfl ?_
  simp only [Act.put, List.setIfInBounds_toArray, List.set_cons_zero, List.set_cons_succ]
  refine Last.take_ (i := 13) (N := some 27) (v := .slice Aw nw cw) #[true, true, true, true, true, true, true, true, true, true, true, true, true, true, false, false, false, false, false, false, false, false] (by simp only [List.getElem?_toArray, List.getElem?_cons_zero, List.getElem?_cons_succ]; rfl) rfl (by kernel_rfl) (by exact fun _ _ _ h => h) (Or.inl ⟨by rfl, fun W hW => by first | rfl | (try dsimp only at hW); go_simp⟩) hS rfl ?_
  simp only [Act.put, List.setIfInBounds_toArray, List.set_cons_zero, List.set_cons_succ]
  refine Last.take_ (i := 14) (N := some 28) (v := .int .i64 (nw : Int)) #[true, true, true, true, true, true, true, true, true, true, true, true, true, true, true, false, false, false, false, false, false, false] (by simp only [List.getElem?_toArray, List.getElem?_cons_zero, List.getElem?_cons_succ]; rfl) rfl (by kernel_rfl) (by exact fun _ _ _ h => h) (Or.inl ⟨by rfl, fun W hW => by first | rfl | (try dsimp only at hW); go_simp⟩) hS rfl ?_
  simp only [Act.put, List.setIfInBounds_toArray, List.set_cons_zero, List.set_cons_succ]
  refine Last.take_ (i := 15) (N := some 29) (v := .slice Aw nw nw) #[true, true, true, true, true, true, true, true, true, true, true, true, true, true, true, true, false, false, false, false, false, false] (by simp only [List.getElem?_toArray, List.getElem?_cons_zero, List.getElem?_cons_succ]; rfl) rfl (by kernel_rfl) (by exact fun _ _ _ h => h) (Or.inl ⟨by rfl, fun W hW => by first | rfl | (try dsimp only at hW); go_simp⟩) hS rfl ?_
  simp only [Act.put, List.setIfInBounds_toArray, List.set_cons_zero, List.set_cons_succ]
  refine Last.take_ (i := 16) (N := some 30) (v := .agg #[.int .i64 a.kind, .slice A3 n3 c3]) #[true, true, true, true, true, true, true, true, true, true, true, true, true, true, true, true, true, false, false, false, false, false] (by simp only [List.getElem?_toArray, List.getElem?_cons_zero, List.getElem?_cons_succ]; rfl) rfl (by kernel_rfl) (by exact fun _ _ _ h => h) (Or.inl ⟨by rfl, fun W hW => by first | rfl | (try dsimp only at hW); go_simp⟩) hS rfl ?_
  simp only [Act.put, List.setIfInBounds_toArray, List.set_cons_zero, List.set_cons_succ]
  refine Last.one_ (i := 17) (N := some 31) #[true, true, true, true, true, true, true, true, true, true, true, true, true, true, true, true, true, true, false, false, false, false] (by simp only [List.getElem?_toArray, List.getElem?_cons_zero, List.getElem?_cons_succ]; rfl) rfl (by kernel_rfl) (by decide) (fun K hK => ?_)
  go_simp
  refine hK.out _ _ ⟨((Ext.refl Non w3).drew.alloc _).cell h6' (fun e => e), ((Ext.refl Non w3).drew.alloc _).cell k0' (fun e => e), ((Ext.refl Non w3).drew.alloc _).cell k1' (fun e => e)⟩ (fun hS => ?_)
  try simp only [Act.put, List.setIfInBounds_toArray, List.set_cons_zero, List.set_cons_succ]
  refine Last.one_ (i := 18) (N := some 32) #[true, true, true, true, true, true, true, true, true, true, true, true, true, true, true, true, true, true, true, false, false, false] (by simp only [List.getElem?_toArray, List.getElem?_cons_zero, List.getElem?_cons_succ]; rfl) rfl (by kernel_rfl) (by decide) (fun K hK => ?_)
  refine step_full actK (ok := ok) (A := Aw) (n := nw) (vx := .slice (some ⟨w3.heap.size, 0, none⟩) 1 1) (xs := d.wait) (ys := [a]) (by rfl) _ _ 55 74 _ 32 (by rfl) Try.underlying55 info74 rfl (by decide) (by simp [Act.eval]) (by simp [Act.eval]) (HW.out.full.ext0 ((Ext.refl Non w3).drew.alloc _)) ?_ ?_ ?_ ?_ ?_
  · exact Rd.lit_at (cs := [.int .i64 a.kind, .slice A3 n3 c3]) (e := 74) (fr := (0, 0)) (heap_alloc_new w3.drew _) ⟨_, rfl, HV3.out.ext0 ((Ext.refl Non w3).drew.alloc _)⟩ (HF.out _ (Nat.le_trans E3.out.size (Nat.le_refl _)))
  · exact fun k hk => HF.out k (Nat.le_trans (E3.out.drew.alloc _).size hk)
  · have := HWL.out; simp; omega
  · have := HWL.out; simp; omega
  intro A4 n4 c4 w4 hn4 R4 E4
  have eA : Ext Non w3 w4 := ((Ext.refl Non w3).drew.alloc _).trans0 E4.out
  have h6 := eA.cell h6' (fun e => e)
  have k0 := eA.cell k0' (fun e => e)
  have k1 := eA.cell k1' (fun e => e)
  have y6 := (blk_frozen (eA.obj BG3.out (fun e => e)) 6)
  have HD4 := Lib.hid (HD3.out.ext eA)
  have E5 := Lib.hid (E3.out.trans0 eA)
  clear E4 hn4 eA
  refine hK.out _ _ ⟨h6, k0, k1⟩ (fun hS => ?_)
  try simp only [Act.put, List.setIfInBounds_toArray, List.set_cons_zero, List.set_cons_succ]
  refine Last.take_ (i := 19) (N := some 33) (v := .pointer (some ⟨g, 0, none⟩)) #[true, true, true, true, true, true, true, true, true, true, true, true, true, true, true, true, true, true, true, true, false, false] (by simp only [List.getElem?_toArray, List.getElem?_cons_zero, List.getElem?_cons_succ]; rfl) rfl (by kernel_rfl) (by exact fun _ _ _ h => h) (Or.inl ⟨by rfl, fun W hW => by first | rfl | (try dsimp only at hW); go_simp⟩) hS rfl ?_
  simp only [Act.put, List.setIfInBounds_toArray, List.set_cons_zero, List.set_cons_succ]
  refine Last.take_ (i := 20) (N := some 34) (v := .pointer (some ⟨g, 6, none⟩)) #[true, true, true, true, true, true, true, true, true, true, true, true, true, true, true, true, true, true, true, true, true, false] (by simp only [List.getElem?_toArray, List.getElem?_cons_zero, List.getElem?_cons_succ]; rfl) rfl (by kernel_rfl) (by exact fun _ _ _ h => h) (Or.inl ⟨by rfl, fun W hW => by first | rfl | (try dsimp only at hW); go_simp⟩) hS rfl ?_
  simp only [Act.put, List.setIfInBounds_toArray, List.set_cons_zero, List.set_cons_succ]
  refine Last.last_ (i := 21) (N := none) #[true, true, true, true, true, true, true, true, true, true, true, true, true, true, true, true, true, true, true, true, true, true] (by simp only [List.getElem?_toArray, List.getElem?_cons_zero, List.getElem?_cons_succ]; rfl) rfl (by kernel_rfl) (by decide) (fun K hK => ?_)
  go_simp
  refine hK.out _ _ ?_
  try simp only [Act.put, List.setIfInBounds_toArray, List.set_cons_zero, List.set_cons_succ]
  refine Last.done_ (by kernel_rfl) ?_
  have HD5 := Lib.hid (HD4.out.wait1 HGG.out R4.out)
  have E6 := Lib.hid (E5.out.og 6 (.slice A4 n4 c4))
  generalize w4.setCell ⟨g, 6, none⟩ (.slice A4 n4 c4) = w5 at HD5 E6 ⊢
  clear h6 k0 k1 h6' k0' k1' y6 hS
  have HF5 := Lib.hid (fun k (hk : w5.heap.size ≤ k) => HF.out k (Nat.le_trans E6.out.size hk))
  go_wp2_with fail
  refine (fuse_calls HD5.out HGA.out HF5.out HGG.out HAB.out).mono ?_
  rintro e w6 ⟨rfl, hd, he⟩
  have HD6 := Lib.hid hd
  have E7 := Lib.hid (E6.out.trans he (fun _ _ e => e))
  clear hd he
  cases hr : (d.acted a).fuse.1 with
  | true =>
    have hra : d.act a = (30, (d.acted a).fuse.2) := by unfold Dk.act Dk.told; rw [hr]; rfl
    have HR := Lib.hid hra
    clear hr hra
    go_wp2_with fail
    go_ret
    rw [HR.out]
    exact ⟨rfl, HD6.out, E7.out⟩
  | false =>
    have hra : d.act a = (0, (d.acted a).fuse.2) := by unfold Dk.act Dk.told; rw [hr]; rfl
    have HR := Lib.hid hra
    clear hr hra
    go_wp2_with fail
    go_ret
    rw [HR.out]
    exact ⟨rfl, HD6.out, E7.out⟩
end Go.Proofs.Ytpmncppfopbaaaa
