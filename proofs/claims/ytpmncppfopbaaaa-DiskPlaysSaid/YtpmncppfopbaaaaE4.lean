/- The document's disk: Crash. -/
import Derived.Test.YtpmncppfopbaaaaE3
namespace Go.Proofs.Ytpmncppfopbaaaa
open Go.RowKit Go.TM

theorem RefAt.kept3 {w : World} {ok : Nat → Prop} {g : Nat} {d : Dk} {p : Plate} {D0 D1 D2 : Option Addr} {l0 l1 l2 e0 e1 e2 : Nat} (h : RefAt w ok g d) (hg : ¬ ok g) (hp : PlateRd w ok (.slice D0 l0 e0) (.slice D1 l1 e1) (.slice D2 l2 e2) p) :
    RefAt (((w.setCell ⟨g, 1, none⟩ (.slice D0 l0 e0)).setCell ⟨g, 2, none⟩ (.slice D1 l1 e1)).setCell ⟨g, 3, none⟩ (.slice D2 l2 e2)) ok g (d.withKept p) := by
  obtain ⟨B0, m0, d0, B1, m1, d1, B2, m2, d2, Aw, nw, cw, hb, -, hr⟩ := h
  refine RefAt.mk' (w := w) (B0 := D0) (m0 := l0) (d0 := e0) (B1 := D1) (m1 := l1) (d1 := e1) (B2 := D2) (m2 := l2) (d2 := e2) (Aw := Aw) (nw := nw) (cw := cw) ((((Ext.refl _ w).og 1 _).og 2 _).og 3 _) hg ?_ hp hr
  have h := blk_set (blk_set (blk_set hb 1 (.slice D0 l0 e0)) 2 (.slice D1 l1 e1)) 3 (.slice D2 l2 e2)
  simpa [Dk.withKept] using h
theorem RefAt.rdown {w : World} {ok : Nat → Prop} {g : Nat} {d : Dk} {p : Plate} (keep tear : Int) (h : RefAt w ok g (d.withKept p)) (hg : ¬ ok g) (hp : p = d.fell keep tear) :
    RefAt (((w.setCell ⟨g, 4, none⟩ (.slice none 0 0)).setCell ⟨g, 5, none⟩ (.bool true)).setCell ⟨g, 6, none⟩ (.int .i64 0)) ok g (d.down keep tear) ∧
    Ext (Only g) w (((w.setCell ⟨g, 4, none⟩ (.slice none 0 0)).setCell ⟨g, 5, none⟩ (.bool true)).setCell ⟨g, 6, none⟩ (.int .i64 0)) := by
  have hE := (((Ext.refl (Only g) w).og 4 (.slice none 0 0)).og 5 (.bool true)).og 6 (.int .i64 0)
  refine ⟨?_, hE⟩
  obtain ⟨B0, m0, d0, B1, m1, d1, B2, m2, d2, Aw, nw, cw, hb, hpl, hr⟩ := h
  refine RefAt.mk' (w := w) (B0 := B0) (m0 := m0) (d0 := d0) (B1 := B1) (m1 := m1) (d1 := d1) (B2 := B2) (m2 := m2) (d2 := d2) (Aw := none) (nw := 0) (cw := 0) hE hg ?_ ?_ (Rd.nil _ _ _)
  · have h := blk_set (blk_set (blk_set hb 4 (.slice none 0 0)) 5 (.bool true)) 6 (.int .i64 0)
    simpa [Dk.down, Dk.withKept] using h
  · show PlateRd w ok _ _ _ (d.fell keep tear)
    rw [← hp]
    exact hpl
def RInv (w : World) (ok : Nat → Prop) (g : Nat) (d : Dk) (j : Nat) (wr : World) : Prop := Hid (RefAt wr ok g (d.withKept (d.kept.all (d.wait.take j)))) ∧ Hid (Ext (Only g) w wr)
set_option maxHeartbeats 4000000 in
theorem rcrash_up {w : World} {ok : Nat → Prop} {g : Nat} {d : Dk} (L : RLive w ok g d) (hoff : d.off = false) (keep tear : Int) :
    Calls Try.prog 36 #[.pointer (some ⟨g, 0, none⟩), .int .i64 keep, .int .i64 tear] w (RPost ok g (0, d.down keep tear) w) := by
  have HH := Lib.hid L.at_
  have HG := Lib.hid L.good
  have HF := Lib.hid L.fresh
  have HGG := Lib.hid L.out
  obtain ⟨e0, e5, -, -, -, -, hgs⟩ := L.at_.flat
  rw [hoff] at e5
  obtain ⟨B0, m0, d0, B1, m1, d1, B2, m2, d2, Aw, nw, cw, hb, -, hw⟩ := L.at_
  have e4 : w.cell? ⟨g, 4, none⟩ = some (.slice Aw nw cw) := blk_cell hb 4
  obtain ⟨hnw, hmw⟩ := rd_len hw
  have hup : (d.upto keep : Int) = max 0 (min keep (nw : Int)) := by
    rw [hnw]
    unfold Dk.upto
    omega
  have hun : d.upto keep ≤ nw := by rw [hnw]; exact d.upto_le keep
  obtain ⟨N, hN⟩ : ∃ N : Nat, N = d.upto keep := ⟨_, rfl⟩
  rw [← hN] at hup hun
  have q0 : (nw : Int) ≤ 9223372036854775807 := by omega
  have HUP := Lib.hid hup
  have HUN := Lib.hid hun
  have HNW := Lib.hid hnw
  have HN := Lib.hid hN
  have HW := Lib.hid hw
  clear L hb hw hnw hmw hN hup hun hoff e0
  go_enter Try.func36, Try.ntmps36
  go_wp2_with fail
  clear e4 e5
  go_loopw [18] (fun i wr => ∃ j : Nat, j ≤ N ∧ i = .int .i64 j ∧ RInv w ok g d j wr) (fun i _ => N - (intOf i).toNat)
  case atStart => exact ⟨0, by omega, rfl, HH.out, Ext.refl _ _⟩
  case round =>
    obtain ⟨j, hj, rfl, HI, HEr⟩ := hrel
    have hx0 : ∀ k, ok k → k < w.heap.size → ¬ Only g k := fun k hk _ e => HGG.out (by have e' : k = g := e; rw [← e']; exact hk)
    have HX0 := Lib.hid hx0
    have hf1 : ∀ k, wr.heap.size ≤ k → ok k := fun k hk => HF.out k (Nat.le_trans HEr.out.size hk)
    have HF0 := Lib.hid hf1
    clear hx0 hf1
    have hnl := HNW.out
    have hun := HUN.out
    have hup := HUP.out
    cases hx : d.wait[j]? with
    | none =>
      have hle := List.getElem?_eq_none_iff.1 hx
      obtain rfl : N = j := by omega
      have q7 : ¬ N < nw := by omega
      have hfell : d.fell keep tear = d.kept.all (d.wait.take N) := by
        unfold Dk.fell
        rw [← HN.out, hx]
      have HFE := Lib.hid hfell
      have HD3 := HI
      have E3 := HEr
      obtain ⟨w3, hw3⟩ : ∃ w3, w3 = wr := ⟨_, rfl⟩
      rw [← hw3] at HD3 E3 ⊢
      clear hx hle hnl hun hup hfell hw3
      obtain ⟨_, _, _, _, _, _, _, _, _, Aw3, nw3, cw3, hb, -, -⟩ := id HD3.out
      have h4 : w3.cell? ⟨g, 4, none⟩ = some (.slice Aw3 nw3 cw3) := blk_cell hb 4
      have h5 := blk_cell hb 5
      have h6 := blk_cell hb 6
      simp at h5 h6
      have y4 := blk_frozen hb 4
      have y5 := blk_frozen hb 5
      have y6 := blk_frozen hb 6
      have hgs3 := blk_lt hb
      have hd := HD3.out.rdown keep tear HGG.out HFE.out.symm
      have HD4 := Lib.hid hd.1
      have E4 := Lib.hid (E3.out.trans hd.2 (fun _ _ e => e))
      clear hb hd
      go_wp2_with fail
      go_ret
      exact ⟨rfl, HD4.out, E4.out⟩
    | some a =>
      have hlt2 := (List.getElem?_eq_some_iff.1 hx).1
      have q7 : j < nw := by omega
      obtain ⟨ga, off, cs, rfl, hga, hgl, hk, hcs⟩ := (HW.out.ext HEr.out HX0.out).at_ hx
      obtain ⟨v, rfl, hv⟩ := hk
      obtain ⟨A3, n3, c3, rfl, -⟩ := rd_abs hv
      have z0 : wr.cell? ⟨ga, off + j * 2, none⟩ = some (.int .i64 a.kind) := hcs 0 _ rfl
      have z1 : wr.cell? ⟨ga, off + j * 2 + 1, none⟩ = some (.slice A3 n3 c3) := hcs 1 _ rfl
      obtain ⟨hne, htl, hkd⟩ := HG.out.next hx
      obtain ⟨B0, m0, d0, B1, m1, d1, B2, m2, d2, _, _, _, hb, hp1, -⟩ := id HI.out
      have hgr := blk_lt hb
      have HNE := Lib.hid hne
      have HTL := Lib.hid htl
      have HKD := Lib.hid hkd
      have hp1 : PlateRd wr ok (.slice B0 m0 d0) (.slice B1 m1 d1) (.slice B2 m2 d2) (d.kept.all (d.wait.take j)) := hp1
      have HP0 := Lib.hid hp1
      have HV0 := Lib.hid hv
      have HB := Lib.hid hb
      have hgne : g ≠ ga := fun e => HGG.out (by rw [e]; exact hga)
      by_cases hlt : j < N
      · have q8 : (j : Int) < keep := by omega
        generalize d.kept.all (d.wait.take j) = p at HI hne htl HNE HTL HP0 hp1
        clear hx hcs hv hne htl hkd hp1 hb hnl hun hup hga hlt2
        go_wp2_with fail
        obtain ⟨W1, hW1⟩ : ∃ W1, wr.alloc (.cells #[.int .i64 a.kind, .slice A3 n3 c3] 86) = W1 := ⟨_, rfl⟩
        rw [hW1]
        have eA : Ext Non wr W1.drew := by rw [← hW1]; exact ((Ext.refl Non wr).alloc _).drew
        have k0 := blk_cell (heap_alloc_new wr (.cells #[.int .i64 a.kind, .slice A3 n3 c3] 86)) 0
        have k1 := blk_cell (heap_alloc_new wr (.cells #[.int .i64 a.kind, .slice A3 n3 c3] 86)) 1
        rw [hW1] at k0 k1
        simp at k0 k1
        have HD1 := Lib.hid (HI.out.ext eA)
        have E1 := Lib.hid (HEr.out.trans0 eA)
        have HP := Lib.hid (And.intro (HP0.out.1.ext0 eA) (And.intro (HP0.out.2.1.ext0 eA) (HP0.out.2.2.ext0 eA)))
        have HV := Lib.hid (HV0.out.ext0 eA)
        have HF1 := Lib.hid (fun k (hk : W1.drew.heap.size ≤ k) => HF0.out k (Nat.le_trans eA.size hk))
        have BG := Lib.hid (eA.obj HB.out (fun e => e))
        have h1 : W1.cell? ⟨g, 1, none⟩ = some (.slice B0 m0 d0) := blk_cell BG.out 1
        have h2 : W1.cell? ⟨g, 2, none⟩ = some (.slice B1 m1 d1) := blk_cell BG.out 2
        have h3 : W1.cell? ⟨g, 3, none⟩ = some (.slice B2 m2 d2) := blk_cell BG.out 3
        clear hW1 eA
        refine Last.start_ (S := fun W => W.cell? ⟨g, 1, none⟩ = some (.slice B0 m0 d0) ∧ W.cell? ⟨g, 2, none⟩ = some (.slice B1 m1 d1) ∧ W.cell? ⟨g, 3, none⟩ = some (.slice B2 m2 d2) ∧ W.cell? ⟨wr.heap.size, 0, none⟩ = some (.int .i64 a.kind) ∧ W.cell? ⟨wr.heap.size, 1, none⟩ = some (.slice A3 n3 c3)) (ds := [9]) #[false, false, false, false, false, false, false, false, false, false] (by kernel_rfl) (by rfl) (by rfl) ⟨h1, h2, h3, k0, k1⟩ (fun hS => ?_)
        refine Last.take_ (i := 0) (N := some 26) (v := .pointer (some ⟨g, 0, none⟩)) #[true, false, false, false, false, false, false, false, false, false] (by simp only [List.getElem?_toArray, List.getElem?_cons_zero]; rfl) rfl (by kernel_rfl) (by exact fun _ _ _ h => h) (Or.inl ⟨by rfl, fun W hW => by first | rfl | (try dsimp only at hW); go_simp⟩) hS rfl ?_
        simp only [Act.put, List.setIfInBounds_toArray, List.set_cons_zero, List.set_cons_succ]
        refine Last.take_ (i := 1) (N := some 27) (v := .pointer (some ⟨g, 0, none⟩)) #[true, true, false, false, false, false, false, false, false, false] (by simp only [List.getElem?_toArray, List.getElem?_cons_zero, List.getElem?_cons_succ]; rfl) rfl (by kernel_rfl) (by exact fun _ _ _ h => h) (Or.inl ⟨by rfl, fun W hW => by first | rfl | (try dsimp only at hW); go_simp⟩) hS rfl ?_
        simp only [Act.put, List.setIfInBounds_toArray, List.set_cons_zero, List.set_cons_succ]
        refine Last.take_ (i := 2) (N := some 28) (v := .pointer (some ⟨g, 0, none⟩)) #[true, true, true, false, false, false, false, false, false, false] (by simp only [List.getElem?_toArray, List.getElem?_cons_zero, List.getElem?_cons_succ]; rfl) rfl (by kernel_rfl) (by exact fun _ _ _ h => h) (Or.inl ⟨by rfl, fun W hW => by first | rfl | (try dsimp only at hW); go_simp⟩) hS rfl ?_
        simp only [Act.put, List.setIfInBounds_toArray, List.set_cons_zero, List.set_cons_succ]
        refine Last.take_ (i := 3) (N := some 29) (v := .pointer (some ⟨g, 1, none⟩)) #[true, true, true, true, false, false, false, false, false, false] (by simp only [List.getElem?_toArray, List.getElem?_cons_zero, List.getElem?_cons_succ]; rfl) rfl (by kernel_rfl) (by exact fun _ _ _ h => h) (Or.inl ⟨by rfl, fun W hW => by first | rfl | (try dsimp only at hW); go_simp⟩) hS rfl ?_
        simp only [Act.put, List.setIfInBounds_toArray, List.set_cons_zero, List.set_cons_succ]
        refine Last.take_ (i := 4) (N := some 30) (v := .agg #[.slice B0 m0 d0, .slice B1 m1 d1, .slice B2 m2 d2]) #[true, true, true, true, true, false, false, false, false, false] (by simp only [List.getElem?_toArray, List.getElem?_cons_zero, List.getElem?_cons_succ]; rfl) rfl (by kernel_rfl) (by exact fun _ _ _ h => h) (Or.inl ⟨by rfl, fun W hW => by first | rfl | (try dsimp only at hW); go_simp⟩) hS rfl ?_
        simp only [Act.put, List.setIfInBounds_toArray, List.set_cons_zero, List.set_cons_succ]
        refine Last.take_ (i := 5) (N := some 31) (v := .agg #[.int .i64 a.kind, .slice A3 n3 c3]) #[true, true, true, true, true, true, false, false, false, false] (by simp only [List.getElem?_toArray, List.getElem?_cons_zero, List.getElem?_cons_succ]; rfl) rfl (by kernel_rfl) (by exact fun _ _ _ h => h) (Or.inl ⟨by rfl, fun W hW => by first | rfl | (try dsimp only at hW); go_simp⟩) hS rfl ?_
        simp only [Act.put, List.setIfInBounds_toArray, List.set_cons_zero, List.set_cons_succ]
        refine Last.one_ (i := 6) (N := some 32) #[true, true, true, true, true, true, true, false, false, false] (by simp only [List.getElem?_toArray, List.getElem?_cons_zero, List.getElem?_cons_succ]; rfl) rfl (by kernel_rfl) (by decide) (fun K hK => ?_)
        refine Last.goes_ Try.func56 (by kernel_rfl) rfl #[.agg #[.slice B0 m0 d0, .slice B1 m1 d1, .slice B2 m2 d2], .agg #[.int .i64 a.kind, .slice A3 n3 c3]] (by rfl) rfl rfl (by simp [Act.eval]) ?_
        refine (on_calls HP.out HV.out HKD.out HF1.out HTL.out).mono ?_
        rintro e w2 ⟨D0, l0, e0, D1, l1, e1, D2, l2, e2, rfl, hp, he⟩
        have h1 := he.out.cell h1 (fun e => e)
        have h2 := he.out.cell h2 (fun e => e)
        have h3 := he.out.cell h3 (fun e => e)
        have k0 := he.out.cell k0 (fun e => e)
        have k1 := he.out.cell k1 (fun e => e)
        have y1 := blk_frozen (he.out.obj BG.out (fun e => e)) 1
        have y2 := blk_frozen (he.out.obj BG.out (fun e => e)) 2
        have y3 := blk_frozen (he.out.obj BG.out (fun e => e)) 3
        have HD2 := Lib.hid (HD1.out.ext he.out)
        have E2 := Lib.hid (E1.out.trans0 he.out)
        clear he
        refine ⟨_, rfl, ?_⟩
        refine hK.out _ _ ⟨h1, h2, h3, k0, k1⟩ (fun hS => ?_)
        try simp only [Act.put, List.setIfInBounds_toArray, List.set_cons_zero, List.set_cons_succ]
        refine Last.take_ (i := 7) (N := some 33) (v := .pointer (some ⟨g, 0, none⟩)) #[true, true, true, true, true, true, true, true, false, false] (by simp only [List.getElem?_toArray, List.getElem?_cons_zero, List.getElem?_cons_succ]; rfl) rfl (by kernel_rfl) (by exact fun _ _ _ h => h) (Or.inl ⟨by rfl, fun W hW => by first | rfl | (try dsimp only at hW); go_simp⟩) hS rfl ?_
        simp only [Act.put, List.setIfInBounds_toArray, List.set_cons_zero, List.set_cons_succ]
        refine Last.take_ (i := 8) (N := some 34) (v := .pointer (some ⟨g, 1, none⟩)) #[true, true, true, true, true, true, true, true, true, false] (by simp only [List.getElem?_toArray, List.getElem?_cons_zero, List.getElem?_cons_succ]; rfl) rfl (by kernel_rfl) (by exact fun _ _ _ h => h) (Or.inl ⟨by rfl, fun W hW => by first | rfl | (try dsimp only at hW); go_simp⟩) hS rfl ?_
        simp only [Act.put, List.setIfInBounds_toArray, List.set_cons_zero, List.set_cons_succ]
        refine Last.last_ (i := 9) (N := none) #[true, true, true, true, true, true, true, true, true, true] (by simp only [List.getElem?_toArray, List.getElem?_cons_zero, List.getElem?_cons_succ]; rfl) rfl (by kernel_rfl) (by decide) (fun K hK => ?_)
        go_simp
        refine hK.out _ _ ?_
        try simp only [Act.put, List.setIfInBounds_toArray, List.set_cons_zero, List.set_cons_succ]
        refine Last.done_ (by kernel_rfl) ?_
        have hd3 : RefAt (((w2.setCell ⟨g, 1, none⟩ (.slice D0 l0 e0)).setCell ⟨g, 2, none⟩ (.slice D1 l1 e1)).setCell ⟨g, 3, none⟩ (.slice D2 l2 e2)) ok g (d.withKept (p.does a)) := HD2.out.kept3 HGG.out hp.out
        have HD3 := Lib.hid hd3
        have E3 := Lib.hid (((E2.out.og 1 (.slice D0 l0 e0)).og 2 (.slice D1 l1 e1)).og 3 (.slice D2 l2 e2))
        clear hd3
        generalize ((w2.setCell ⟨g, 1, none⟩ (.slice D0 l0 e0)).setCell ⟨g, 2, none⟩ (.slice D1 l1 e1)).setCell ⟨g, 3, none⟩ (.slice D2 l2 e2) = w3 at HD3 E3 ⊢
        clear h1 h2 h3 y1 y2 y3 k0 k1 hS
        rename (∀ (a : Act) (w1 : World), Code.wp Try.prog _ _ a w1 → _) => hK0
        simp only [Exit.then]
        refine hK0 _ _ ?_
        go_wp2_with fail
        go_roundw
        case rel =>
          refine ⟨j + 1, by omega, by go_num, ?_, E3.out⟩
          show RefAt _ _ _ _
          rw [HNE.out]
          exact HD3.out
        case measure => simp [intOf]; omega
      · obtain rfl : N = j := by omega
        have q8 : ¬ (N : Int) < keep := by omega
        have hfell : d.fell keep tear = (d.kept.all (d.wait.take N)).torn a tear := by
          unfold Dk.fell
          rw [← HN.out, hx]
        clear hlt
        by_cases ht : tear ≤ 0 ∨ a.kind = 3
        · have hf2 : d.fell keep tear = d.kept.all (d.wait.take N) := by rw [hfell]; unfold Plate.torn; rw [if_pos ht]
          have HFE := Lib.hid hf2
          have q9 : tear ≤ 0 ∨ (¬ tear ≤ 0 ∧ ¬ a.kind < 3) := by omega
          have HD3 := HI
          have E3 := HEr
          clear hx hcs hv hne htl hkd hp1 hb hnl hun hup hga hlt2 hfell hf2 ht
          have eA : Ext Non wr (wr.alloc (.cells #[.int .i64 a.kind, .slice A3 n3 c3] 86)) := (Ext.refl Non wr).alloc _
          have HD3 := Lib.hid (HD3.out.ext eA)
          have E3 := Lib.hid (E3.out.trans0 eA)
          clear eA
          obtain ⟨w3, hw3⟩ : ∃ w3, wr.alloc (.cells #[.int .i64 a.kind, .slice A3 n3 c3] 86) = w3 := ⟨_, rfl⟩
          have k0 := blk_cell (heap_alloc_new wr (.cells #[.int .i64 a.kind, .slice A3 n3 c3] 86)) 0
          have k1 := blk_cell (heap_alloc_new wr (.cells #[.int .i64 a.kind, .slice A3 n3 c3] 86)) 1
          rw [hw3] at HD3 E3 k0 k1
          simp at k0 k1
          obtain ⟨_, _, _, _, _, _, _, _, _, Aw3, nw3, cw3, hb, -, -⟩ := id HD3.out
          have h4 : w3.cell? ⟨g, 4, none⟩ = some (.slice Aw3 nw3 cw3) := blk_cell hb 4
          have h5 := blk_cell hb 5
          have h6 := blk_cell hb 6
          simp at h5 h6
          have y4 := blk_frozen hb 4
          have y5 := blk_frozen hb 5
          have y6 := blk_frozen hb 6
          have hgs3 := blk_lt hb
          have hd := HD3.out.rdown keep tear HGG.out HFE.out.symm
          have HD4 := Lib.hid hd.1
          have E4 := Lib.hid (E3.out.trans hd.2 (fun _ _ e => e))
          clear hb hd
          rcases q9 with q9 | ⟨q9, q10⟩
          all_goals
            go_wp2_with fail
            go_ret
            exact ⟨rfl, HD4.out, E4.out⟩
        · have hf2 : d.fell keep tear = (d.kept.all (d.wait.take N)).does (a.cut tear) := by rw [hfell]; unfold Plate.torn; rw [if_neg ht]
          have HFE := Lib.hid hf2
          obtain ⟨hn3, hm3⟩ := rd_len hv
          have hcase : (∃ m : Nat, tear = (m : Int) ∧ m ≤ n3 ∧ m = min tear.toNat n3) ∨ (∃ m : Nat, m = n3 ∧ (m : Int) < tear ∧ m = min tear.toNat n3) := by
            rcases Int.lt_or_le (n3 : Int) tear with h | h
            · exact .inr ⟨n3, rfl, h, by omega⟩
            · exact .inl ⟨tear.toNat, by omega, by omega, by omega⟩
          have hcut : ∀ m : Nat, m = min tear.toNat n3 → (a.cut tear).b = a.b.take m := by
            intro m hm'
            unfold DAct.cut
            simp only []
            rw [hm', List.take_eq_take_iff]
            omega
          have hcl : (a.cut tear).b.length ≤ a.b.length := by
            rw [hcut _ rfl, List.length_take]
            exact Nat.min_le_right _ _
          obtain ⟨_, _, hec, hcc, -⟩ := hv.slice
          simp only [Value.slice.injEq] at hec
          obtain ⟨-, -, rfl⟩ := hec
          have hc3 : n3 ≤ c3 := by omega
          have hRT : ∀ m : Nat, m = min tear.toNat n3 → Rd Kd.u8 wr ok (.slice A3 m c3) (a.cut tear).b := by
            intro m hm'
            rw [hcut m hm']
            exact hv.take (by omega)
          have HCL : Hid ((a.cut tear).kind = 2 → (d.kept.all (d.wait.take N)).tape.length + (a.cut tear).b.length ≤ 140737488355328) := fun h => by have := htl h; omega
          have q9 : ¬ tear ≤ 0 := by omega
          have q10 : a.kind < 3 := by omega
          have HRT := Lib.hid hRT
          generalize d.kept.all (d.wait.take N) = p at HI hne htl HNE HTL HP0 hp1 HFE HCL hf2 hfell
          clear hx hcs hne htl hkd hp1 hb hnl hun hup hga hlt2 hfell hf2 ht hcut hcl hRT hv hn3 hm3 hcc
          rcases hcase with ⟨m, rfl, hm1, hm2⟩ | ⟨m, hm0, hm1, hm2⟩
          · have q11 : (m : Int) ≤ (n3 : Int) := by omega
            have q12 : (0 : Int) ≤ (m : Int) := by omega
            have q13 : (m : Int) ≤ (c3 : Int) := by omega
            have HCV0 := Lib.hid (HRT.out m hm2)
            have q14 : ¬ n3 < m := by omega
            clear hm2 HRT hc3
            go_wp2_with fail
            obtain ⟨W1, hW1⟩ : ∃ W1, wr.alloc (.cells #[.int .i64 a.kind, .slice A3 n3 c3] 86) = W1 := ⟨_, rfl⟩
            rw [hW1]
            have eA : Ext Non wr W1.drew := by rw [← hW1]; exact ((Ext.refl Non wr).alloc _).drew
            have k0 := blk_cell (heap_alloc_new wr (.cells #[.int .i64 a.kind, .slice A3 n3 c3] 86)) 0
            have k1 := blk_cell (heap_alloc_new wr (.cells #[.int .i64 a.kind, .slice A3 n3 c3] 86)) 1
            rw [hW1] at k0 k1
            simp at k0 k1
            have HD1 := Lib.hid (HI.out.ext eA)
            have E1 := Lib.hid (HEr.out.trans0 eA)
            have HP := Lib.hid (And.intro (HP0.out.1.ext0 eA) (And.intro (HP0.out.2.1.ext0 eA) (HP0.out.2.2.ext0 eA)))
            have HV := Lib.hid (HV0.out.ext0 eA)
            have HF1 := Lib.hid (fun k (hk : W1.drew.heap.size ≤ k) => HF0.out k (Nat.le_trans eA.size hk))
            have BG := Lib.hid (eA.obj HB.out (fun e => e))
            have h1 : W1.cell? ⟨g, 1, none⟩ = some (.slice B0 m0 d0) := blk_cell BG.out 1
            have h2 : W1.cell? ⟨g, 2, none⟩ = some (.slice B1 m1 d1) := blk_cell BG.out 2
            have h3 : W1.cell? ⟨g, 3, none⟩ = some (.slice B2 m2 d2) := blk_cell BG.out 3
            have HCV := Lib.hid (HCV0.out.ext0 eA)
            clear hW1 eA
            refine Last.start_ (S := fun W => W.cell? ⟨g, 1, none⟩ = some (.slice B0 m0 d0) ∧ W.cell? ⟨g, 2, none⟩ = some (.slice B1 m1 d1) ∧ W.cell? ⟨g, 3, none⟩ = some (.slice B2 m2 d2) ∧ W.cell? ⟨wr.heap.size, 0, none⟩ = some (.int .i64 a.kind) ∧ W.cell? ⟨wr.heap.size, 1, none⟩ = some (.slice A3 n3 c3)) (ds := [19]) #[false, false, false, false, false, false, false, false, false, false, false, false, false, false, false, false, false, false, false, false] (by kernel_rfl) (by rfl) (by rfl) ⟨h1, h2, h3, k0, k1⟩ (fun hS => ?_)
            refine Last.take_ (i := 0) (N := some 42) (v := .pointer (some ⟨g, 0, none⟩)) #[true, false, false, false, false, false, false, false, false, false, false, false, false, false, false, false, false, false, false, false] (by simp only [List.getElem?_toArray, List.getElem?_cons_zero]; rfl) rfl (by kernel_rfl) (by exact fun _ _ _ h => h) (Or.inl ⟨by rfl, fun W hW => by first | rfl | (try dsimp only at hW); go_simp⟩) hS rfl ?_
            simp only [Act.put, List.setIfInBounds_toArray, List.set_cons_zero, List.set_cons_succ]
            refine Last.take_ (i := 1) (N := some 43) (v := .pointer (some ⟨g, 0, none⟩)) #[true, true, false, false, false, false, false, false, false, false, false, false, false, false, false, false, false, false, false, false] (by simp only [List.getElem?_toArray, List.getElem?_cons_zero, List.getElem?_cons_succ]; rfl) rfl (by kernel_rfl) (by exact fun _ _ _ h => h) (Or.inl ⟨by rfl, fun W hW => by first | rfl | (try dsimp only at hW); go_simp⟩) hS rfl ?_
            simp only [Act.put, List.setIfInBounds_toArray, List.set_cons_zero, List.set_cons_succ]
            refine Last.take_ (i := 2) (N := some 44) (v := .pointer (some ⟨g, 0, none⟩)) #[true, true, true, false, false, false, false, false, false, false, false, false, false, false, false, false, false, false, false, false] (by simp only [List.getElem?_toArray, List.getElem?_cons_zero, List.getElem?_cons_succ]; rfl) rfl (by kernel_rfl) (by exact fun _ _ _ h => h) (Or.inl ⟨by rfl, fun W hW => by first | rfl | (try dsimp only at hW); go_simp⟩) hS rfl ?_
            simp only [Act.put, List.setIfInBounds_toArray, List.set_cons_zero, List.set_cons_succ]
            refine Last.take_ (i := 3) (N := some 45) (v := .pointer (some ⟨g, 1, none⟩)) #[true, true, true, true, false, false, false, false, false, false, false, false, false, false, false, false, false, false, false, false] (by simp only [List.getElem?_toArray, List.getElem?_cons_zero, List.getElem?_cons_succ]; rfl) rfl (by kernel_rfl) (by exact fun _ _ _ h => h) (Or.inl ⟨by rfl, fun W hW => by first | rfl | (try dsimp only at hW); go_simp⟩) hS rfl ?_
            simp only [Act.put, List.setIfInBounds_toArray, List.set_cons_zero, List.set_cons_succ]
            refine Last.take_ (i := 4) (N := some 46) (v := .agg #[.slice B0 m0 d0, .slice B1 m1 d1, .slice B2 m2 d2]) #[true, true, true, true, true, false, false, false, false, false, false, false, false, false, false, false, false, false, false, false] (by simp only [List.getElem?_toArray, List.getElem?_cons_zero, List.getElem?_cons_succ]; rfl) rfl (by kernel_rfl) (by exact fun _ _ _ h => h) (Or.inl ⟨by rfl, fun W hW => by first | rfl | (try dsimp only at hW); go_simp⟩) hS rfl ?_
            simp only [Act.put, List.setIfInBounds_toArray, List.set_cons_zero, List.set_cons_succ]
            refine Last.take_ (i := 5) (N := some 47) (v := .pointer (some ⟨wr.heap.size, 0, none⟩)) #[true, true, true, true, true, true, false, false, false, false, false, false, false, false, false, false, false, false, false, false] (by simp only [List.getElem?_toArray, List.getElem?_cons_zero, List.getElem?_cons_succ]; rfl) rfl (by kernel_rfl) (by exact fun _ _ _ h => h) (Or.inl ⟨by rfl, fun W hW => by first | rfl | (try dsimp only at hW); go_simp⟩) hS rfl ?_
            simp only [Act.put, List.setIfInBounds_toArray, List.set_cons_zero, List.set_cons_succ]
            refine Last.take_ (i := 6) (N := some 48) (v := .int .i64 a.kind) #[true, true, true, true, true, true, true, false, false, false, false, false, false, false, false, false, false, false, false, false] (by simp only [List.getElem?_toArray, List.getElem?_cons_zero, List.getElem?_cons_succ]; rfl) rfl (by kernel_rfl) (by exact fun _ _ _ h => h) (Or.inl ⟨by rfl, fun W hW => by first | rfl | (try dsimp only at hW); go_simp⟩) hS rfl ?_
            simp only [Act.put, List.setIfInBounds_toArray, List.set_cons_zero, List.set_cons_succ]
            refine Last.take_ (i := 7) (N := some 49) (v := .pointer (some ⟨wr.heap.size, 1, none⟩)) #[true, true, true, true, true, true, true, true, false, false, false, false, false, false, false, false, false, false, false, false] (by simp only [List.getElem?_toArray, List.getElem?_cons_zero, List.getElem?_cons_succ]; rfl) rfl (by kernel_rfl) (by exact fun _ _ _ h => h) (Or.inl ⟨by rfl, fun W hW => by first | rfl | (try dsimp only at hW); go_simp⟩) hS rfl ?_
            simp only [Act.put, List.setIfInBounds_toArray, List.set_cons_zero, List.set_cons_succ]
            refine Last.take_ (i := 8) (N := some 50) (v := .slice A3 n3 c3) #[true, true, true, true, true, true, true, true, true, false, false, false, false, false, false, false, false, false, false, false] (by simp only [List.getElem?_toArray, List.getElem?_cons_zero, List.getElem?_cons_succ]; rfl) rfl (by kernel_rfl) (by exact fun _ _ _ h => h) (Or.inl ⟨by rfl, fun W hW => by first | rfl | (try dsimp only at hW); go_simp⟩) hS rfl ?_
            simp only [Act.put, List.setIfInBounds_toArray, List.set_cons_zero, List.set_cons_succ]
            refine Last.take_ (i := 9) (N := some 51) (v := .int .i64 (m : Int)) #[true, true, true, true, true, true, true, true, true, true, false, false, false, false, false, false, false, false, false, false] (by simp only [List.getElem?_toArray, List.getElem?_cons_zero, List.getElem?_cons_succ]; rfl) rfl (by kernel_rfl) (by exact fun _ _ _ h => h) (Or.inl ⟨by rfl, fun W hW => by first | rfl | (try dsimp only at hW); go_simp⟩) hS rfl ?_
            simp only [Act.put, List.setIfInBounds_toArray, List.set_cons_zero, List.set_cons_succ]
            refine Last.take_ (i := 10) (N := some 52) (v := .pointer (some ⟨wr.heap.size, 1, none⟩)) #[true, true, true, true, true, true, true, true, true, true, true, false, false, false, false, false, false, false, false, false] (by simp only [List.getElem?_toArray, List.getElem?_cons_zero, List.getElem?_cons_succ]; rfl) rfl (by kernel_rfl) (by exact fun _ _ _ h => h) (Or.inl ⟨by rfl, fun W hW => by first | rfl | (try dsimp only at hW); go_simp⟩) hS rfl ?_
            simp only [Act.put, List.setIfInBounds_toArray, List.set_cons_zero, List.set_cons_succ]
            refine Last.take_ (i := 11) (N := some 53) (v := .slice A3 n3 c3) #[true, true, true, true, true, true, true, true, true, true, true, true, false, false, false, false, false, false, false, false] (by simp only [List.getElem?_toArray, List.getElem?_cons_zero, List.getElem?_cons_succ]; rfl) rfl (by kernel_rfl) (by exact fun _ _ _ h => h) (Or.inl ⟨by rfl, fun W hW => by first | rfl | (try dsimp only at hW); go_simp⟩) hS rfl ?_
            simp only [Act.put, List.setIfInBounds_toArray, List.set_cons_zero, List.set_cons_succ]
            refine Last.take_ (i := 12) (N := some 54) (v := .int .i64 (n3 : Int)) #[true, true, true, true, true, true, true, true, true, true, true, true, true, false, false, false, false, false, false, false] (by simp only [List.getElem?_toArray, List.getElem?_cons_zero, List.getElem?_cons_succ]; rfl) rfl (by kernel_rfl) (by exact fun _ _ _ h => h) (Or.inl ⟨by rfl, fun W hW => by first | rfl | (try dsimp only at hW); go_simp⟩) hS rfl ?_
            simp only [Act.put, List.setIfInBounds_toArray, List.set_cons_zero, List.set_cons_succ]
            refine Last.take_ (i := 13) (N := some 55) (v := .int .i64 (m : Int)) #[true, true, true, true, true, true, true, true, true, true, true, true, true, true, false, false, false, false, false, false] (by simp only [List.getElem?_toArray, List.getElem?_cons_zero, List.getElem?_cons_succ]; rfl) rfl (by kernel_rfl) (by exact fun _ _ _ h => h) (Or.inl ⟨by rfl, fun W hW => by first | rfl | (try dsimp only at hW); go_simp⟩) hS rfl ?_
            simp only [Act.put, List.setIfInBounds_toArray, List.set_cons_zero, List.set_cons_succ]
            refine Last.take_ (i := 14) (N := some 56) (v := .slice A3 m c3) #[true, true, true, true, true, true, true, true, true, true, true, true, true, true, true, false, false, false, false, false] (by simp only [List.getElem?_toArray, List.getElem?_cons_zero, List.getElem?_cons_succ]; rfl) rfl (by kernel_rfl) (by exact fun _ _ _ h => h) (Or.inl ⟨by rfl, fun W hW => by first | rfl | (try dsimp only at hW); go_simp⟩) hS rfl ?_
            simp only [Act.put, List.setIfInBounds_toArray, List.set_cons_zero, List.set_cons_succ]
            refine Last.take_ (i := 15) (N := some 57) (v := .agg #[.int .i64 a.kind, .slice A3 m c3]) #[true, true, true, true, true, true, true, true, true, true, true, true, true, true, true, true, false, false, false, false] (by simp only [List.getElem?_toArray, List.getElem?_cons_zero, List.getElem?_cons_succ]; rfl) rfl (by kernel_rfl) (by exact fun _ _ _ h => h) (Or.inl ⟨by rfl, fun W hW => by first | rfl | (try dsimp only at hW); go_simp⟩) hS rfl ?_
            simp only [Act.put, List.setIfInBounds_toArray, List.set_cons_zero, List.set_cons_succ]
            refine Last.one_ (i := 16) (N := some 58) #[true, true, true, true, true, true, true, true, true, true, true, true, true, true, true, true, true, false, false, false] (by simp only [List.getElem?_toArray, List.getElem?_cons_zero, List.getElem?_cons_succ]; rfl) rfl (by kernel_rfl) (by decide) (fun K hK => ?_)
            refine Last.goes_ Try.func56 (by kernel_rfl) rfl #[.agg #[.slice B0 m0 d0, .slice B1 m1 d1, .slice B2 m2 d2], .agg #[.int .i64 a.kind, .slice A3 m c3]] (by rfl) rfl rfl (by simp [Act.eval]) ?_
            refine (on_calls (a := a.cut (m : Int)) HP.out HCV.out HKD.out HF1.out HCL.out).mono ?_
            rintro e w2 ⟨D0, l0, e0, D1, l1, e1, D2, l2, e2, rfl, hp, he⟩
            have h1 := he.out.cell h1 (fun e => e)
            have h2 := he.out.cell h2 (fun e => e)
            have h3 := he.out.cell h3 (fun e => e)
            have k0 := he.out.cell k0 (fun e => e)
            have k1 := he.out.cell k1 (fun e => e)
            have y1 := blk_frozen (he.out.obj BG.out (fun e => e)) 1
            have y2 := blk_frozen (he.out.obj BG.out (fun e => e)) 2
            have y3 := blk_frozen (he.out.obj BG.out (fun e => e)) 3
            have HD2 := Lib.hid (HD1.out.ext he.out)
            have E2 := Lib.hid (E1.out.trans0 he.out)
            clear he
            refine ⟨_, rfl, ?_⟩
            refine hK.out _ _ ⟨h1, h2, h3, k0, k1⟩ (fun hS => ?_)
            try simp only [Act.put, List.setIfInBounds_toArray, List.set_cons_zero, List.set_cons_succ]
            refine Last.take_ (i := 17) (N := some 59) (v := .pointer (some ⟨g, 0, none⟩)) #[true, true, true, true, true, true, true, true, true, true, true, true, true, true, true, true, true, true, false, false] (by simp only [List.getElem?_toArray, List.getElem?_cons_zero, List.getElem?_cons_succ]; rfl) rfl (by kernel_rfl) (by exact fun _ _ _ h => h) (Or.inl ⟨by rfl, fun W hW => by first | rfl | (try dsimp only at hW); go_simp⟩) hS rfl ?_
            simp only [Act.put, List.setIfInBounds_toArray, List.set_cons_zero, List.set_cons_succ]
            refine Last.take_ (i := 18) (N := some 60) (v := .pointer (some ⟨g, 1, none⟩)) #[true, true, true, true, true, true, true, true, true, true, true, true, true, true, true, true, true, true, true, false] (by simp only [List.getElem?_toArray, List.getElem?_cons_zero, List.getElem?_cons_succ]; rfl) rfl (by kernel_rfl) (by exact fun _ _ _ h => h) (Or.inl ⟨by rfl, fun W hW => by first | rfl | (try dsimp only at hW); go_simp⟩) hS rfl ?_
            simp only [Act.put, List.setIfInBounds_toArray, List.set_cons_zero, List.set_cons_succ]
            refine Last.last_ (i := 19) (N := none) #[true, true, true, true, true, true, true, true, true, true, true, true, true, true, true, true, true, true, true, true] (by simp only [List.getElem?_toArray, List.getElem?_cons_zero, List.getElem?_cons_succ]; rfl) rfl (by kernel_rfl) (by decide) (fun K hK => ?_)
            go_simp
            refine hK.out _ _ ?_
            try simp only [Act.put, List.setIfInBounds_toArray, List.set_cons_zero, List.set_cons_succ]
            refine Last.done_ (by kernel_rfl) ?_
            have hd3 : RefAt (((w2.setCell ⟨g, 1, none⟩ (.slice D0 l0 e0)).setCell ⟨g, 2, none⟩ (.slice D1 l1 e1)).setCell ⟨g, 3, none⟩ (.slice D2 l2 e2)) ok g (d.withKept (p.does (a.cut (m : Int)))) := HD2.out.kept3 HGG.out hp.out
            have HD3 := Lib.hid hd3
            have E3 := Lib.hid (((E2.out.og 1 (.slice D0 l0 e0)).og 2 (.slice D1 l1 e1)).og 3 (.slice D2 l2 e2))
            clear hd3
            generalize ((w2.setCell ⟨g, 1, none⟩ (.slice D0 l0 e0)).setCell ⟨g, 2, none⟩ (.slice D1 l1 e1)).setCell ⟨g, 3, none⟩ (.slice D2 l2 e2) = w3 at HD3 E3 ⊢
            clear h1 h2 h3 y1 y2 y3 k0 k1 hS
            obtain ⟨_, _, _, _, _, _, _, _, _, Aw3, nw3, cw3, hb, -, -⟩ := id HD3.out
            have h4 : w3.cell? ⟨g, 4, none⟩ = some (.slice Aw3 nw3 cw3) := blk_cell hb 4
            have h5 := blk_cell hb 5
            have h6 := blk_cell hb 6
            simp at h5 h6
            have y4 := blk_frozen hb 4
            have y5 := blk_frozen hb 5
            have y6 := blk_frozen hb 6
            have hgs3 := blk_lt hb
            have hd := HD3.out.rdown keep (m : Int) HGG.out HFE.out.symm
            have HD4 := Lib.hid hd.1
            have E4 := Lib.hid (E3.out.trans hd.2 (fun _ _ e => e))
            clear hb hd
            rename (∀ (a : Act) (w1 : World), Code.wp Try.prog _ _ a w1 → _) => hK0
            simp only [Exit.then]
            refine hK0 _ _ ?_
            go_wp2_with fail
            go_ret
            exact ⟨rfl, HD4.out, E4.out⟩
          · have q11 : ¬ tear ≤ (n3 : Int) := by omega
            have q12 : (0 : Int) ≤ (n3 : Int) := by omega
            have q13 : (n3 : Int) ≤ (c3 : Int) := by omega
            have HCV0 := Lib.hid (HRT.out n3 (by omega))
            clear hm1 hm2 HRT hc3 hm0
            go_wp2_with fail
            obtain ⟨W1, hW1⟩ : ∃ W1, wr.alloc (.cells #[.int .i64 a.kind, .slice A3 n3 c3] 86) = W1 := ⟨_, rfl⟩
            rw [hW1]
            have eA : Ext Non wr W1.drew := by rw [← hW1]; exact ((Ext.refl Non wr).alloc _).drew
            have k0 := blk_cell (heap_alloc_new wr (.cells #[.int .i64 a.kind, .slice A3 n3 c3] 86)) 0
            have k1 := blk_cell (heap_alloc_new wr (.cells #[.int .i64 a.kind, .slice A3 n3 c3] 86)) 1
            rw [hW1] at k0 k1
            simp at k0 k1
            have HD1 := Lib.hid (HI.out.ext eA)
            have E1 := Lib.hid (HEr.out.trans0 eA)
            have HP := Lib.hid (And.intro (HP0.out.1.ext0 eA) (And.intro (HP0.out.2.1.ext0 eA) (HP0.out.2.2.ext0 eA)))
            have HV := Lib.hid (HV0.out.ext0 eA)
            have HF1 := Lib.hid (fun k (hk : W1.drew.heap.size ≤ k) => HF0.out k (Nat.le_trans eA.size hk))
            have BG := Lib.hid (eA.obj HB.out (fun e => e))
            have h1 : W1.cell? ⟨g, 1, none⟩ = some (.slice B0 m0 d0) := blk_cell BG.out 1
            have h2 : W1.cell? ⟨g, 2, none⟩ = some (.slice B1 m1 d1) := blk_cell BG.out 2
            have h3 : W1.cell? ⟨g, 3, none⟩ = some (.slice B2 m2 d2) := blk_cell BG.out 3
            have HCV := Lib.hid (HCV0.out.ext0 eA)
            clear hW1 eA
            refine Last.start_ (S := fun W => W.cell? ⟨g, 1, none⟩ = some (.slice B0 m0 d0) ∧ W.cell? ⟨g, 2, none⟩ = some (.slice B1 m1 d1) ∧ W.cell? ⟨g, 3, none⟩ = some (.slice B2 m2 d2) ∧ W.cell? ⟨wr.heap.size, 0, none⟩ = some (.int .i64 a.kind) ∧ W.cell? ⟨wr.heap.size, 1, none⟩ = some (.slice A3 n3 c3)) (ds := [19]) #[false, false, false, false, false, false, false, false, false, false, false, false, false, false, false, false, false, false, false, false] (by kernel_rfl) (by rfl) (by rfl) ⟨h1, h2, h3, k0, k1⟩ (fun hS => ?_)
            refine Last.take_ (i := 0) (N := some 42) (v := .pointer (some ⟨g, 0, none⟩)) #[true, false, false, false, false, false, false, false, false, false, false, false, false, false, false, false, false, false, false, false] (by simp only [List.getElem?_toArray, List.getElem?_cons_zero]; rfl) rfl (by kernel_rfl) (by exact fun _ _ _ h => h) (Or.inl ⟨by rfl, fun W hW => by first | rfl | (try dsimp only at hW); go_simp⟩) hS rfl ?_
            simp only [Act.put, List.setIfInBounds_toArray, List.set_cons_zero, List.set_cons_succ]
            refine Last.take_ (i := 1) (N := some 43) (v := .pointer (some ⟨g, 0, none⟩)) #[true, true, false, false, false, false, false, false, false, false, false, false, false, false, false, false, false, false, false, false] (by simp only [List.getElem?_toArray, List.getElem?_cons_zero, List.getElem?_cons_succ]; rfl) rfl (by kernel_rfl) (by exact fun _ _ _ h => h) (Or.inl ⟨by rfl, fun W hW => by first | rfl | (try dsimp only at hW); go_simp⟩) hS rfl ?_
            simp only [Act.put, List.setIfInBounds_toArray, List.set_cons_zero, List.set_cons_succ]
            refine Last.take_ (i := 2) (N := some 44) (v := .pointer (some ⟨g, 0, none⟩)) #[true, true, true, false, false, false, false, false, false, false, false, false, false, false, false, false, false, false, false, false] (by simp only [List.getElem?_toArray, List.getElem?_cons_zero, List.getElem?_cons_succ]; rfl) rfl (by kernel_rfl) (by exact fun _ _ _ h => h) (Or.inl ⟨by rfl, fun W hW => by first | rfl | (try dsimp only at hW); go_simp⟩) hS rfl ?_
            simp only [Act.put, List.setIfInBounds_toArray, List.set_cons_zero, List.set_cons_succ]
            refine Last.take_ (i := 3) (N := some 45) (v := .pointer (some ⟨g, 1, none⟩)) #[true, true, true, true, false, false, false, false, false, false, false, false, false, false, false, false, false, false, false, false] (by simp only [List.getElem?_toArray, List.getElem?_cons_zero, List.getElem?_cons_succ]; rfl) rfl (by kernel_rfl) (by exact fun _ _ _ h => h) (Or.inl ⟨by rfl, fun W hW => by first | rfl | (try dsimp only at hW); go_simp⟩) hS rfl ?_
            simp only [Act.put, List.setIfInBounds_toArray, List.set_cons_zero, List.set_cons_succ]
            refine Last.take_ (i := 4) (N := some 46) (v := .agg #[.slice B0 m0 d0, .slice B1 m1 d1, .slice B2 m2 d2]) #[true, true, true, true, true, false, false, false, false, false, false, false, false, false, false, false, false, false, false, false] (by simp only [List.getElem?_toArray, List.getElem?_cons_zero, List.getElem?_cons_succ]; rfl) rfl (by kernel_rfl) (by exact fun _ _ _ h => h) (Or.inl ⟨by rfl, fun W hW => by first | rfl | (try dsimp only at hW); go_simp⟩) hS rfl ?_
            simp only [Act.put, List.setIfInBounds_toArray, List.set_cons_zero, List.set_cons_succ]
            refine Last.take_ (i := 5) (N := some 47) (v := .pointer (some ⟨wr.heap.size, 0, none⟩)) #[true, true, true, true, true, true, false, false, false, false, false, false, false, false, false, false, false, false, false, false] (by simp only [List.getElem?_toArray, List.getElem?_cons_zero, List.getElem?_cons_succ]; rfl) rfl (by kernel_rfl) (by exact fun _ _ _ h => h) (Or.inl ⟨by rfl, fun W hW => by first | rfl | (try dsimp only at hW); go_simp⟩) hS rfl ?_
            simp only [Act.put, List.setIfInBounds_toArray, List.set_cons_zero, List.set_cons_succ]
            refine Last.take_ (i := 6) (N := some 48) (v := .int .i64 a.kind) #[true, true, true, true, true, true, true, false, false, false, false, false, false, false, false, false, false, false, false, false] (by simp only [List.getElem?_toArray, List.getElem?_cons_zero, List.getElem?_cons_succ]; rfl) rfl (by kernel_rfl) (by exact fun _ _ _ h => h) (Or.inl ⟨by rfl, fun W hW => by first | rfl | (try dsimp only at hW); go_simp⟩) hS rfl ?_
            simp only [Act.put, List.setIfInBounds_toArray, List.set_cons_zero, List.set_cons_succ]
            refine Last.take_ (i := 7) (N := some 49) (v := .pointer (some ⟨wr.heap.size, 1, none⟩)) #[true, true, true, true, true, true, true, true, false, false, false, false, false, false, false, false, false, false, false, false] (by simp only [List.getElem?_toArray, List.getElem?_cons_zero, List.getElem?_cons_succ]; rfl) rfl (by kernel_rfl) (by exact fun _ _ _ h => h) (Or.inl ⟨by rfl, fun W hW => by first | rfl | (try dsimp only at hW); go_simp⟩) hS rfl ?_
            simp only [Act.put, List.setIfInBounds_toArray, List.set_cons_zero, List.set_cons_succ]
            refine Last.take_ (i := 8) (N := some 50) (v := .slice A3 n3 c3) #[true, true, true, true, true, true, true, true, true, false, false, false, false, false, false, false, false, false, false, false] (by simp only [List.getElem?_toArray, List.getElem?_cons_zero, List.getElem?_cons_succ]; rfl) rfl (by kernel_rfl) (by exact fun _ _ _ h => h) (Or.inl ⟨by rfl, fun W hW => by first | rfl | (try dsimp only at hW); go_simp⟩) hS rfl ?_
            simp only [Act.put, List.setIfInBounds_toArray, List.set_cons_zero, List.set_cons_succ]
            refine Last.take_ (i := 9) (N := some 51) (v := .int .i64 tear) #[true, true, true, true, true, true, true, true, true, true, false, false, false, false, false, false, false, false, false, false] (by simp only [List.getElem?_toArray, List.getElem?_cons_zero, List.getElem?_cons_succ]; rfl) rfl (by kernel_rfl) (by exact fun _ _ _ h => h) (Or.inl ⟨by rfl, fun W hW => by first | rfl | (try dsimp only at hW); go_simp⟩) hS rfl ?_
            simp only [Act.put, List.setIfInBounds_toArray, List.set_cons_zero, List.set_cons_succ]
            refine Last.take_ (i := 10) (N := some 52) (v := .pointer (some ⟨wr.heap.size, 1, none⟩)) #[true, true, true, true, true, true, true, true, true, true, true, false, false, false, false, false, false, false, false, false] (by simp only [List.getElem?_toArray, List.getElem?_cons_zero, List.getElem?_cons_succ]; rfl) rfl (by kernel_rfl) (by exact fun _ _ _ h => h) (Or.inl ⟨by rfl, fun W hW => by first | rfl | (try dsimp only at hW); go_simp⟩) hS rfl ?_
            simp only [Act.put, List.setIfInBounds_toArray, List.set_cons_zero, List.set_cons_succ]
            refine Last.take_ (i := 11) (N := some 53) (v := .slice A3 n3 c3) #[true, true, true, true, true, true, true, true, true, true, true, true, false, false, false, false, false, false, false, false] (by simp only [List.getElem?_toArray, List.getElem?_cons_zero, List.getElem?_cons_succ]; rfl) rfl (by kernel_rfl) (by exact fun _ _ _ h => h) (Or.inl ⟨by rfl, fun W hW => by first | rfl | (try dsimp only at hW); go_simp⟩) hS rfl ?_
            simp only [Act.put, List.setIfInBounds_toArray, List.set_cons_zero, List.set_cons_succ]
            refine Last.take_ (i := 12) (N := some 54) (v := .int .i64 (n3 : Int)) #[true, true, true, true, true, true, true, true, true, true, true, true, true, false, false, false, false, false, false, false] (by simp only [List.getElem?_toArray, List.getElem?_cons_zero, List.getElem?_cons_succ]; rfl) rfl (by kernel_rfl) (by exact fun _ _ _ h => h) (Or.inl ⟨by rfl, fun W hW => by first | rfl | (try dsimp only at hW); go_simp⟩) hS rfl ?_
            simp only [Act.put, List.setIfInBounds_toArray, List.set_cons_zero, List.set_cons_succ]
            refine Last.take_ (i := 13) (N := some 55) (v := .int .i64 (n3 : Int)) #[true, true, true, true, true, true, true, true, true, true, true, true, true, true, false, false, false, false, false, false] (by simp only [List.getElem?_toArray, List.getElem?_cons_zero, List.getElem?_cons_succ]; rfl) rfl (by kernel_rfl) (by exact fun _ _ _ h => h) (Or.inl ⟨by rfl, fun W hW => by first | rfl | (try dsimp only at hW); go_simp⟩) hS rfl ?_
            simp only [Act.put, List.setIfInBounds_toArray, List.set_cons_zero, List.set_cons_succ]
            refine Last.take_ (i := 14) (N := some 56) (v := .slice A3 n3 c3) #[true, true, true, true, true, true, true, true, true, true, true, true, true, true, true, false, false, false, false, false] (by simp only [List.getElem?_toArray, List.getElem?_cons_zero, List.getElem?_cons_succ]; rfl) rfl (by kernel_rfl) (by exact fun _ _ _ h => h) (Or.inl ⟨by rfl, fun W hW => by first | rfl | (try dsimp only at hW); go_simp⟩) hS rfl ?_
            simp only [Act.put, List.setIfInBounds_toArray, List.set_cons_zero, List.set_cons_succ]
            refine Last.take_ (i := 15) (N := some 57) (v := .agg #[.int .i64 a.kind, .slice A3 n3 c3]) #[true, true, true, true, true, true, true, true, true, true, true, true, true, true, true, true, false, false, false, false] (by simp only [List.getElem?_toArray, List.getElem?_cons_zero, List.getElem?_cons_succ]; rfl) rfl (by kernel_rfl) (by exact fun _ _ _ h => h) (Or.inl ⟨by rfl, fun W hW => by first | rfl | (try dsimp only at hW); go_simp⟩) hS rfl ?_
            simp only [Act.put, List.setIfInBounds_toArray, List.set_cons_zero, List.set_cons_succ]
            refine Last.one_ (i := 16) (N := some 58) #[true, true, true, true, true, true, true, true, true, true, true, true, true, true, true, true, true, false, false, false] (by simp only [List.getElem?_toArray, List.getElem?_cons_zero, List.getElem?_cons_succ]; rfl) rfl (by kernel_rfl) (by decide) (fun K hK => ?_)
            refine Last.goes_ Try.func56 (by kernel_rfl) rfl #[.agg #[.slice B0 m0 d0, .slice B1 m1 d1, .slice B2 m2 d2], .agg #[.int .i64 a.kind, .slice A3 n3 c3]] (by rfl) rfl rfl (by simp [Act.eval]) ?_
            refine (on_calls (a := a.cut tear) HP.out HCV.out HKD.out HF1.out HCL.out).mono ?_
            rintro e w2 ⟨D0, l0, e0, D1, l1, e1, D2, l2, e2, rfl, hp, he⟩
            have h1 := he.out.cell h1 (fun e => e)
            have h2 := he.out.cell h2 (fun e => e)
            have h3 := he.out.cell h3 (fun e => e)
            have k0 := he.out.cell k0 (fun e => e)
            have k1 := he.out.cell k1 (fun e => e)
            have y1 := blk_frozen (he.out.obj BG.out (fun e => e)) 1
            have y2 := blk_frozen (he.out.obj BG.out (fun e => e)) 2
            have y3 := blk_frozen (he.out.obj BG.out (fun e => e)) 3
            have HD2 := Lib.hid (HD1.out.ext he.out)
            have E2 := Lib.hid (E1.out.trans0 he.out)
            clear he
            refine ⟨_, rfl, ?_⟩
            refine hK.out _ _ ⟨h1, h2, h3, k0, k1⟩ (fun hS => ?_)
            try simp only [Act.put, List.setIfInBounds_toArray, List.set_cons_zero, List.set_cons_succ]
            refine Last.take_ (i := 17) (N := some 59) (v := .pointer (some ⟨g, 0, none⟩)) #[true, true, true, true, true, true, true, true, true, true, true, true, true, true, true, true, true, true, false, false] (by simp only [List.getElem?_toArray, List.getElem?_cons_zero, List.getElem?_cons_succ]; rfl) rfl (by kernel_rfl) (by exact fun _ _ _ h => h) (Or.inl ⟨by rfl, fun W hW => by first | rfl | (try dsimp only at hW); go_simp⟩) hS rfl ?_
            simp only [Act.put, List.setIfInBounds_toArray, List.set_cons_zero, List.set_cons_succ]
            refine Last.take_ (i := 18) (N := some 60) (v := .pointer (some ⟨g, 1, none⟩)) #[true, true, true, true, true, true, true, true, true, true, true, true, true, true, true, true, true, true, true, false] (by simp only [List.getElem?_toArray, List.getElem?_cons_zero, List.getElem?_cons_succ]; rfl) rfl (by kernel_rfl) (by exact fun _ _ _ h => h) (Or.inl ⟨by rfl, fun W hW => by first | rfl | (try dsimp only at hW); go_simp⟩) hS rfl ?_
            simp only [Act.put, List.setIfInBounds_toArray, List.set_cons_zero, List.set_cons_succ]
            refine Last.last_ (i := 19) (N := none) #[true, true, true, true, true, true, true, true, true, true, true, true, true, true, true, true, true, true, true, true] (by simp only [List.getElem?_toArray, List.getElem?_cons_zero, List.getElem?_cons_succ]; rfl) rfl (by kernel_rfl) (by decide) (fun K hK => ?_)
            go_simp
            refine hK.out _ _ ?_
            try simp only [Act.put, List.setIfInBounds_toArray, List.set_cons_zero, List.set_cons_succ]
            refine Last.done_ (by kernel_rfl) ?_
            have hd3 : RefAt (((w2.setCell ⟨g, 1, none⟩ (.slice D0 l0 e0)).setCell ⟨g, 2, none⟩ (.slice D1 l1 e1)).setCell ⟨g, 3, none⟩ (.slice D2 l2 e2)) ok g (d.withKept (p.does (a.cut tear))) := HD2.out.kept3 HGG.out hp.out
            have HD3 := Lib.hid hd3
            have E3 := Lib.hid (((E2.out.og 1 (.slice D0 l0 e0)).og 2 (.slice D1 l1 e1)).og 3 (.slice D2 l2 e2))
            clear hd3
            generalize ((w2.setCell ⟨g, 1, none⟩ (.slice D0 l0 e0)).setCell ⟨g, 2, none⟩ (.slice D1 l1 e1)).setCell ⟨g, 3, none⟩ (.slice D2 l2 e2) = w3 at HD3 E3 ⊢
            clear h1 h2 h3 y1 y2 y3 k0 k1 hS
            obtain ⟨_, _, _, _, _, _, _, _, _, Aw3, nw3, cw3, hb, -, -⟩ := id HD3.out
            have h4 : w3.cell? ⟨g, 4, none⟩ = some (.slice Aw3 nw3 cw3) := blk_cell hb 4
            have h5 := blk_cell hb 5
            have h6 := blk_cell hb 6
            simp at h5 h6
            have y4 := blk_frozen hb 4
            have y5 := blk_frozen hb 5
            have y6 := blk_frozen hb 6
            have hgs3 := blk_lt hb
            have hd := HD3.out.rdown keep tear HGG.out HFE.out.symm
            have HD4 := Lib.hid hd.1
            have E4 := Lib.hid (E3.out.trans hd.2 (fun _ _ e => e))
            clear hb hd
            rename (∀ (a : Act) (w1 : World), Code.wp Try.prog _ _ a w1 → _) => hK0
            simp only [Exit.then]
            refine hK0 _ _ ?_
            go_wp2_with fail
            go_ret
            exact ⟨rfl, HD4.out, E4.out⟩
end Go.Proofs.Ytpmncppfopbaaaa
