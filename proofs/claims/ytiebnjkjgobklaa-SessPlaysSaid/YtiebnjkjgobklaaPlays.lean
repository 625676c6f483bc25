/- Sessions: SessPlays. -/
import Derived.Test.YtiebnjkjgobklaaR7
import Derived.Test.YtiebnjkjgobklaaS7
namespace Go.Proofs.Ytiebnjkjgobklaa
open Go.RowKit Go.TM

def Both (B g r : Nat) : Nat → Prop := fun k => B ≤ k ∧ k ≠ g ∧ k ≠ r

theorem Good.nil0 : Good (⟨[], 0⟩ : Tab).seats (⟨[], 0⟩ : Tab).last := Good.zero

set_option maxHeartbeats 4000000 in
set_option maxRecDepth 100000 in
theorem plays_calls {w : World} {ok : Nat → Prop} {A : Option Addr} {c : Nat} {l : List Do} (H : Rd doK w ok (.slice A l.length c) l) (hl : ∀ k ∈ l, k.ok) :
    Calls Try.prog 4 #[.slice A l.length c] w fun e w' => e = .returned (.bool true) ∧ Ext Non w w' := by
  have HH := Lib.hid H
  have HL := Lib.hid hl
  clear H hl
  go_enter Try.func4, Try.ntmps4
  go_wp2_with (first | (go_at_call 11; refine (awake_calls _).mono ?_; rintro e w1 ⟨rfl, he⟩; have HE := Lib.hid he; clear he) | fail)
  · go_ret
    exact ⟨rfl, HE.out⟩
  refine (New_calls w).mono ?_
  rintro e w1 ⟨g, rfl, hg0, hg1, hT, hE⟩
  have HT := Lib.hid hT
  have HE := Lib.hid hE
  clear hT hE
  go_wp2_with fail
  have hT2 : TabAt (w1.alloc (.cells #[.int .i64 0, .slice none 0 0] 40)) (Both w.heap.size g w1.heap.size) g ⟨[], 0⟩ := (HT.out _).ext ((Ext.refl Non w1).alloc _)
  have hR2 : RefAt (w1.alloc (.cells #[.int .i64 0, .slice none 0 0] 40)) (Both w.heap.size g w1.heap.size) w1.heap.size ⟨[], 0⟩ := ⟨_, heap_alloc_new w1 _, Rd.nil _ _ _⟩
  have hE2 : Ext Non w (w1.alloc (.cells #[.int .i64 0, .slice none 0 0] 40)) := HE.out.alloc _
  have hgr : g ≠ w1.heap.size := by omega
  have hr0 : w.heap.size ≤ w1.heap.size := HE.out.size
  have hg2 : g < (w1.alloc (.cells #[.int .i64 0, .slice none 0 0] 40)).heap.size := by simp; omega
  have hr2 : w1.heap.size < (w1.alloc (.cells #[.int .i64 0, .slice none 0 0] 40)).heap.size := by simp
  generalize w1.alloc (.cells #[.int .i64 0, .slice none 0 0] 40) = w2 at hT2 hR2 hE2 hg2 hr2 ⊢
  generalize w1.heap.size = r at hT2 hR2 hgr hr0 hr2 ⊢
  have HT2 := Lib.hid hT2
  have HR2 := Lib.hid hR2
  have HE2 := Lib.hid hE2
  clear hT2 hR2 hE2 HT HE hg1
  go_loopw [29] (fun i wr => ∃ (j : Nat) (t : Tab), j ≤ l.length ∧ i = .int .i64 j ∧ Hid (Good t.seats t.last) ∧ Hid (TabAt wr (Both w.heap.size g r) g t) ∧ Hid (RefAt wr (Both w.heap.size g r) r t) ∧ Hid (Ext Non w wr) ∧ g < wr.heap.size ∧ r < wr.heap.size) (fun i _ => l.length - (intOf i).toNat)
  case atStart => exact ⟨0, ⟨[], 0⟩, by omega, rfl, Good.zero, HT2.out, HR2.out, HE2.out, hg2, hr2⟩
  case round =>
    obtain ⟨j, t, hj, rfl, hG, hTt, hRt, hEr, hgl, hrl⟩ := hrel
    by_cases hlt : j < l.length
    · obtain ⟨x, hx⟩ : ∃ x, l[j]? = some x := ⟨_, List.getElem?_eq_getElem hlt⟩
      obtain ⟨gl, off, rfl, _, hgll, hc⟩ := (HH.out.ext0 hEr.out).flat_at hx
      have d0 := hc 0 _ rfl
      have d1 := hc 1 _ rfl
      have d2 := hc 2 _ rfl
      have d3 := hc 3 _ rfl
      have d4 := hc 4 _ rfl
      simp only [Nat.add_zero] at d0
      obtain ⟨_, hs1, hq1, _, _⟩ := HL.out x (List.mem_of_getElem? hx)
      obtain ⟨s0, s1⟩ := hs1
      obtain ⟨q0, q1⟩ := hq1
      have HX := Lib.hid (HL.out x (List.mem_of_getElem? hx))
      have hsz := hEr.out.size
      clear hc hx HT2 HR2 HE2
      go_wp2_with fail
      obtain ⟨a, ha⟩ : ∃ a, ask t.seats x.ses x.seq = a := ⟨_, rfl⟩
      have HA := Lib.hid ha
      clear ha
      have okg : ¬ Both w.heap.size g r g := fun h => h.2.1 rfl
      have okr : ¬ Both w.heap.size g r r := fun h => h.2.2 rfl
      have OG := Lib.hid okg
      have OR := Lib.hid okr
      clear okg okr
      obtain ⟨a, ha⟩ : ∃ a, ask t.seats x.ses x.seq = a := ⟨_, rfl⟩
      have HA := Lib.hid ha
      clear ha
      have okg : ¬ Both w.heap.size g r g := fun h => h.2.1 rfl
      have okr : ¬ Both w.heap.size g r r := fun h => h.2.2 rfl
      have OG := Lib.hid okg
      have OR := Lib.hid okr
      clear okg okr
      obtain ⟨a, ha⟩ : ∃ a, ask t.seats x.ses x.seq = a := ⟨_, rfl⟩
      have HA := Lib.hid ha
      clear ha
      have okg : ¬ Both w.heap.size g r g := fun h => h.2.1 rfl
      have okr : ¬ Both w.heap.size g r r := fun h => h.2.2 rfl
      have OG := Lib.hid okg
      have OR := Lib.hid okr
      clear okg okr
      obtain ⟨a, ha⟩ : ∃ a, ask t.seats x.ses x.seq = a := ⟨_, rfl⟩
      have HA := Lib.hid ha
      clear ha
      have okg : ¬ Both w.heap.size g r g := fun h => h.2.1 rfl
      have okr : ¬ Both w.heap.size g r r := fun h => h.2.2 rfl
      have OG := Lib.hid okg
      have OR := Lib.hid okr
      clear okg okr
      obtain ⟨a, ha⟩ : ∃ a, ask t.seats x.ses x.seq = a := ⟨_, rfl⟩
      have HA := Lib.hid ha
      clear ha
      have okg : ¬ Both w.heap.size g r g := fun h => h.2.1 rfl
      have okr : ¬ Both w.heap.size g r r := fun h => h.2.2 rfl
      have OG := Lib.hid okg
      have OR := Lib.hid okr
      clear okg okr
      obtain ⟨a, ha⟩ : ∃ a, ask t.seats x.ses x.seq = a := ⟨_, rfl⟩
      have HA := Lib.hid ha
      clear ha
      have okg : ¬ Both w.heap.size g r g := fun h => h.2.1 rfl
      have okr : ¬ Both w.heap.size g r r := fun h => h.2.2 rfl
      have OG := Lib.hid okg
      have OR := Lib.hid okr
      clear okg okr
      refine (Ask_calls (hTt.out.ext ((Ext.refl Non wr).alloc _)) hG.out x.ses x.seq s0 s1 q1).mono ?_
      rw [HA.out]
      rintro e w3 ⟨rfl, h4⟩
      have E3' : Ext Non wr w3 := ((Ext.refl Non wr).alloc _).trans0 h4
      have b6 := h4.obj (heap_alloc_new wr _) (fun e => e)
      have e1 := blk_cell b6 1
      have e2 := blk_cell b6 2
      have hl6 := blk_lt b6
      simp at e1 e2
      have T3 := Lib.hid (hTt.out.ext E3')
      have R3 := Lib.hid (hRt.out.ext E3')
      have E3 := Lib.hid (hEr.out.trans0 E3')
      have B6 := Lib.hid b6
      have z3 := E3'.size
      unfold AskR.val
      clear h4 E3' b6 d0 d1 d2 d3 d4
      go_wp2_with fail
      refine (AskR_calls (R3.out.ext ((Ext.refl Non w3).alloc _)) hG.out x.ses x.seq q0 q1).mono ?_
      rw [HA.out]
      rintro e w4 ⟨rfl, h4⟩
      have E4' : Ext Non w3 w4 := ((Ext.refl Non w3).alloc _).trans0 h4
      have b7 := h4.obj (heap_alloc_new w3 _) (fun e => e)
      have b6 := E4'.obj B6.out (fun e => e)
      have e0 := blk_cell b6 0
      have e1 := blk_cell b6 1
      have e2 := blk_cell b6 2
      have e3 := blk_cell b6 3
      have e4 := blk_cell b6 4
      have f0 := blk_cell b7 0
      have f1 := blk_cell b7 1
      have hl6 := blk_lt b6
      have hl7 := blk_lt b7
      simp at e0 e1 e2 e3 e4 f0 f1
      have z4 := E4'.size
      have T5 : Hid (TabAt (w4.alloc (.cells #[.int .i64 a.err, .int .i64 a.n] 25)) (Both w.heap.size g r) g t) := (T3.out.ext E4').ext ((Ext.refl Non w4).alloc _)
      have R5 : Hid (RefAt (w4.alloc (.cells #[.int .i64 a.err, .int .i64 a.n] 25)) (Both w.heap.size g r) r t) := (R3.out.ext E4').ext ((Ext.refl Non w4).alloc _)
      have E5 : Hid (Ext Non w (w4.alloc (.cells #[.int .i64 a.err, .int .i64 a.n] 25))) := (E3.out.trans0 E4').alloc _
      have B65 : Hid ((w4.alloc (.cells #[.int .i64 a.err, .int .i64 a.n] 25)).heap[wr.heap.size]? = some (.cells #[.int .i64 x.op, .int .i64 x.ses, .int .i64 x.seq, .int .i64 x.err, .int .i64 x.n] 27)) := blk_alloc b6 _
      have z5 : Hid (wr.heap.size < (w4.alloc (.cells #[.int .i64 a.err, .int .i64 a.n] 25)).heap.size) := by simp [Hid]; omega
      unfold AskR.val
      have hcs : x.kind < 2 ∨ x.kind = 2 ∨ x.kind = 3 ∨ 3 < x.kind := by omega
      clear h4 E4' b6 b7
      rcases hcs with hk | hk | hk | hk
      · have HG9 := Lib.hid hG.out.open_
        unfold Do.kind at hk

        go_wp2_with fail
        have g0 := blk_cell B65.out 0
        have g1 := blk_cell B65.out 1
        have g2 := blk_cell B65.out 2
        have g3 := blk_cell B65.out 3
        have g4 := blk_cell B65.out 4
        simp at g0 g1 g2 g3 g4
        generalize w4.alloc (.cells #[.int .i64 a.err, .int .i64 a.n] 25) = w5 at T5 R5 E5 B65 z5 g0 g1 g2 g3 g4 ⊢
        have z5' := z5.out
        have hl5 := blk_lt B65.out
        clear e0 e1 e2 e3 e4 f0 f1 z3 z4 hl6 hl7

        refine (Open_calls (ok := Both w.heap.size g r) T5.out hG.out.last0 (fun i hi => ⟨by omega, by omega, by omega⟩) OG.out).mono ?_
        rintro e w6 ⟨rfl, h5, h6⟩
        have R6 := Lib.hid (R5.out.only h6 OG.out (fun e => hgr e.symm))
        have T6 := Lib.hid h5
        have E6 : Hid (Ext Non w w6) := E5.out.trans h6 (fun i hi e => by
          have e' : i = g := e
          omega)
        have z6 := h6.size
        clear h5 h6
        go_wp2_with fail
        refine (OpenR_calls (ok := Both w.heap.size g r) R6.out hG.out (fun i hi => ⟨by omega, by omega, by omega⟩) OR.out).mono ?_
        rintro e w9 ⟨rfl, h5, h6⟩
        have T9 := Lib.hid (T6.out.only h6 OR.out hgr)
        have R9 := Lib.hid h5
        have E9 : Hid (Ext Non w w9) := E6.out.trans h6 (fun i hi e => by
          have e' : i = r := e
          omega)
        have z9 := h6.size
        clear h5 h6
        go_wp2_with fail
        generalize (open_ t).tab = t2 at T9 R9 HG9

        refine (List_calls (ok := Both w.heap.size g r) T9.out HG9.out.few (fun i hi => ⟨by omega, by omega, by omega⟩)).mono ?_
        rintro e w10 ⟨v', rfl, h3, h4⟩
        obtain ⟨A3, c3, rfl, hc3, hm3⟩ := h3.slice
        obtain ⟨vr, hbr, hrr⟩ := R9.out.ext h4
        obtain ⟨Ar, cr, rfl, hcr, hmr⟩ := hrr.slice
        have f1 := blk_cell hbr 1
        simp at f1
        have hlr := blk_lt hbr
        have hfew := HG9.out.few
        have RF := Lib.hid hrr
        have O10 := Lib.hid h3
        have E10 := Lib.hid h4
        clear hbr hrr h3 h4
        go_wp2_with (go_at_call 24; refine (Same_eq O10.out.rd RF.out hfew).mono ?_; rintro e w11 ⟨rfl, h5⟩; have E11 := Lib.hid (E10.out.trans0 h5); have O11 := Lib.hid (O10.out.ext0 h5); clear h5)
        have PB : Hid (0 < t2.seats.length → ∃ g2 cur, A3 = some ⟨g2, 0, none⟩ ∧ w9.heap.size ≤ g2 ∧ w11.heap[g2]? = some (.cells cur 47 (0, 0)) ∧ cur.size = c3 * 4) := by
          intro hpos
          obtain ⟨_, inner, ho, _⟩ := O11.out
          rcases ho.2 with ⟨h, h'⟩ | ⟨g2, cap, cur, h, hb, hh, _, _, hs, _⟩
          · simp at h; omega
          · simp at h
            obtain ⟨rfl, rfl⟩ := h
            exact ⟨g2, cur, rfl, hb, hh, hs⟩
        clear f1 hlr
        go_loopw [133] (fun i wr => ∃ m : Nat, i = .int .i64 m ∧ m ≤ t2.seats.length ∧ Hid (Ext Non w9 wr) ∧ Hid (0 < t2.seats.length → ∃ g2 cur, A3 = some ⟨g2, 0, none⟩ ∧ w9.heap.size ≤ g2 ∧ wr.heap[g2]? = some (.cells cur 47 (0, 0)) ∧ cur.size = c3 * 4)) (fun i _ => t2.seats.length - (intOf i).toNat)
        case atStart => exact ⟨0, rfl, by omega, E11.out, PB.out⟩
        case round =>
          obtain ⟨m, rfl, hm, EQ, PQ⟩ := hrel
          by_cases hml : m < t2.seats.length
          · obtain ⟨g2, cur, rfl, hg2, hb2, hs2⟩ := PQ.out (by omega)
            obtain ⟨u, hu⟩ : ∃ u, wr.cell? ⟨g2, m * 4 + 1, none⟩ = some u := ⟨_, (cell_of_row wr g2 (m * 4 + 1) cur 47 (0, 0) hb2).trans (Array.getElem?_eq_getElem (by omega))⟩
            have hz := blk_frozen hb2 (m * 4 + 1)
            have p0 : (m : Int) < (t2.seats.length : Int) := by omega
            have p1 : (0 : Int) ≤ (m : Int) := by omega
            have HB2 := Lib.hid hb2
            clear hb2
            go_wp2_with fail
            go_roundw
            case rel => exact ⟨m + 1, by simp, by omega, EQ.out.setNew hg2 _, fun _ => ⟨g2, _, rfl, hg2, blk_set HB2.out _ _, by simpa using hs2⟩⟩
            case measure => simp [intOf]; omega
          · obtain rfl : m = t2.seats.length := by omega
            go_wp2_with fail
            go_roundw
            case rel => exact ⟨j + 1, t2, by omega, by simp, HG9.out, T9.out.ext EQ.out, R9.out.ext EQ.out, E9.out.trans0 EQ.out, by have := EQ.out.size; omega, by have := EQ.out.size; omega⟩
            case measure => simp [intOf]; omega
      · have HG9 := Lib.hid (hG.out.close x.ses)
        have hk1 : decide (x.kind < 2) = false := by simp; omega
        have hk2 : (x.kind == 2) = true := by simpa using hk
        clear hk
        unfold Do.kind at hk1 hk2

        go_wp2_with fail
        have g0 := blk_cell B65.out 0
        have g1 := blk_cell B65.out 1
        have g2 := blk_cell B65.out 2
        have g3 := blk_cell B65.out 3
        have g4 := blk_cell B65.out 4
        simp at g0 g1 g2 g3 g4
        generalize w4.alloc (.cells #[.int .i64 a.err, .int .i64 a.n] 25) = w5 at T5 R5 E5 B65 z5 g0 g1 g2 g3 g4 ⊢
        have z5' := z5.out
        have hl5 := blk_lt B65.out
        clear e0 e1 e2 e3 e4 f0 f1 z3 z4 hl6 hl7

        go_region_held3 (fun W => W.cell? ⟨wr.heap.size, 1, none⟩ = some (.int .i64 x.ses)) (first | exact g1 | assumption) (first
          | (go_at_call 20
             refine (Close_calls (ok := Both w.heap.size g r) (T5.out.ext (Ext.drew (Ext.refl _ _))) hG.out x.ses s0 s1 (fun i hi => ⟨by simp at hi; omega, by simp at hi; omega, by simp at hi; omega⟩) OG.out).mono ?_
             rintro e w6 ⟨rfl, h5, h6⟩
             have g1 := h6.cell (p := ⟨wr.heap.size, 1, none⟩) g1 (by show ¬ (wr.heap.size = g); omega)
             have R6 := Lib.hid ((RefAt.ext R5.out (Ext.drew (Ext.refl _ _))).only h6 OG.out (fun e => hgr e.symm))
             have T6 := Lib.hid h5
             have E6 : Hid (Ext Non w w6) := (Ext.drew E5.out).trans h6 (fun i hi e => by
               have e' : i = g := e
               omega)
             have z6 := h6.size
             simp at z6
             clear h5 h6)
          | (go_at_call 21
             refine (CloseR_calls (ok := Both w.heap.size g r) R6.out hG.out x.ses (fun i hi => ⟨by omega, by omega, by omega⟩) OR.out).mono ?_
             rintro e w9 ⟨rfl, h5, h6⟩
             have g1 := h6.cell (p := ⟨wr.heap.size, 1, none⟩) g1 (by show ¬ (wr.heap.size = r); omega)
             have T9 := Lib.hid (T6.out.only h6 OR.out hgr)
             have R9 := Lib.hid h5
             have E9 : Hid (Ext Non w w9) := E6.out.trans h6 (fun i hi e => by
               have e' : i = r := e
               omega)
             have z9 := h6.size
             clear h5 h6)
          | fail)
        go_wp2_with fail
        generalize (close t x.ses).2 = t2 at T9 R9 HG9

        refine (List_calls (ok := Both w.heap.size g r) T9.out HG9.out.few (fun i hi => ⟨by omega, by omega, by omega⟩)).mono ?_
        rintro e w10 ⟨v', rfl, h3, h4⟩
        obtain ⟨A3, c3, rfl, hc3, hm3⟩ := h3.slice
        obtain ⟨vr, hbr, hrr⟩ := R9.out.ext h4
        obtain ⟨Ar, cr, rfl, hcr, hmr⟩ := hrr.slice
        have f1 := blk_cell hbr 1
        simp at f1
        have hlr := blk_lt hbr
        have hfew := HG9.out.few
        have RF := Lib.hid hrr
        have O10 := Lib.hid h3
        have E10 := Lib.hid h4
        clear hbr hrr h3 h4
        go_wp2_with (go_at_call 24; refine (Same_eq O10.out.rd RF.out hfew).mono ?_; rintro e w11 ⟨rfl, h5⟩; have E11 := Lib.hid (E10.out.trans0 h5); have O11 := Lib.hid (O10.out.ext0 h5); clear h5)
        have PB : Hid (0 < t2.seats.length → ∃ g2 cur, A3 = some ⟨g2, 0, none⟩ ∧ w9.heap.size ≤ g2 ∧ w11.heap[g2]? = some (.cells cur 47 (0, 0)) ∧ cur.size = c3 * 4) := by
          intro hpos
          obtain ⟨_, inner, ho, _⟩ := O11.out
          rcases ho.2 with ⟨h, h'⟩ | ⟨g2, cap, cur, h, hb, hh, _, _, hs, _⟩
          · simp at h; omega
          · simp at h
            obtain ⟨rfl, rfl⟩ := h
            exact ⟨g2, cur, rfl, hb, hh, hs⟩
        clear f1 hlr
        go_loopw [133] (fun i wr => ∃ m : Nat, i = .int .i64 m ∧ m ≤ t2.seats.length ∧ Hid (Ext Non w9 wr) ∧ Hid (0 < t2.seats.length → ∃ g2 cur, A3 = some ⟨g2, 0, none⟩ ∧ w9.heap.size ≤ g2 ∧ wr.heap[g2]? = some (.cells cur 47 (0, 0)) ∧ cur.size = c3 * 4)) (fun i _ => t2.seats.length - (intOf i).toNat)
        case atStart => exact ⟨0, rfl, by omega, E11.out, PB.out⟩
        case round =>
          obtain ⟨m, rfl, hm, EQ, PQ⟩ := hrel
          by_cases hml : m < t2.seats.length
          · obtain ⟨g2, cur, rfl, hg2, hb2, hs2⟩ := PQ.out (by omega)
            obtain ⟨u, hu⟩ : ∃ u, wr.cell? ⟨g2, m * 4 + 1, none⟩ = some u := ⟨_, (cell_of_row wr g2 (m * 4 + 1) cur 47 (0, 0) hb2).trans (Array.getElem?_eq_getElem (by omega))⟩
            have hz := blk_frozen hb2 (m * 4 + 1)
            have p0 : (m : Int) < (t2.seats.length : Int) := by omega
            have p1 : (0 : Int) ≤ (m : Int) := by omega
            have HB2 := Lib.hid hb2
            clear hb2
            go_wp2_with fail
            go_roundw
            case rel => exact ⟨m + 1, by simp, by omega, EQ.out.setNew hg2 _, fun _ => ⟨g2, _, rfl, hg2, blk_set HB2.out _ _, by simpa using hs2⟩⟩
            case measure => simp [intOf]; omega
          · obtain rfl : m = t2.seats.length := by omega
            go_wp2_with fail
            go_roundw
            case rel => exact ⟨j + 1, t2, by omega, by simp, HG9.out, T9.out.ext EQ.out, R9.out.ext EQ.out, E9.out.trans0 EQ.out, by have := EQ.out.size; omega, by have := EQ.out.size; omega⟩
            case measure => simp [intOf]; omega
      · have hk1 : decide (x.kind < 2) = false := by simp; omega
        have hk2 : (x.kind == 2) = false := by rw [beq_eq_false_iff_ne]; omega
        have hk3 : decide (3 < x.kind) = false := by simp; omega
        clear hk
        unfold Do.kind at hk1 hk2 hk3

        go_wp2_with fail
        have g0 := blk_cell B65.out 0
        have g1 := blk_cell B65.out 1
        have g2 := blk_cell B65.out 2
        have g3 := blk_cell B65.out 3
        have g4 := blk_cell B65.out 4
        simp at g0 g1 g2 g3 g4
        generalize w4.alloc (.cells #[.int .i64 a.err, .int .i64 a.n] 25) = w9 at T5 R5 E5 B65 z5 g0 g1 g2 g3 g4 ⊢
        have z5' := z5.out
        have hl5 := blk_lt B65.out
        clear e0 e1 e2 e3 e4 f0 f1 z3 z4 hl6 hl7

        obtain ⟨t2, ht2⟩ : ∃ t2, t = t2 := ⟨_, rfl⟩
        have T9 := Lib.hid T5.out
        have R9 := Lib.hid R5.out
        have E9 := Lib.hid E5.out
        have HG9 := Lib.hid hG.out
        rw [ht2] at T9 R9 HG9
        clear ht2

        refine (List_calls (ok := Both w.heap.size g r) T9.out HG9.out.few (fun i hi => ⟨by omega, by omega, by omega⟩)).mono ?_
        rintro e w10 ⟨v', rfl, h3, h4⟩
        obtain ⟨A3, c3, rfl, hc3, hm3⟩ := h3.slice
        obtain ⟨vr, hbr, hrr⟩ := R9.out.ext h4
        obtain ⟨Ar, cr, rfl, hcr, hmr⟩ := hrr.slice
        have f1 := blk_cell hbr 1
        simp at f1
        have hlr := blk_lt hbr
        have hfew := HG9.out.few
        have RF := Lib.hid hrr
        have O10 := Lib.hid h3
        have E10 := Lib.hid h4
        clear hbr hrr h3 h4
        go_wp2_with (go_at_call 24; refine (Same_eq O10.out.rd RF.out hfew).mono ?_; rintro e w11 ⟨rfl, h5⟩; have E11 := Lib.hid (E10.out.trans0 h5); have O11 := Lib.hid (O10.out.ext0 h5); clear h5)
        have PB : Hid (0 < t2.seats.length → ∃ g2 cur, A3 = some ⟨g2, 0, none⟩ ∧ w9.heap.size ≤ g2 ∧ w11.heap[g2]? = some (.cells cur 47 (0, 0)) ∧ cur.size = c3 * 4) := by
          intro hpos
          obtain ⟨_, inner, ho, _⟩ := O11.out
          rcases ho.2 with ⟨h, h'⟩ | ⟨g2, cap, cur, h, hb, hh, _, _, hs, _⟩
          · simp at h; omega
          · simp at h
            obtain ⟨rfl, rfl⟩ := h
            exact ⟨g2, cur, rfl, hb, hh, hs⟩
        clear f1 hlr
        go_loopw [133] (fun i wr => ∃ m : Nat, i = .int .i64 m ∧ m ≤ t2.seats.length ∧ Hid (Ext Non w9 wr) ∧ Hid (0 < t2.seats.length → ∃ g2 cur, A3 = some ⟨g2, 0, none⟩ ∧ w9.heap.size ≤ g2 ∧ wr.heap[g2]? = some (.cells cur 47 (0, 0)) ∧ cur.size = c3 * 4)) (fun i _ => t2.seats.length - (intOf i).toNat)
        case atStart => exact ⟨0, rfl, by omega, E11.out, PB.out⟩
        case round =>
          obtain ⟨m, rfl, hm, EQ, PQ⟩ := hrel
          by_cases hml : m < t2.seats.length
          · obtain ⟨g2, cur, rfl, hg2, hb2, hs2⟩ := PQ.out (by omega)
            obtain ⟨u, hu⟩ : ∃ u, wr.cell? ⟨g2, m * 4 + 1, none⟩ = some u := ⟨_, (cell_of_row wr g2 (m * 4 + 1) cur 47 (0, 0) hb2).trans (Array.getElem?_eq_getElem (by omega))⟩
            have hz := blk_frozen hb2 (m * 4 + 1)
            have p0 : (m : Int) < (t2.seats.length : Int) := by omega
            have p1 : (0 : Int) ≤ (m : Int) := by omega
            have HB2 := Lib.hid hb2
            clear hb2
            go_wp2_with fail
            go_roundw
            case rel => exact ⟨m + 1, by simp, by omega, EQ.out.setNew hg2 _, fun _ => ⟨g2, _, rfl, hg2, blk_set HB2.out _ _, by simpa using hs2⟩⟩
            case measure => simp [intOf]; omega
          · obtain rfl : m = t2.seats.length := by omega
            go_wp2_with fail
            go_roundw
            case rel => exact ⟨j + 1, t2, by omega, by simp, HG9.out, T9.out.ext EQ.out, R9.out.ext EQ.out, E9.out.trans0 EQ.out, by have := EQ.out.size; omega, by have := EQ.out.size; omega⟩
            case measure => simp [intOf]; omega
      · have HG9 := Lib.hid (hG.out.keep x.ses x.seq x.err x.n q1)
        have hk1 : decide (x.kind < 2) = false := by simp; omega
        have hk2 : (x.kind == 2) = false := by rw [beq_eq_false_iff_ne]; omega
        unfold Do.kind at hk hk1 hk2

        go_wp2_with fail
        have g0 := blk_cell B65.out 0
        have g1 := blk_cell B65.out 1
        have g2 := blk_cell B65.out 2
        have g3 := blk_cell B65.out 3
        have g4 := blk_cell B65.out 4
        simp at g0 g1 g2 g3 g4
        generalize w4.alloc (.cells #[.int .i64 a.err, .int .i64 a.n] 25) = w5 at T5 R5 E5 B65 z5 g0 g1 g2 g3 g4 ⊢
        have z5' := z5.out
        have hl5 := blk_lt B65.out
        clear e0 e1 e2 e3 e4 f0 f1 z3 z4 hl6 hl7

        have S5 : Hid (Ext Non w5 w5) := Ext.refl _ _
        go_region_held3 (fun W => W.cell? ⟨wr.heap.size, 1, none⟩ = some (.int .i64 x.ses) ∧ W.cell? ⟨wr.heap.size, 2, none⟩ = some (.int .i64 x.seq) ∧ W.cell? ⟨wr.heap.size, 3, none⟩ = some (.int .i64 x.err) ∧ W.cell? ⟨wr.heap.size, 4, none⟩ = some (.int .i64 x.n)) (first | exact ⟨g1, g2, g3, g4⟩ | assumption) (first
          | (go_at_call 13
             refine (Keep_calls (ok := Both w.heap.size g r) (T5.out.ext (Ext.drew (Ext.refl _ _))) hG.out x.ses x.seq x.err x.n s0 s1 q1 (fun i hi => ⟨by simp at hi; omega, by simp at hi; omega, by simp at hi; omega⟩)).mono ?_
             rintro e w6 ⟨rfl, h5, h6⟩
             have g1 := h6.cell (p := ⟨wr.heap.size, 1, none⟩) g1 (by show ¬ (wr.heap.size = g); omega)
             have g2 := h6.cell (p := ⟨wr.heap.size, 2, none⟩) g2 (by show ¬ (wr.heap.size = g); omega)
             have g3 := h6.cell (p := ⟨wr.heap.size, 3, none⟩) g3 (by show ¬ (wr.heap.size = g); omega)
             have g4 := h6.cell (p := ⟨wr.heap.size, 4, none⟩) g4 (by show ¬ (wr.heap.size = g); omega)
             have R6 := Lib.hid ((RefAt.ext R5.out (Ext.drew (Ext.refl _ _))).only h6 OG.out (fun e => hgr e.symm))
             have T6 := Lib.hid h5
             have E6 : Hid (Ext Non w w6) := (Ext.drew E5.out).trans h6 (fun i hi e => by
               have e' : i = g := e
               omega)
             have z6 := h6.size
             simp at z6
             clear h5 h6)
          | (go_at_call 22
             refine (KeepR_calls (ok := Both w.heap.size g r) R6.out hG.out x.ses x.seq x.err x.n q0 q1 (fun i hi => ⟨by omega, by omega, by omega⟩) OR.out).mono ?_
             rintro e w9 ⟨rfl, h5, h6⟩
             have g1 := h6.cell (p := ⟨wr.heap.size, 1, none⟩) g1 (by show ¬ (wr.heap.size = r); omega)
             have g2 := h6.cell (p := ⟨wr.heap.size, 2, none⟩) g2 (by show ¬ (wr.heap.size = r); omega)
             have g3 := h6.cell (p := ⟨wr.heap.size, 3, none⟩) g3 (by show ¬ (wr.heap.size = r); omega)
             have g4 := h6.cell (p := ⟨wr.heap.size, 4, none⟩) g4 (by show ¬ (wr.heap.size = r); omega)
             have T9 := Lib.hid (T6.out.only h6 OR.out hgr)
             have R9 := Lib.hid h5
             have E9 : Hid (Ext Non w w9) := E6.out.trans h6 (fun i hi e => by
               have e' : i = r := e
               omega)
             have z9 := h6.size
             clear h5 h6)
          | fail)
        go_wp2_with fail
        generalize (keep t x.ses x.seq x.err x.n).2 = t2 at T9 R9 HG9

        refine (List_calls (ok := Both w.heap.size g r) T9.out HG9.out.few (fun i hi => ⟨by omega, by omega, by omega⟩)).mono ?_
        rintro e w10 ⟨v', rfl, h3, h4⟩
        obtain ⟨A3, c3, rfl, hc3, hm3⟩ := h3.slice
        obtain ⟨vr, hbr, hrr⟩ := R9.out.ext h4
        obtain ⟨Ar, cr, rfl, hcr, hmr⟩ := hrr.slice
        have f1 := blk_cell hbr 1
        simp at f1
        have hlr := blk_lt hbr
        have hfew := HG9.out.few
        have RF := Lib.hid hrr
        have O10 := Lib.hid h3
        have E10 := Lib.hid h4
        clear hbr hrr h3 h4
        go_wp2_with (go_at_call 24; refine (Same_eq O10.out.rd RF.out hfew).mono ?_; rintro e w11 ⟨rfl, h5⟩; have E11 := Lib.hid (E10.out.trans0 h5); have O11 := Lib.hid (O10.out.ext0 h5); clear h5)
        have PB : Hid (0 < t2.seats.length → ∃ g2 cur, A3 = some ⟨g2, 0, none⟩ ∧ w9.heap.size ≤ g2 ∧ w11.heap[g2]? = some (.cells cur 47 (0, 0)) ∧ cur.size = c3 * 4) := by
          intro hpos
          obtain ⟨_, inner, ho, _⟩ := O11.out
          rcases ho.2 with ⟨h, h'⟩ | ⟨g2, cap, cur, h, hb, hh, _, _, hs, _⟩
          · simp at h; omega
          · simp at h
            obtain ⟨rfl, rfl⟩ := h
            exact ⟨g2, cur, rfl, hb, hh, hs⟩
        clear f1 hlr
        go_loopw [133] (fun i wr => ∃ m : Nat, i = .int .i64 m ∧ m ≤ t2.seats.length ∧ Hid (Ext Non w9 wr) ∧ Hid (0 < t2.seats.length → ∃ g2 cur, A3 = some ⟨g2, 0, none⟩ ∧ w9.heap.size ≤ g2 ∧ wr.heap[g2]? = some (.cells cur 47 (0, 0)) ∧ cur.size = c3 * 4)) (fun i _ => t2.seats.length - (intOf i).toNat)
        case atStart => exact ⟨0, rfl, by omega, E11.out, PB.out⟩
        case round =>
          obtain ⟨m, rfl, hm, EQ, PQ⟩ := hrel
          by_cases hml : m < t2.seats.length
          · obtain ⟨g2, cur, rfl, hg2, hb2, hs2⟩ := PQ.out (by omega)
            obtain ⟨u, hu⟩ : ∃ u, wr.cell? ⟨g2, m * 4 + 1, none⟩ = some u := ⟨_, (cell_of_row wr g2 (m * 4 + 1) cur 47 (0, 0) hb2).trans (Array.getElem?_eq_getElem (by omega))⟩
            have hz := blk_frozen hb2 (m * 4 + 1)
            have p0 : (m : Int) < (t2.seats.length : Int) := by omega
            have p1 : (0 : Int) ≤ (m : Int) := by omega
            have HB2 := Lib.hid hb2
            clear hb2
            go_wp2_with fail
            go_roundw
            case rel => exact ⟨m + 1, by simp, by omega, EQ.out.setNew hg2 _, fun _ => ⟨g2, _, rfl, hg2, blk_set HB2.out _ _, by simpa using hs2⟩⟩
            case measure => simp [intOf]; omega
          · obtain rfl : m = t2.seats.length := by omega
            go_wp2_with fail
            go_roundw
            case rel => exact ⟨j + 1, t2, by omega, by simp, HG9.out, T9.out.ext EQ.out, R9.out.ext EQ.out, E9.out.trans0 EQ.out, by have := EQ.out.size; omega, by have := EQ.out.size; omega⟩
            case measure => simp [intOf]; omega
    · obtain rfl : j = l.length := by omega
      go_wp2_with (first | (go_at_call 11; refine (awake_calls _).mono ?_; rintro e w4 ⟨rfl, he⟩; have HE4 := Lib.hid he; clear he) | fail)
      go_ret
      exact ⟨rfl, hEr.out.trans0 HE4.out⟩
end Go.Proofs.Ytiebnjkjgobklaa
