/- SessBytes. -/
import Derived.Test.YtiebnjkjgobklaaG1
import Derived.Test.YtiebnjkjgobklaaG4
import Derived.Test.YtiebnjkjgobklaaG5
import Derived.Test.YtiebnjkjgobklaaG6
import Derived.Test.YtiebnjkjgobklaaRefused
import Derived.Deep.CutBlock
namespace Go.Proofs.Ytiebnjkjgobklaa
open Go.RowKit Go.TM

def Both (B g r : Nat) : Nat → Prop := fun k => B ≤ k ∧ k ≠ g ∧ k ≠ r
theorem rd_n {w : World} {ok : Nat → Prop} {A : Option Addr} {n c : Nat} {bs : List UInt8} (H : Rd Kd.u8 w ok (.slice A n c) bs) : n = bs.length := by
  obtain ⟨_, _, he, _, _⟩ := H.slice
  simp only [Value.slice.injEq] at he
  exact he.2.1
set_option maxHeartbeats 16000000 in
set_option maxRecDepth 100000 in
theorem bytes_calls {w : World} {ok ok2 ok3 : Nat → Prop} {A A2 A3 : Option Addr} {c c2 n3 c3 : Nat} {l l2 : List Do} {inb : List UInt8} (H : Rd doK w ok (.slice A l.length c) l) (hl : ∀ k ∈ l, k.ok)
    (H2 : Rd doK w ok2 (.slice A2 l2.length c2) l2) (hl2 : ∀ k ∈ l2, k.ok) (H3 : Rd Kd.u8 w ok3 (.slice A3 n3 c3) inb) :
    Calls Try.prog 10 #[.slice A l.length c, .slice A2 l2.length c2, .slice A3 n3 c3] w fun e w' => e = .returned (.bool true) ∧ Ext Non w w' := by
  have HH := Lib.hid H
  have HL := Lib.hid hl
  have HH2 := Lib.hid H2
  have HL2 := Lib.hid hl2
  have HI : Hid (Rd Kd.u8 w (fun k => k < w.heap.size) (.slice A3 n3 c3) inb) := H3.bound.mono (fun k hk => hk.2)
  obtain rfl : n3 = inb.length := rd_n H3
  clear H hl H2 hl2 H3
  have E00 : Hid (Ext Non w w) := Ext.refl _ _
  by_cases hq1 : (l.length : Int) > 500
  · go_enter Try.func10, Try.ntmps10
    go_wp2_with fail
    refine (awake_calls _).mono ?_
    rintro e w90 ⟨rfl, he⟩
    have E90 := Lib.hid (E00.out.trans0 he)
    clear he
    go_wp2_with fail
    go_ret
    exact ⟨rfl, E90.out⟩
  by_cases hq2 : (l2.length : Int) > 500
  · go_enter Try.func10, Try.ntmps10
    go_wp2_with fail
    refine (awake_calls _).mono ?_
    rintro e w90 ⟨rfl, he⟩
    have E90 := Lib.hid (E00.out.trans0 he)
    clear he
    go_wp2_with fail
    go_ret
    exact ⟨rfl, E90.out⟩
  by_cases hq3 : (inb.length : Int) > 8192
  · go_enter Try.func10, Try.ntmps10
    go_wp2_with fail
    refine (awake_calls _).mono ?_
    rintro e w90 ⟨rfl, he⟩
    have E90 := Lib.hid (E00.out.trans0 he)
    clear he
    go_wp2_with fail
    go_ret
    exact ⟨rfl, E90.out⟩
  have k1 : (l.length : Int) ≤ 500 := by omega
  have k2 : (l2.length : Int) ≤ 500 := by omega
  have k3 : (inb.length : Int) ≤ 8192 := by omega
  clear hq1 hq2 hq3
  go_enter Try.func10, Try.ntmps10
  go_wp2_with fail
  refine (New_calls w).mono ?_
  rintro e w1 ⟨g, rfl, hg0, hg1, hT, hE⟩
  have HT := Lib.hid hT
  have HE := Lib.hid hE
  clear hT hE
  go_wp2_with fail
  have hT2 : TabAt (w1.alloc (.cells #[.int .i64 0, .slice none 0 0] 40)) (Both w.heap.size g w1.heap.size) g ⟨[], 0⟩ := (HT.out _).ext ((Ext.refl Non w1).alloc _)
  have hR2 : RefAt (w1.alloc (.cells #[.int .i64 0, .slice none 0 0] 40)) (Both w.heap.size g w1.heap.size) w1.heap.size ⟨[], 0⟩ := ⟨_, heap_alloc_new w1 _, Rd.nil _ _ _⟩
  have hE2 : Ext Non w (w1.alloc (.cells #[.int .i64 0, .slice none 0 0] 40)) := HE.out.alloc _
  have hgr : g ≠ w1.heap.size := by omega
  have hr0 : w.heap.size ≤ w1.heap.size := HE.out.size
  have hg2 : g < (w1.alloc (.cells #[.int .i64 0, .slice none 0 0] 40)).heap.size := by simp; omega
  have hr2 : w1.heap.size < (w1.alloc (.cells #[.int .i64 0, .slice none 0 0] 40)).heap.size := by simp
  generalize w1.alloc (.cells #[.int .i64 0, .slice none 0 0] 40) = w2 at hT2 hR2 hE2 hg2 hr2 ⊢
  generalize w1.heap.size = r at hT2 hR2 hgr hr0 hr2 ⊢
  have HT2 := Lib.hid hT2
  have HR2 := Lib.hid hR2
  have HE2 := Lib.hid hE2
  have OG : Hid (¬ Both w.heap.size g r g) := fun h => h.2.1 rfl
  have OR : Hid (¬ Both w.heap.size g r r) := fun h => h.2.2 rfl
  clear hT2 hR2 hE2 HT HE hg1
  go_loopw [36] (fun i wr => ∃ (j : Nat) (t : Tab), j ≤ l.length ∧ i = .int .i64 j ∧ Hid (Good t.seats t.last) ∧ Hid (Small j t.seats) ∧ Hid (TabAt wr (Both w.heap.size g r) g t) ∧ Hid (RefAt wr (Both w.heap.size g r) r t) ∧ Hid (Ext Non w wr) ∧ g < wr.heap.size ∧ r < wr.heap.size) (fun i _ => l.length - (intOf i).toNat)
  case atStart => exact ⟨0, ⟨[], 0⟩, by omega, rfl, Good.zero, Small.nil _, HT2.out, HR2.out, HE2.out, hg2, hr2⟩
  case round =>
    obtain ⟨j, t, hj, rfl, hG, hS, hTt, hRt, hEr, hgl, hrl⟩ := hrel
    by_cases hlt : j < l.length
    · obtain ⟨x, hx⟩ : ∃ x, l[j]? = some x := ⟨_, List.getElem?_eq_getElem hlt⟩
      obtain ⟨gl, off, rfl, _, hgll, hc⟩ := (HH.out.ext0 hEr.out).flat_at hx
      have d0 := hc 0 _ rfl
      have d1 := hc 1 _ rfl
      have d2 := hc 2 _ rfl
      have d3 := hc 3 _ rfl
      have d4 := hc 4 _ rfl
      simp only [Nat.add_zero] at d0
      have HX := Lib.hid (HL.out x (List.mem_of_getElem? hx))
      have hsz := hEr.out.size
      have hEr1 : Hid (Ext Non w (wr.alloc (.cells #[.int .i64 x.op, .int .i64 x.ses, .int .i64 x.seq, .int .i64 x.err, .int .i64 x.n] 27))) := hEr.out.alloc _
      clear hc hx HT2 HR2 HE2
      by_cases b0 : x.err < 0
      · go_wp2_with fail
        refine (awake_calls _).mono ?_
        rintro e w90 ⟨rfl, he⟩
        have E90 := Lib.hid (hEr1.out.trans0 he)
        clear he
        go_wp2_with fail
        go_ret
        exact ⟨rfl, E90.out⟩
      by_cases b1 : x.err > 1000
      · go_wp2_with fail
        refine (awake_calls _).mono ?_
        rintro e w90 ⟨rfl, he⟩
        have E90 := Lib.hid (hEr1.out.trans0 he)
        clear he
        go_wp2_with fail
        go_ret
        exact ⟨rfl, E90.out⟩
      by_cases b2 : x.n < 0
      · go_wp2_with fail
        refine (awake_calls _).mono ?_
        rintro e w90 ⟨rfl, he⟩
        have E90 := Lib.hid (hEr1.out.trans0 he)
        clear he
        go_wp2_with fail
        go_ret
        exact ⟨rfl, E90.out⟩
      by_cases b3 : x.n > 1099511627776
      · go_wp2_with fail
        refine (awake_calls _).mono ?_
        rintro e w90 ⟨rfl, he⟩
        have E90 := Lib.hid (hEr1.out.trans0 he)
        clear he
        go_wp2_with fail
        go_ret
        exact ⟨rfl, E90.out⟩
      have b0' : 0 ≤ x.err := by omega
      have b1' : x.err ≤ 1000 := by omega
      have b2' : 0 ≤ x.n := by omega
      have b3' : x.n ≤ 1099511627776 := by omega
      clear b0 b1 b2 b3
      have HG9 := Lib.hid (hG.out.step x HX.out)
      have HS9 : Hid (Small ((j + 1 : Nat) : Int) (step t x).2.seats) := by
        have := hS.out.step (by omega) x ⟨b0', b1'⟩ ⟨b2', b3'⟩
        exact_mod_cast this
      obtain ⟨xb, hxb⟩ : ∃ xb, xb = wr.heap.size := ⟨_, rfl⟩
      obtain ⟨wA, hwA⟩ : ∃ wA, wr.alloc (.cells #[.int .i64 x.op, .int .i64 x.ses, .int .i64 x.seq, .int .i64 x.err, .int .i64 x.n] 27) = wA := ⟨_, rfl⟩
      have hbA : wA.heap[xb]? = some (.cells #[.int .i64 x.op, .int .i64 x.ses, .int .i64 x.seq, .int .i64 x.err, .int .i64 x.n] 27 (0, 0)) := by rw [← hwA, hxb]; exact heap_alloc_new _ _
      have heA : Ext Non wr wA := by rw [← hwA]; exact (Ext.refl Non wr).alloc _
      have TA := Lib.hid (hTt.out.ext heA)
      have RA := Lib.hid (hRt.out.ext heA)
      have EA := Lib.hid (hEr.out.trans0 heA)
      have BA := Lib.hid hbA
      have HWA := Lib.hid hwA
      have HXB := Lib.hid hxb
      have hxg : xb ≠ g := by omega
      have hxr : xb ≠ r := by omega
      have hszA := heA.size
      clear hEr1 hbA hwA hxb heA
      go_upto_region 9 with fail
      rw [← HXB.out, HWA.out]
      have g0 := blk_cell BA.out 0
      have g1 := blk_cell BA.out 1
      have g2 := blk_cell BA.out 2
      have g3 := blk_cell BA.out 3
      have g4 := blk_cell BA.out 4
      have hlA := blk_lt BA.out
      simp at g0 g1 g2 g3 g4
      clear d0 d1 d2 d3 d4
      go_wp2_with fail
      refine (does_calls (ok := Both w.heap.size g r) TA.out hG.out x HX.out (fun i hi => ⟨by omega, by omega, by omega⟩) OG.out).mono ?_
      rintro e w7 ⟨rfl, h5, h6⟩
      have T7 := Lib.hid h5
      have R7 := Lib.hid (RA.out.only h6 OG.out (fun e => hgr e.symm))
      have E7 : Hid (Ext Non w w7) := EA.out.trans h6 (fun i hi e => by
        have e' : i = g := e
        omega)
      have hb7 := h6.obj BA.out (fun e => hxg e)
      have g0 := blk_cell hb7 0
      have g1 := blk_cell hb7 1
      have g2 := blk_cell hb7 2
      have g3 := blk_cell hb7 3
      have g4 := blk_cell hb7 4
      have hl7 := blk_lt hb7
      have hz7 := h6.size
      simp at g0 g1 g2 g3 g4
      clear h5 h6 hb7 hlA
      have hcs : x.kind < 2 ∨ x.kind = 2 ∨ x.kind = 3 ∨ 3 < x.kind := by omega
      obtain ⟨⟨s0, s1⟩, ⟨q0, q1⟩⟩ := And.intro HX.out.ses HX.out.seq
      rcases hcs with hk | hk | hk | hk
      · have hst : (step t x).2 = (open_ t).tab := by unfold step; rw [if_pos hk]
        have HST := Lib.hid hst
        unfold Do.kind at hk
        clear hst
        go_wp2_with fail
        refine (OpenR_calls (ok := Both w.heap.size g r) R7.out hG.out (fun i hi => ⟨by omega, by omega, by omega⟩) OR.out).mono ?_
        rintro e w9 ⟨rfl, h5, h6⟩
        rw [← HST.out] at h5
        have T9 := Lib.hid (T7.out.only h6 OR.out hgr)
        have R9 := Lib.hid h5
        have E9 : Hid (Ext Non w w9) := E7.out.trans h6 (fun i hi e => by
          have e' : i = r := e
          omega)
        have hz9 := h6.size
        clear h5 h6
        go_wp2_with fail
        go_roundw
        case rel => exact ⟨j + 1, (step t x).2, by omega, by simp, HG9.out, HS9.out, T9.out, R9.out, E9.out, by omega, by omega⟩
        case measure => simp [intOf]; omega
      · have hst : (step t x).2 = (close t x.ses).2 := by unfold step; rw [if_neg (by omega), if_pos hk]
        have HST := Lib.hid hst
        have hk' : (bits BinOp.and IntKind.i64 x.op 7 == 2) = true := by unfold Do.kind at hk; simpa using hk
        have hk2 : ¬ bits BinOp.and IntKind.i64 x.op 7 < 2 := by unfold Do.kind at hk; omega
        clear hst hk
        go_wp2_with fail
        refine (CloseR_calls (ok := Both w.heap.size g r) R7.out hG.out x.ses (fun i hi => ⟨by omega, by omega, by omega⟩) OR.out).mono ?_
        rintro e w9 ⟨rfl, h5, h6⟩
        rw [← HST.out] at h5
        have T9 := Lib.hid (T7.out.only h6 OR.out hgr)
        have R9 := Lib.hid h5
        have E9 : Hid (Ext Non w w9) := E7.out.trans h6 (fun i hi e => by
          have e' : i = r := e
          omega)
        have hz9 := h6.size
        clear h5 h6
        go_wp2_with fail
        go_roundw
        case rel => exact ⟨j + 1, (step t x).2, by omega, by simp, HG9.out, HS9.out, T9.out, R9.out, E9.out, by omega, by omega⟩
        case measure => simp [intOf]; omega
      · have hst : (step t x).2 = t := by unfold step; rw [if_neg (by omega), if_neg (by omega), if_pos hk]
        have HST := Lib.hid hst
        have hk' : (bits BinOp.and IntKind.i64 x.op 7 == 2) = false := by unfold Do.kind at hk; simp; omega
        have hk2 : ¬ bits BinOp.and IntKind.i64 x.op 7 < 2 := by unfold Do.kind at hk; omega
        have hk3 : ¬ 3 < bits BinOp.and IntKind.i64 x.op 7 := by unfold Do.kind at hk; omega
        clear hst hk
        go_wp2_with fail
        go_roundw
        case rel => exact ⟨j + 1, (step t x).2, by omega, by simp, HG9.out, HS9.out, T7.out, by rw [HST.out]; exact R7.out, E7.out, by omega, by omega⟩
        case measure => simp [intOf]; omega
      · have hst : (step t x).2 = (keep t x.ses x.seq x.err x.n).2 := by unfold step; rw [if_neg (by omega), if_neg (by omega), if_neg (by omega)]
        have HST := Lib.hid hst
        have hk' : (bits BinOp.and IntKind.i64 x.op 7 == 2) = false := by unfold Do.kind at hk; simp; omega
        have hk2 : ¬ bits BinOp.and IntKind.i64 x.op 7 < 2 := by unfold Do.kind at hk; omega
        have hk3 : 3 < bits BinOp.and IntKind.i64 x.op 7 := by unfold Do.kind at hk; omega
        clear hst hk
        go_wp2_with fail
        refine (KeepR_calls (ok := Both w.heap.size g r) R7.out hG.out x.ses x.seq x.err x.n q0 q1 (fun i hi => ⟨by omega, by omega, by omega⟩) OR.out).mono ?_
        rintro e w9 ⟨rfl, h5, h6⟩
        rw [← HST.out] at h5
        have T9 := Lib.hid (T7.out.only h6 OR.out hgr)
        have R9 := Lib.hid h5
        have E9 : Hid (Ext Non w w9) := E7.out.trans h6 (fun i hi e => by
          have e' : i = r := e
          omega)
        have hz9 := h6.size
        clear h5 h6
        go_wp2_with fail
        go_roundw
        case rel => exact ⟨j + 1, (step t x).2, by omega, by simp, HG9.out, HS9.out, T9.out, R9.out, E9.out, by omega, by omega⟩
        case measure => simp [intOf]; omega
    · obtain rfl : j = l.length := by omega
      have HSM : Hid (Small 500 t.seats) := hS.out.up (by omega)
      have HV := Lib.hid (Vals.of_small (l := t.seats) (fun s hs => ⟨hS.out.err s hs, hS.out.n s hs⟩))
      obtain ⟨wL, hwL⟩ : ∃ wL, wL = wr := ⟨_, rfl⟩
      subst hwL
      have HZI : Hid (inb.length ≤ 8192) := by show _ ≤ _; omega
      clear hlt hS HT2 HR2 HE2
      go_upto_region 18 with fail
      refine Last.start_ (S := fun _ => True) (ds := []) #[false, false, false, false, false, false, false, false, false] (by kernel_rfl) (by rfl) (by rfl) trivial (fun hS => ?_)
      have N4 : Hid (Ext Non wL wL.drew) := (Ext.refl _ _).drew
      refine Last.take_ (i := 0) (N := some 93) (v := .pointer (some ⟨g, 0, none⟩)) #[true, false, false, false, false, false, false, false, false] (by simp only [List.getElem?_toArray, List.getElem?_cons_zero]; rfl) rfl (by kernel_rfl) (by exact fun _ _ _ h => h) (Or.inl ⟨by rfl, fun W hW => by first | rfl | (try dsimp only at hW); go_simp⟩) hS rfl ?_
      simp only [Act.put, List.setIfInBounds_toArray, List.set_cons_zero, List.set_cons_succ]
      refine Last.take_ (i := 1) (N := some 94) (v := .slice A3 inb.length c3) #[true, true, false, false, false, false, false, false, false] (by simp only [List.getElem?_toArray, List.getElem?_cons_zero, List.getElem?_cons_succ]; rfl) rfl (by kernel_rfl) (by exact fun _ _ _ h => h) (Or.inl ⟨by rfl, fun W hW => by first | rfl | (try dsimp only at hW); go_simp⟩) hS rfl ?_
      simp only [Act.put, List.setIfInBounds_toArray, List.set_cons_zero, List.set_cons_succ]
      refine Last.take_ (i := 4) (N := some 97) (v := .pointer (some ⟨r, 0, none⟩)) #[true, true, false, false, true, false, false, false, false] (by simp only [List.getElem?_toArray, List.getElem?_cons_zero, List.getElem?_cons_succ]; rfl) rfl (by kernel_rfl) (by exact fun _ _ _ h => h) (Or.inl ⟨by rfl, fun W hW => by first | rfl | (try dsimp only at hW); go_simp⟩) hS rfl ?_
      simp only [Act.put, List.setIfInBounds_toArray, List.set_cons_zero, List.set_cons_succ]
      refine Last.take_ (i := 5) (N := some 98) (v := .slice A3 inb.length c3) #[true, true, false, false, true, true, false, false, false] (by simp only [List.getElem?_toArray, List.getElem?_cons_zero, List.getElem?_cons_succ]; rfl) rfl (by kernel_rfl) (by exact fun _ _ _ h => h) (Or.inl ⟨by rfl, fun W hW => by first | rfl | (try dsimp only at hW); go_simp⟩) hS rfl ?_
      simp only [Act.put, List.setIfInBounds_toArray, List.set_cons_zero, List.set_cons_succ]
      refine Last.one_ (i := 2) (N := some 95) #[true, true, true, false, true, true, false, false, false] (by simp only [List.getElem?_toArray, List.getElem?_cons_zero, List.getElem?_cons_succ]; rfl) rfl (by kernel_rfl) (by decide) (fun K hK => ?_)
      refine Last.goes_ Try.func27 (by kernel_rfl) rfl #[.pointer (some ⟨g, 0, none⟩), .slice A3 inb.length c3] (by rfl) rfl rfl (by simp [Act.eval]) ?_
      refine (Put_calls (ok := fun _ => True) (t := t) (g := g) (bs := inb) (by obtain ⟨v, hb, hr⟩ := hTt.out.ext N4.out; exact ⟨v, hb, hr.mono (fun _ _ => trivial)⟩) hG.out HV.out ((HI.out.ext0 (hEr.out.trans0 N4.out)).mono (fun _ _ => trivial)) (by have := HZI.out; omega) (fun _ _ => trivial)).mono ?_
      rintro e w7 ⟨v7, rfl, h3, h4⟩
      obtain ⟨A7, n7, c7, rfl, hn7⟩ := rd_abs8 h3
      have cv7 := conv_rd h3
      have R7 := Lib.hid h3
      have N7 := Lib.hid (N4.out.trans0 h4)
      clear h3 h4 hn7
      refine ⟨_, rfl, ?_⟩
      refine hK.out _ _ (trivial) (fun hS => ?_)
      try simp only [Act.put, List.setIfInBounds_toArray, List.set_cons_zero, List.set_cons_succ]
      refine strong_ (S2 := fun W => (convert 52 9 (.slice A7 n7 c7)).run Try.prog W = .ok (.string ⟨(inb ++ putB t).toArray⟩) W) cv7 (fun _ _ => trivial) ?_
      clear hS
      have hS := cv7
      refine Last.take_ (i := 3) (N := some 96) (v := .string ⟨(inb ++ putB t).toArray⟩) #[true, true, true, true, true, true, false, false, false] (by simp only [List.getElem?_toArray, List.getElem?_cons_zero, List.getElem?_cons_succ]; rfl) rfl (by kernel_rfl) (by exact fun _ _ _ h => h) (Or.inl ⟨by rfl, fun W hW => by first | rfl | (try dsimp only at hW); go_simp⟩) hS rfl ?_
      simp only [Act.put, List.setIfInBounds_toArray, List.set_cons_zero, List.set_cons_succ]
      refine Last.one_ (i := 6) (N := some 99) #[true, true, true, true, true, true, true, false, false] (by simp only [List.getElem?_toArray, List.getElem?_cons_zero, List.getElem?_cons_succ]; rfl) rfl (by kernel_rfl) (by decide) (fun K hK => ?_)
      refine Last.goes_ Try.func34 (by kernel_rfl) rfl #[.pointer (some ⟨r, 0, none⟩), .slice A3 inb.length c3] (by rfl) rfl rfl (by simp [Act.eval]) ?_
      refine (RPut_calls (ok := fun _ => True) (t := t) (g := r) (bs := inb) (by obtain ⟨v, hb, hr⟩ := hRt.out.ext N7.out; exact ⟨v, hb, hr.mono (fun _ _ => trivial)⟩) hG.out HV.out ((HI.out.ext0 (hEr.out.trans0 N7.out)).mono (fun _ _ => trivial)) (by have := HZI.out; omega) (fun _ _ => trivial)).mono ?_
      rintro e w8 ⟨v8, rfl, h3, h4⟩
      obtain ⟨A8, n8, c8, rfl, hn8⟩ := rd_abs8 h3
      have cv7 := conv_rd (R7.out.ext0 h4)
      have cv8 := conv_rd h3
      have N8 := Lib.hid (N7.out.trans0 h4)
      clear h3 h4 hn8
      refine ⟨_, rfl, ?_⟩
      refine hK.out _ _ (cv7) (fun hS => ?_)
      try simp only [Act.put, List.setIfInBounds_toArray, List.set_cons_zero, List.set_cons_succ]
      refine strong_ (S2 := fun W => (convert 52 9 (.slice A8 n8 c8)).run Try.prog W = .ok (.string ⟨(inb ++ putB t).toArray⟩) W ∧ (convert 52 9 (.slice A7 n7 c7)).run Try.prog W = .ok (.string ⟨(inb ++ putB t).toArray⟩) W) ⟨cv8, cv7⟩ (fun _ h => h.2) ?_
      clear hS
      have hS := And.intro cv8 cv7
      refine Last.take_ (i := 7) (N := some 100) (v := .string ⟨(inb ++ putB t).toArray⟩) #[true, true, true, true, true, true, true, true, false] (by simp only [List.getElem?_toArray, List.getElem?_cons_zero, List.getElem?_cons_succ]; rfl) rfl (by kernel_rfl) (by exact fun _ _ _ h => h) (Or.inl ⟨by rfl, fun W hW => by have hW := hW.1; first | exact hW | rfl | go_simp⟩) hS rfl ?_
      simp only [Act.put, List.setIfInBounds_toArray, List.set_cons_zero, List.set_cons_succ]
      refine Last.take_ (i := 8) (N := some 101) (v := .bool false) #[true, true, true, true, true, true, true, true, true] (by simp only [List.getElem?_toArray, List.getElem?_cons_zero, List.getElem?_cons_succ]; rfl) rfl (by kernel_rfl) (by exact fun _ _ _ h => h) (Or.inl ⟨by rfl, fun W hW => by first | rfl | (try dsimp only at hW); go_simp⟩) hS rfl ?_
      simp only [Act.put, List.setIfInBounds_toArray, List.set_cons_zero, List.set_cons_succ]
      refine Last.done_ (by kernel_rfl) ?_
      clear cv7 cv8 hS R7 N7 N4
      have HPL : Hid (9 ≤ 9) := Nat.le_refl _
      go_wp2_with fail
      refine (Put_own (ok := fun _ => True) (t := t) (g := g) (bs := []) (by obtain ⟨v, hb, hr⟩ := hTt.out.ext N8.out; exact ⟨v, hb, hr.mono (fun _ _ => trivial)⟩) hG.out HV.out (Rd.nil _ _ _) (by simp) (fun _ _ => trivial)).mono ?_
      rintro e w9 ⟨v9, rfl, h3, h4⟩
      rw [List.nil_append] at h3
      have hpl : (putB t).length ≤ 1000 := by
        have h8 := hG.out.few
        have := nums_le ([t.last, (t.seats.length : Int)] ++ t.seats.flatMap four) (fun x hx => by
          rcases List.mem_append.1 hx with hx | hx
          · have := hG.out.last1
            simp at hx
            omega
          · obtain ⟨y, hy, hy'⟩ := List.mem_flatMap.1 hx
            have h5 := HV.out y hy
            have h6 := hG.out.high y hy
            have h7 := hG.out.seq1 y hy
            have h8 := hG.out.last1
            simp [four] at hy'
            omega)
        have h9 : (t.seats.flatMap four).length ≤ 32 := by rw [four_len]; omega
        rw [List.length_append] at this
        simp only [List.length_cons, List.length_nil] at this
        unfold putB
        omega
      have O9 := Lib.hid h3
      have F9 := Lib.hid h4
      have N9 := Lib.hid (N8.out.trans0 h4)
      have HPB := Lib.hid hpl
      clear h3 h4 hpl
      go_wp2_with (first | (at_builtin; refine app_old (w0 := w8) (ok := fun _ => True) (xs := putB t) (ys := inb) rfl _ _ rfl rfl rfl O9.out F9.out ((HI.out.ext0 (hEr.out.trans0 N8.out)).mono (fun _ _ => trivial)) (fun _ _ => trivial) (by have := HPB.out; have := HZI.out; omega) ?_; intro A10 n10 c10 w10 hn10 O10 F10 z10) | fail)
      obtain ⟨bs, hbs⟩ : ∃ bs, putB t ++ inb = bs := ⟨_, rfl⟩
      have BK := Lib.hid (back t inb hG.out (HSM.out.up (by omega)))
      have hlen : Hid (bs.length = (putB t).length + inb.length) := by rw [← hbs]; exact List.length_append
      rw [hbs] at BK O10 hn10
      have E10 := Lib.hid (hEr.out.trans0 (N8.out.trans0 F10.out))
      have N10 := Lib.hid (N8.out.trans0 F10.out)
      refine (Read_calls O10.out.rd (by have := hlen.out; have := HPB.out; have := HZI.out; omega)).mono ?_
      rintro e w11 ⟨g2, rfl, hg20, hg21, h1, h2⟩
      have D11 := Lib.hid h1
      have E11 := Lib.hid (E10.out.trans0 h2)
      have N11 := Lib.hid (N10.out.trans0 h2)
      have hzL : wL.heap.size ≤ w10.heap.size := N10.out.size
      clear h1 h2 hbs
      go_wp2_with fail
      refine (Get_calls D11.out (by omega) (fun k hk => by omega) (by omega)).mono ?_
      rintro e w12 ⟨hres, h1, h2⟩
      have hpok := BK.out.1
      rcases hres with ⟨hp, -⟩ | ⟨-, q, rfl, hq0, hq1, hT⟩
      · rw [hpok] at hp
        cases hp
      rw [BK.out.2.1] at hT
      rw [BK.out.2.2.1, BK.out.2.2.2] at h1
      have D12 := Lib.hid h1
      have TQ12 := Lib.hid hT
      have E12 := Lib.hid (E11.out.trans h2 (fun i hi e => by have e1 : i = g2 := e; have := hEr.out.size; omega))
      have N12 := Lib.hid (N11.out.trans h2 (fun i hi e => by have e1 : i = g2 := e; omega))
      have TG12 : Hid (TabAt w12 (fun k => w.heap.size ≤ k ∧ k ≠ g ∧ k ≠ q) g t) := by
        obtain ⟨v, hb, hr⟩ := hTt.out
        obtain ⟨v', hb', hr'⟩ : TabAt w12 (fun k => Both w.heap.size g r k ∧ k < wL.heap.size) g t := TabAt.ext ⟨v, hb, hr.bound⟩ N12.out
        exact ⟨v', hb', hr'.mono (fun k hk => ⟨hk.1.1, hk.1.2.1, by have := hk.2; omega⟩)⟩
      obtain ⟨lf, hlf⟩ : ∃ lf : Int, lf = ((bs.length - (putB t).length : Nat) : Int) := ⟨_, rfl⟩
      have hlf2 : lf = (inb.length : Int) := by have := hlen.out; omega
      have HLF := Lib.hid hlf
      have hgq : g < q := by omega
      clear h1 h2 hT hpok hlf hRt
      go_wp2_with fail
      refine (Left_calls D12.out (by have := hlen.out; omega)).mono ?_
      rw [← HLF.out, hlf2]
      rintro e w13 ⟨rfl, he⟩
      have X13 := Lib.hid he
      clear he
      go_wp2_with fail
      refine (List_calls (ok := fun _ => True) (t := t) (g := g) (by obtain ⟨v, hb, hr⟩ := TG12.out.ext X13.out; exact ⟨v, hb, hr.mono (fun _ _ => trivial)⟩) hG.out.few (fun _ _ => trivial)).mono ?_
      rintro e w14 ⟨v14, rfl, h3, h4⟩
      obtain ⟨A14, c14, rfl, _, _⟩ := h3.slice
      have O14 := Lib.hid h3
      have X14 := Lib.hid (X13.out.trans0 h4)
      clear h3 h4
      go_wp2_with fail
      refine (List_calls (ok := fun _ => True) (t := t) (g := q) (by obtain ⟨v, hb, hr⟩ := TQ12.out.ext X14.out; exact ⟨v, hb, hr.mono (fun _ _ => trivial)⟩) hG.out.few (fun _ _ => trivial)).mono ?_
      rintro e w15 ⟨v15, rfl, h3, h4⟩
      obtain ⟨A15, c15, rfl, _, _⟩ := h3.slice
      have O15 := Lib.hid h3
      have O14' := Lib.hid (O14.out.ext0 h4)
      have X15 := Lib.hid (X14.out.trans0 h4)
      clear h3 h4
      go_wp2_with fail
      refine (Equal_eq O14'.out.rd O15.out.rd hG.out.few).mono ?_
      rintro e w16 ⟨rfl, h4⟩
      have X16 := Lib.hid (X15.out.trans0 h4)
      have TG16 := Lib.hid (TG12.out.ext X16.out)
      have TQ16 := Lib.hid (TQ12.out.ext X16.out)
      have E16 := Lib.hid (E12.out.trans0 X16.out)
      have hg16 : g < w16.heap.size := by have := X16.out.size; omega
      have hq16 : q < w16.heap.size := by have := X16.out.size; omega
      have OQ : Hid (¬ (fun k => w.heap.size ≤ k ∧ k ≠ g ∧ k ≠ q) q) := fun h => h.2.2 rfl
      have OG2 : Hid (¬ (fun k => w.heap.size ≤ k ∧ k ≠ g ∧ k ≠ q) g) := fun h => h.2.1 rfl
      have hgw : w.heap.size ≤ g := hg0
      clear h4 O14 O14' O15 X13 X14 X15 X16 TG12 TQ12 E12 N12 D12 D11 O10 O9 BK E11 E10 N11 N10 N9 F9 F10 z10 hn10
      go_wp2_with fail
      go_loopw [131] (fun i wr => ∃ (j : Nat) (T : Tab), j ≤ l2.length ∧ i = .int .i64 j ∧ Hid (Good T.seats T.last) ∧ Hid (TabAt wr (fun k => w.heap.size ≤ k ∧ k ≠ g ∧ k ≠ q) g T) ∧ Hid (TabAt wr (fun k => q < k) q T) ∧ Hid (Ext Non w wr) ∧ g < wr.heap.size ∧ q < wr.heap.size) (fun i _ => l2.length - (intOf i).toNat)
      case atStart => exact ⟨0, t, by omega, rfl, hG.out, TG16.out, TQ16.out, E16.out, hg16, hq16⟩
      case round =>
        obtain ⟨j, T, hj2, rfl, hG2, TG, TQ, EW, hgl2, hql2⟩ := hrel
        by_cases hlt : j < l2.length
        · obtain ⟨x, hx⟩ : ∃ x, l2[j]? = some x := ⟨_, List.getElem?_eq_getElem hlt⟩
          obtain ⟨gl, off, rfl, _, hgll, hc⟩ := (HH2.out.ext0 EW.out).flat_at hx
          have d0 := hc 0 _ rfl
          have d1 := hc 1 _ rfl
          have d2 := hc 2 _ rfl
          have d3 := hc 3 _ rfl
          have d4 := hc 4 _ rfl
          simp only [Nat.add_zero] at d0
          have HX := Lib.hid (HL2.out x (List.mem_of_getElem? hx))
          have hsz := EW.out.size
          obtain ⟨xb, hxb⟩ : ∃ xb, xb = wr.heap.size := ⟨_, rfl⟩
          obtain ⟨wA, hwA⟩ : ∃ wA, wr.alloc (.cells #[.int .i64 x.op, .int .i64 x.ses, .int .i64 x.seq, .int .i64 x.err, .int .i64 x.n] 27) = wA := ⟨_, rfl⟩
          have hbA : wA.heap[xb]? = some (.cells #[.int .i64 x.op, .int .i64 x.ses, .int .i64 x.seq, .int .i64 x.err, .int .i64 x.n] 27 (0, 0)) := by rw [← hwA, hxb]; exact heap_alloc_new _ _
          have heA : Ext Non wr wA := by rw [← hwA]; exact (Ext.refl Non wr).alloc _
          have TGA := Lib.hid (TG.out.ext heA)
          have TQA := Lib.hid (TQ.out.ext heA)
          have EA := Lib.hid (EW.out.trans0 heA)
          have BA := Lib.hid hbA
          have HWA := Lib.hid hwA
          have HXB := Lib.hid hxb
          have hxg : xb ≠ g := by omega
          have hxq : xb ≠ q := by omega
          have hszA := heA.size
          have hst : Hid (Good (step T x).2.seats (step T x).2.last) := hG2.out.step x HX.out
          clear hbA hwA hxb heA hc hx
          go_upto_region 27 with fail
          rw [← HXB.out, HWA.out]
          have g0 := blk_cell BA.out 0
          have g1 := blk_cell BA.out 1
          have g2 := blk_cell BA.out 2
          have g3 := blk_cell BA.out 3
          have g4 := blk_cell BA.out 4
          simp at g0 g1 g2 g3 g4
          refine Last.start_ (S := fun W => W.cell? ⟨xb, 0, none⟩ = some (.int .i64 x.op) ∧ W.cell? ⟨xb, 1, none⟩ = some (.int .i64 x.ses) ∧ W.cell? ⟨xb, 2, none⟩ = some (.int .i64 x.seq) ∧ W.cell? ⟨xb, 3, none⟩ = some (.int .i64 x.err) ∧ W.cell? ⟨xb, 4, none⟩ = some (.int .i64 x.n)) (ds := []) #[false, false, false, false, false, false, false, false, false, false, false, false, false, false, false] (by kernel_rfl) (by rfl) (by rfl) ⟨g0, g1, g2, g3, g4⟩ (fun hS => ?_)
          have N4 : Hid (Ext Non wA wA.drew) := (Ext.refl _ _).drew
          refine Last.take_ (i := 0) (N := some 135) (v := .pointer (some ⟨g, 0, none⟩)) #[true, false, false, false, false, false, false, false, false, false, false, false, false, false, false] (by simp only [List.getElem?_toArray, List.getElem?_cons_zero]; rfl) rfl (by kernel_rfl) (by exact fun _ _ _ h => h) (Or.inl ⟨by rfl, fun W hW => by first | rfl | (try dsimp only at hW); go_simp⟩) hS rfl ?_
          simp only [Act.put, List.setIfInBounds_toArray, List.set_cons_zero, List.set_cons_succ]
          refine Last.take_ (i := 1) (N := some 136) (v := .agg #[.int .i64 x.op, .int .i64 x.ses, .int .i64 x.seq, .int .i64 x.err, .int .i64 x.n]) #[true, true, false, false, false, false, false, false, false, false, false, false, false, false, false] (by simp only [List.getElem?_toArray, List.getElem?_cons_zero, List.getElem?_cons_succ]; rfl) rfl (by kernel_rfl) (by exact fun _ _ _ h => h) (Or.inl ⟨by rfl, fun W hW => by first | rfl | (try dsimp only at hW); go_simp⟩) hS rfl ?_
          simp only [Act.put, List.setIfInBounds_toArray, List.set_cons_zero, List.set_cons_succ]
          refine Last.take_ (i := 3) (N := some 138) (v := .pointer (some ⟨q, 0, none⟩)) #[true, true, false, true, false, false, false, false, false, false, false, false, false, false, false] (by simp only [List.getElem?_toArray, List.getElem?_cons_zero, List.getElem?_cons_succ]; rfl) rfl (by kernel_rfl) (by exact fun _ _ _ h => h) (Or.inl ⟨by rfl, fun W hW => by first | rfl | (try dsimp only at hW); go_simp⟩) hS rfl ?_
          simp only [Act.put, List.setIfInBounds_toArray, List.set_cons_zero, List.set_cons_succ]
          refine Last.take_ (i := 4) (N := some 139) (v := .agg #[.int .i64 x.op, .int .i64 x.ses, .int .i64 x.seq, .int .i64 x.err, .int .i64 x.n]) #[true, true, false, true, true, false, false, false, false, false, false, false, false, false, false] (by simp only [List.getElem?_toArray, List.getElem?_cons_zero, List.getElem?_cons_succ]; rfl) rfl (by kernel_rfl) (by exact fun _ _ _ h => h) (Or.inl ⟨by rfl, fun W hW => by first | rfl | (try dsimp only at hW); go_simp⟩) hS rfl ?_
          simp only [Act.put, List.setIfInBounds_toArray, List.set_cons_zero, List.set_cons_succ]
          refine Last.one_ (i := 2) (N := some 137) #[true, true, true, true, true, false, false, false, false, false, false, false, false, false, false] (by simp only [List.getElem?_toArray, List.getElem?_cons_zero, List.getElem?_cons_succ]; rfl) rfl (by kernel_rfl) (by decide) (fun K hK => ?_)
          refine Last.goes_ Try.func15 (by kernel_rfl) rfl #[.pointer (some ⟨g, 0, none⟩), .agg #[.int .i64 x.op, .int .i64 x.ses, .int .i64 x.seq, .int .i64 x.err, .int .i64 x.n]] (by rfl) rfl rfl (by simp [Act.eval]) ?_
          refine (does_calls (ok := fun k => w.heap.size ≤ k ∧ k ≠ g ∧ k ≠ q) (TGA.out.ext N4.out) hG2.out x HX.out (fun i hi => by have h1 : wA.heap.size ≤ i := hi; exact ⟨by omega, by omega, by omega⟩) OG2.out).mono ?_
          rintro e w5 ⟨rfl, h5, h6⟩
          have TG5 := Lib.hid h5
          have TQ5 := Lib.hid ((TQA.out.ext N4.out).only h6 (by omega) (by omega))
          have E5 : Hid (Ext Non w w5) := (EA.out.trans0 N4.out).trans h6 (fun i hi e => by
            have e' : i = g := e
            omega)
          have M5 : Hid (wA.heap.size ≤ w5.heap.size) := h6.size
          have g0 := h6.cell g0 (fun e => hxg e)
          have g1 := h6.cell g1 (fun e => hxg e)
          have g2 := h6.cell g2 (fun e => hxg e)
          have g3 := h6.cell g3 (fun e => hxg e)
          have g4 := h6.cell g4 (fun e => hxg e)
          clear h5 h6
          refine ⟨_, rfl, ?_⟩
          refine hK.out _ _ (⟨g0, g1, g2, g3, g4⟩) (fun hS => ?_)
          try simp only [Act.put, List.setIfInBounds_toArray, List.set_cons_zero, List.set_cons_succ]
          refine Last.one_ (i := 5) (N := some 140) #[true, true, true, true, true, true, false, false, false, false, false, false, false, false, false] (by simp only [List.getElem?_toArray, List.getElem?_cons_zero, List.getElem?_cons_succ]; rfl) rfl (by kernel_rfl) (by decide) (fun K hK => ?_)
          refine Last.goes_ Try.func15 (by kernel_rfl) rfl #[.pointer (some ⟨q, 0, none⟩), .agg #[.int .i64 x.op, .int .i64 x.ses, .int .i64 x.seq, .int .i64 x.err, .int .i64 x.n]] (by rfl) rfl rfl (by simp [Act.eval]) ?_
          refine (does_calls (ok := fun k => q < k) TQ5.out hG2.out x HX.out (fun i hi => by have := M5.out; omega) (by omega)).mono ?_
          rintro e w6 ⟨rfl, h5, h6⟩
          have TQ6 := Lib.hid h5
          have TG6 := Lib.hid (TG5.out.only h6 OQ.out (by omega))
          have E6 : Hid (Ext Non w w6) := E5.out.trans h6 (fun i hi e => by
            have e' : i = q := e
            omega)
          have M6 : Hid (wA.heap.size ≤ w6.heap.size) := Nat.le_trans M5.out h6.size
          have g0 := h6.cell g0 (fun e => hxq e)
          have g1 := h6.cell g1 (fun e => hxq e)
          have g2 := h6.cell g2 (fun e => hxq e)
          have g3 := h6.cell g3 (fun e => hxq e)
          have g4 := h6.cell g4 (fun e => hxq e)
          clear h5 h6
          refine ⟨_, rfl, ?_⟩
          refine hK.out _ _ (⟨g0, g1, g2, g3, g4⟩) (fun hS => ?_)
          try simp only [Act.put, List.setIfInBounds_toArray, List.set_cons_zero, List.set_cons_succ]
          refine Last.take_ (i := 6) (N := some 141) (v := .bool false) #[true, true, true, true, true, true, true, false, false, false, false, false, false, false, false] (by simp only [List.getElem?_toArray, List.getElem?_cons_zero, List.getElem?_cons_succ]; rfl) rfl (by kernel_rfl) (by exact fun _ _ _ h => h) (Or.inl ⟨by rfl, fun W hW => by first | rfl | (try dsimp only at hW); go_simp⟩) hS rfl ?_
          simp only [Act.put, List.setIfInBounds_toArray, List.set_cons_zero, List.set_cons_succ]
          refine Last.take_ (i := 7) (N := some 142) (v := .bool false) #[true, true, true, true, true, true, true, true, false, false, false, false, false, false, false] (by simp only [List.getElem?_toArray, List.getElem?_cons_zero, List.getElem?_cons_succ]; rfl) rfl (by kernel_rfl) (by exact fun _ _ _ h => h) (Or.inl ⟨by rfl, fun W hW => by first | rfl | (try dsimp only at hW); go_simp⟩) hS rfl ?_
          simp only [Act.put, List.setIfInBounds_toArray, List.set_cons_zero, List.set_cons_succ]
          refine Last.take_ (i := 8) (N := some 143) (v := .pointer (some ⟨g, 0, none⟩)) #[true, true, true, true, true, true, true, true, true, false, false, false, false, false, false] (by simp only [List.getElem?_toArray, List.getElem?_cons_zero, List.getElem?_cons_succ]; rfl) rfl (by kernel_rfl) (by exact fun _ _ _ h => h) (Or.inl ⟨by rfl, fun W hW => by first | rfl | (try dsimp only at hW); go_simp⟩) hS rfl ?_
          simp only [Act.put, List.setIfInBounds_toArray, List.set_cons_zero, List.set_cons_succ]
          refine Last.take_ (i := 10) (N := some 145) (v := .pointer (some ⟨q, 0, none⟩)) #[true, true, true, true, true, true, true, true, true, false, true, false, false, false, false] (by simp only [List.getElem?_toArray, List.getElem?_cons_zero, List.getElem?_cons_succ]; rfl) rfl (by kernel_rfl) (by exact fun _ _ _ h => h) (Or.inl ⟨by rfl, fun W hW => by first | rfl | (try dsimp only at hW); go_simp⟩) hS rfl ?_
          simp only [Act.put, List.setIfInBounds_toArray, List.set_cons_zero, List.set_cons_succ]
          refine Last.one_ (i := 9) (N := some 144) #[true, true, true, true, true, true, true, true, true, true, true, false, false, false, false] (by simp only [List.getElem?_toArray, List.getElem?_cons_zero, List.getElem?_cons_succ]; rfl) rfl (by kernel_rfl) (by decide) (fun K hK => ?_)
          refine Last.goes_ Try.func23 (by kernel_rfl) rfl #[.pointer (some ⟨g, 0, none⟩)] (by rfl) rfl rfl (by simp [Act.eval]) ?_
          refine (List_calls (ok := fun _ => True) (t := (step T x).2) (g := g) (by obtain ⟨v, hb, hr⟩ := TG6.out; exact ⟨v, hb, hr.mono (fun _ _ => trivial)⟩) hst.out.few (fun _ _ => trivial)).mono ?_
          rintro e w7 ⟨v7, rfl, h3, h4⟩
          obtain ⟨A7', c7', rfl, _, _⟩ := h3.slice
          have O7 := Lib.hid h3
          have X7 := Lib.hid h4
          clear h3 h4
          refine ⟨_, rfl, ?_⟩
          refine hK.out _ _ (⟨X7.out.cell g0 (fun e => e), X7.out.cell g1 (fun e => e), X7.out.cell g2 (fun e => e), X7.out.cell g3 (fun e => e), X7.out.cell g4 (fun e => e)⟩) (fun hS => ?_)
          try simp only [Act.put, List.setIfInBounds_toArray, List.set_cons_zero, List.set_cons_succ]
          refine Last.one_ (i := 11) (N := some 146) #[true, true, true, true, true, true, true, true, true, true, true, true, false, false, false] (by simp only [List.getElem?_toArray, List.getElem?_cons_zero, List.getElem?_cons_succ]; rfl) rfl (by kernel_rfl) (by decide) (fun K hK => ?_)
          refine Last.goes_ Try.func23 (by kernel_rfl) rfl #[.pointer (some ⟨q, 0, none⟩)] (by rfl) rfl rfl (by simp [Act.eval]) ?_
          refine (List_calls (ok := fun _ => True) (t := (step T x).2) (g := q) (by obtain ⟨v, hb, hr⟩ := TQ6.out.ext X7.out; exact ⟨v, hb, hr.mono (fun _ _ => trivial)⟩) hst.out.few (fun _ _ => trivial)).mono ?_
          rintro e w8' ⟨v8', rfl, h3, h4⟩
          obtain ⟨A8', c8', rfl, _, _⟩ := h3.slice
          have O8 := Lib.hid h3
          have O7' := Lib.hid (O7.out.ext0 h4)
          have X8 := Lib.hid (X7.out.trans0 h4)
          clear h3 h4
          refine ⟨_, rfl, ?_⟩
          refine hK.out _ _ (⟨X8.out.cell g0 (fun e => e), X8.out.cell g1 (fun e => e), X8.out.cell g2 (fun e => e), X8.out.cell g3 (fun e => e), X8.out.cell g4 (fun e => e)⟩) (fun hS => ?_)
          try simp only [Act.put, List.setIfInBounds_toArray, List.set_cons_zero, List.set_cons_succ]
          refine Last.one_ (i := 12) (N := some 147) #[true, true, true, true, true, true, true, true, true, true, true, true, true, false, false] (by simp only [List.getElem?_toArray, List.getElem?_cons_zero, List.getElem?_cons_succ]; rfl) rfl (by kernel_rfl) (by decide) (fun K hK => ?_)
          refine Last.goes_ Try.func28 (by kernel_rfl) rfl #[.slice A7' (step T x).2.seats.length c7', .slice A8' (step T x).2.seats.length c8'] (by rfl) rfl rfl (by simp [Act.eval]) ?_
          refine (Equal_eq O7'.out.rd O8.out.rd hst.out.few).mono ?_
          rintro e w9 ⟨rfl, h4⟩
          have X9 := Lib.hid (X8.out.trans0 h4)
          have TG9 := Lib.hid (TG6.out.ext X9.out)
          have TQ9 := Lib.hid (TQ6.out.ext X9.out)
          have E9 := Lib.hid (E6.out.trans0 X9.out)
          have M9 : Hid (wA.heap.size ≤ w9.heap.size) := Nat.le_trans M6.out X9.out.size
          clear h4
          refine ⟨_, rfl, ?_⟩
          refine hK.out _ _ (⟨X9.out.cell g0 (fun e => e), X9.out.cell g1 (fun e => e), X9.out.cell g2 (fun e => e), X9.out.cell g3 (fun e => e), X9.out.cell g4 (fun e => e)⟩) (fun hS => ?_)
          try simp only [Act.put, List.setIfInBounds_toArray, List.set_cons_zero, List.set_cons_succ]
          refine Last.take_ (i := 13) (N := some 148) (v := .bool false) #[true, true, true, true, true, true, true, true, true, true, true, true, true, true, false] (by simp only [List.getElem?_toArray, List.getElem?_cons_zero, List.getElem?_cons_succ]; rfl) rfl (by kernel_rfl) (by exact fun _ _ _ h => h) (Or.inl ⟨by rfl, fun W hW => by first | rfl | (try dsimp only at hW); go_simp⟩) hS rfl ?_
          simp only [Act.put, List.setIfInBounds_toArray, List.set_cons_zero, List.set_cons_succ]
          refine Last.take_ (i := 14) (N := some 149) (v := .bool false) #[true, true, true, true, true, true, true, true, true, true, true, true, true, true, true] (by simp only [List.getElem?_toArray, List.getElem?_cons_zero, List.getElem?_cons_succ]; rfl) rfl (by kernel_rfl) (by exact fun _ _ _ h => h) (Or.inl ⟨by rfl, fun W hW => by first | rfl | (try dsimp only at hW); go_simp⟩) hS rfl ?_
          simp only [Act.put, List.setIfInBounds_toArray, List.set_cons_zero, List.set_cons_succ]
          refine Last.done_ (by kernel_rfl) ?_
          go_wp2_with fail
          go_roundw
          case rel => exact ⟨j + 1, (step T x).2, by omega, by simp, hst.out, TG9.out, TQ9.out, E9.out, by have := M9.out; omega, by have := M9.out; omega⟩
          case measure => simp [intOf]; omega
        · obtain rfl : j = l2.length := by omega
          clear hlt
          go_wp2_with fail
          refine (awake_calls _).mono ?_
          rintro e w90 ⟨rfl, he⟩
          have E90 := Lib.hid (EW.out.trans0 he)
          clear he
          go_wp2_with fail
          go_ret
          exact ⟨rfl, E90.out⟩
end Go.Proofs.Ytiebnjkjgobklaa
