/- FilterHolds: the law holds of every filter and list of events. -/
import Derived.Test.YtooafilbmjnfmaaK0
import Derived.Test.YtooafilbmjnfmaaM4
import Derived.Test.YtooafilbmjnfmaaN3
namespace Go.Proofs.Ytooafilbmjnfmaa
open Go.RowKit Go.TM
theorem cells4 {w : World} {g : Nat} {a0 a1 a2 a3 : Value} {t : TypeId} (h : w.heap[g]? = some (.cells #[a0, a1, a2, a3] t (0, 0))) : w.cell? ⟨g, 0, none⟩ = some a0 ∧ w.cell? ⟨g, 1, none⟩ = some a1 ∧ w.cell? ⟨g, 2, none⟩ = some a2 ∧ w.cell? ⟨g, 3, none⟩ = some a3 := ⟨blk_cell h 0, blk_cell h 1, blk_cell h 2, blk_cell h 3⟩
theorem ten {w : World} {g q : Nat} {a0 a1 a2 a3 b0 b1 b2 b3 b4 b5 : Value} {t t' : TypeId} (h : w.heap[g]? = some (.cells #[a0, a1, a2, a3] t (0, 0))) (k : w.heap[q]? = some (.cells #[b0, b1, b2, b3, b4, b5] t' (0, 0))) :
    w.cell? ⟨g, 0, none⟩ = some a0 ∧ w.cell? ⟨g, 1, none⟩ = some a1 ∧ w.cell? ⟨g, 2, none⟩ = some a2 ∧ w.cell? ⟨g, 3, none⟩ = some a3 ∧ w.cell? ⟨q, 0, none⟩ = some b0 ∧ w.cell? ⟨q, 1, none⟩ = some b1 ∧ w.cell? ⟨q, 2, none⟩ = some b2 ∧ w.cell? ⟨q, 3, none⟩ = some b3 ∧ w.cell? ⟨q, 4, none⟩ = some b4 ∧ w.cell? ⟨q, 5, none⟩ = some b5 :=
  ⟨blk_cell h 0, blk_cell h 1, blk_cell h 2, blk_cell h 3, blk_cell k 0, blk_cell k 1, blk_cell k 2, blk_cell k 3, blk_cell k 4, blk_cell k 5⟩
set_option maxRecDepth 100000 in
set_option maxHeartbeats 32000000 in
theorem holds_calls {n : Nat} {f : Flt} {w : World} {ok ok1 : Nat → Prop} {x : Value} (hx : FV n w ok x f) (hok : okF (n + 1) f) {Aa : Option Addr} {ca : Nat} {la : List Ev} (ha : Rd evK w ok1 (.slice Aa la.length ca) la) (hao : ∀ x ∈ la, x.ok) :
    Calls Try.prog 11 #[x, .slice Aa la.length ca] w fun e w' => e = .returned (.bool true) ∧ Ext Non w w' := by
  obtain ⟨na, hna⟩ : ∃ na, la.length = na := ⟨_, rfl⟩
  rw [hna] at ha ⊢
  have RAw : Hid (Rd evK w (fun _ => True) (.slice Aa na ca) la) := ha.mono (fun _ _ => trivial)
  have HNA := Lib.hid hna
  have HAO := Lib.hid hao
  obtain ⟨b, hbb⟩ : ∃ b, lightF (n + 1) f = b := ⟨_, rfl⟩
  have HLO : Hid (b = true → okL (n + 1) f) := fun h => light_ok hok (hbb.trans h)
  have HX := Lib.hid hx
  have HOF := Lib.hid hok
  have HB := Lib.hid hbb
  clear hbb hok ha hna hao
  obtain ⟨v, rfl, hr⟩ := hx
  obtain ⟨op, key, val, kids⟩ := f
  obtain ⟨A, m, c, rfl, hlen⟩ := rd_abs hr
  clear hr hlen
  dsimp only [Flt.op, Flt.key, Flt.val] at HX ⊢
  go_enter Try.func11, Try.ntmps11
  go_wp2_with fail
  have E0 : Hid (Ext Non w (w.alloc (.cells #[.int .i64 op, .string key, .string val, .slice A m c] 24))) := (Ext.refl _ _).alloc _
  have B0 : Hid ((w.alloc (.cells #[.int .i64 op, .string key, .string val, .slice A m c] 24)).heap[w.heap.size]? = some (.cells #[.int .i64 op, .string key, .string val, .slice A m c] 24)) := blk_new _ _
  obtain ⟨w0, hw0⟩ : ∃ w0, w.alloc (.cells #[.int .i64 op, .string key, .string val, .slice A m c] 24) = w0 := ⟨_, rfl⟩
  rw [hw0] at E0 B0 ⊢
  have V0 := Lib.hid (HX.out.ext0 E0.out)
  have RA0 := Lib.hid (RAw.out.ext0 E0.out)
  clear hw0
  refine (light_calls V0.out HOF.out).mono ?_
  rw [HB.out]
  rintro e' w1 ⟨rfl, he⟩
  have E1 := Lib.hid (E0.out.trans0 he)
  have RA1 := Lib.hid (RA0.out.ext0 he)
  have B1 := Lib.hid (he.obj B0.out (fun h => h))
  clear he HB
  cases b with
  | false =>
    clear HLO
    go_wp2_with fail
    refine (awake_calls _).mono ?_
    rintro e' wz ⟨rfl, he⟩
    have EZ := Lib.hid (E1.out.trans0 he)
    clear he
    go_wp2_with fail
    go_ret
    exact ⟨rfl, EZ.out⟩
  | true =>
    have HLK := Lib.hid (HLO.out rfl)
    clear HLO
    go_wp2_with fail
    refine (few_calls RA1.out HAO.out).mono ?_
    rintro e' w2 ⟨b2, rfl, he, hb2⟩
    have HB2 := Lib.hid hb2
    have E2 := Lib.hid (E1.out.trans0 he)
    have B2 := Lib.hid (he.obj B1.out (fun h => h))
    clear he hb2
    cases b2 with
    | false =>
      clear HB2
      go_wp2_with fail
      refine (awake_calls _).mono ?_
      rintro e' wz ⟨rfl, he⟩
      have EZ := Lib.hid (E2.out.trans0 he)
      clear he
      go_wp2_with fail
      go_ret
      exact ⟨rfl, EZ.out⟩
    | true =>
      have HLE : Hid (la.length ≤ 200) := (HB2.out rfl).1
      have HSM : Hid (∀ x ∈ la, x.now.size ≤ 1000000 ∧ x.key.size ≤ maxLen) := fun x hx => ⟨by have := ((HB2.out rfl).2 x hx).2.2; omega, by have := ((HB2.out rfl).2 x hx).1; simp only [maxLen]; omega⟩
      have hna2 : na ≤ 200 := by have := HNA.out; have := HLE.out; omega
      clear HB2
      go_wp2_with fail
      go_loopw [19] (fun i wr => ∃ j : Nat, i = .int .i64 (j : Int) ∧ j ≤ na ∧ Hid (Ext Non w wr) ∧ Hid (wr.heap[w.heap.size]? = some (.cells #[.int .i64 op, .string key, .string val, .slice A m c] 24))) (fun i _ => na - (intOf i).toNat)
      case atStart => exact ⟨0, rfl, by omega, E2, B2⟩
      case round =>
        obtain ⟨j, rfl, hj, HE, HBF⟩ := hrel
        by_cases hlt : j < na
        · obtain ⟨e, he0⟩ : ∃ e, la[j]? = some e := ⟨_, List.getElem?_eq_getElem (by have := HNA.out; omega)⟩
          obtain ⟨ge, off, rfl, hge, hgl, d0, d1, d2, d3, d4, d5⟩ := ev_at (RAw.out.ext0 HE.out) he0
          have HSE := Lib.hid (HSM.out e (List.mem_of_getElem? he0))
          obtain ⟨q, hq⟩ : ∃ q, wr.heap.size = q := ⟨_, rfl⟩
          obtain ⟨w6, hw6⟩ : ∃ w6, wr.alloc (.cells #[.int .i64 e.pos, .string e.key, .bool e.had, .string e.old, .bool e.has, .string e.now] 42) = w6 := ⟨_, rfl⟩
          have hBE : w6.heap[q]? = some (.cells #[.int .i64 e.pos, .string e.key, .bool e.had, .string e.old, .bool e.has, .string e.now] 42) := by rw [← hw6, ← hq]; exact blk_new _ _
          have hE6 : Ext Non wr w6 := by rw [← hw6]; exact (Ext.refl _ _).alloc _
          have BE := Lib.hid hBE
          have BF := Lib.hid (hE6.obj HBF.out (fun h => h))
          have VF := Lib.hid ((HX.out.ext0 HE.out).ext0 hE6)
          have EW := Lib.hid (HE.out.trans0 hE6)
          have HW6 := Lib.hid hw6
          have HQ := Lib.hid hq
          obtain ⟨bh, hbh⟩ : ∃ bh, holdsP fieldF (n + 1) (.mk op key val kids) e = bh := ⟨_, rfl⟩
          have HB := Lib.hid hbh
          clear hBE hE6 hw6 hq he0 hbh
          go_wp2_with fail
          rw [HQ.out, HW6.out]
          cases bh with
          | true =>
            refine Last.start_ (S := fun W => W.cell? ⟨w.heap.size, 0, none⟩ = some (.int .i64 op) ∧ W.cell? ⟨w.heap.size, 1, none⟩ = some (.string key) ∧ W.cell? ⟨w.heap.size, 2, none⟩ = some (.string val) ∧ W.cell? ⟨w.heap.size, 3, none⟩ = some (.slice A m c) ∧ W.cell? ⟨q, 0, none⟩ = some (.int .i64 e.pos) ∧ W.cell? ⟨q, 1, none⟩ = some (.string e.key) ∧ W.cell? ⟨q, 2, none⟩ = some (.bool e.had) ∧ W.cell? ⟨q, 3, none⟩ = some (.string e.old) ∧ W.cell? ⟨q, 4, none⟩ = some (.bool e.has) ∧ W.cell? ⟨q, 5, none⟩ = some (.string e.now)) (ds := []) #[false, false, false, false, false, false, false] (by kernel_rfl) (by rfl) (by rfl) (ten (blk_drew BF.out) (blk_drew BE.out)) (fun hS => ?_)
            refine Last.take_ (i := 0) (N := some 23) (v := .agg #[.int .i64 op, .string key, .string val, .slice A m c]) #[true, false, false, false, false, false, false] (by simp only [List.getElem?_toArray, List.getElem?_cons_zero]; rfl) rfl (by kernel_rfl) (by exact fun _ _ _ h => h) (Or.inl ⟨by rfl, fun W hW => by first | rfl | (try dsimp only at hW); go_simp⟩) hS rfl ?_
            simp only [Act.put, List.setIfInBounds_toArray, List.set_cons_zero, List.set_cons_succ]
            refine Last.take_ (i := 1) (N := some 24) (v := .agg #[.int .i64 e.pos, .string e.key, .bool e.had, .string e.old, .bool e.has, .string e.now]) #[true, true, false, false, false, false, false] (by simp only [List.getElem?_toArray, List.getElem?_cons_zero, List.getElem?_cons_succ]; rfl) rfl (by kernel_rfl) (by exact fun _ _ _ h => h) (Or.inl ⟨by rfl, fun W hW => by first | rfl | (try dsimp only at hW); go_simp⟩) hS rfl ?_
            simp only [Act.put, List.setIfInBounds_toArray, List.set_cons_zero, List.set_cons_succ]
            refine Last.take_ (i := 3) (N := some 26) (v := .agg #[.int .i64 op, .string key, .string val, .slice A m c]) #[true, true, false, true, false, false, false] (by simp only [List.getElem?_toArray, List.getElem?_cons_zero, List.getElem?_cons_succ]; rfl) rfl (by kernel_rfl) (by exact fun _ _ _ h => h) (Or.inl ⟨by rfl, fun W hW => by first | rfl | (try dsimp only at hW); go_simp⟩) hS rfl ?_
            simp only [Act.put, List.setIfInBounds_toArray, List.set_cons_zero, List.set_cons_succ]
            refine Last.take_ (i := 4) (N := some 27) (v := .agg #[.int .i64 e.pos, .string e.key, .bool e.had, .string e.old, .bool e.has, .string e.now]) #[true, true, false, true, true, false, false] (by simp only [List.getElem?_toArray, List.getElem?_cons_zero, List.getElem?_cons_succ]; rfl) rfl (by kernel_rfl) (by exact fun _ _ _ h => h) (Or.inl ⟨by rfl, fun W hW => by first | rfl | (try dsimp only at hW); go_simp⟩) hS rfl ?_
            simp only [Act.put, List.setIfInBounds_toArray, List.set_cons_zero, List.set_cons_succ]
            refine Last.one_ (i := 2) (N := some 25) #[true, true, true, true, true, false, false] (by simp only [List.getElem?_toArray, List.getElem?_cons_zero, List.getElem?_cons_succ]; rfl) rfl (by kernel_rfl) (by decide) (fun K hK => ?_)
            refine Last.goes_ Try.func24 (by kernel_rfl) rfl #[.agg #[.int .i64 op, .string key, .string val, .slice A m c], .agg #[.int .i64 e.pos, .string e.key, .bool e.had, .string e.old, .bool e.has, .string e.now]] (by rfl) rfl rfl (by simp [Act.eval]) ?_
            refine (Holds_calls (fp := fieldF) (e := e) (VF.out.ext0 (Ext.refl _ _).drew) HOF.out (.inr Field_calls) HSE.out.1).mono ?_
            rw [HB.out]
            rintro e' w7 ⟨rfl, he⟩
            have E7 := Lib.hid ((Ext.refl Non w6).drew.trans0 he)
            clear he
            refine ⟨_, rfl, hK.out _ _ (ten (E7.out.obj BF.out (fun h => h)) (E7.out.obj BE.out (fun h => h))) (fun hS => ?_)⟩
            try simp only [Act.put, List.setIfInBounds_toArray, List.set_cons_zero, List.set_cons_succ]
            refine Last.one_ (i := 5) (N := some 28) #[true, true, true, true, true, true, false] (by simp only [List.getElem?_toArray, List.getElem?_cons_zero, List.getElem?_cons_succ]; rfl) rfl (by kernel_rfl) (by decide) (fun K hK => ?_)
            refine Last.goes_ Try.func33 (by kernel_rfl) rfl #[.agg #[.int .i64 op, .string key, .string val, .slice A m c], .agg #[.int .i64 e.pos, .string e.key, .bool e.had, .string e.old, .bool e.has, .string e.now]] (by rfl) rfl rfl (by simp [Act.eval]) ?_
            refine (RHolds_calls (e := e) (VF.out.ext0 E7.out) HLK.out HSE.out.1 HSE.out.2).mono ?_
            rw [HB.out]
            rintro e' w8 ⟨rfl, he⟩
            have E8 := Lib.hid (E7.out.trans0 he)
            clear he
            refine ⟨_, rfl, hK.out _ _ (ten (E8.out.obj BF.out (fun h => h)) (E8.out.obj BE.out (fun h => h))) (fun hS => ?_)⟩
            try simp only [Act.put, List.setIfInBounds_toArray, List.set_cons_zero, List.set_cons_succ]
            refine Last.take_ (i := 6) (N := some 29) (v := .bool false) #[true, true, true, true, true, true, true] (by simp only [List.getElem?_toArray, List.getElem?_cons_zero, List.getElem?_cons_succ]; rfl) rfl (by kernel_rfl) (by exact fun _ _ _ h => h) (Or.inl ⟨by rfl, fun W hW => by first | rfl | (try dsimp only at hW); go_simp⟩) hS rfl ?_
            simp only [Act.put, List.setIfInBounds_toArray, List.set_cons_zero, List.set_cons_succ]
            refine Last.done_ (by kernel_rfl) ?_
            go_wp2_with fail
            go_roundw
            case rel => exact ⟨j + 1, by go_num, by omega, EW.out.trans0 E8.out, E8.out.obj BF.out (fun h => h)⟩
            case measure => simp [intOf]; omega
          | false =>
            refine Last.start_ (S := fun W => W.cell? ⟨w.heap.size, 0, none⟩ = some (.int .i64 op) ∧ W.cell? ⟨w.heap.size, 1, none⟩ = some (.string key) ∧ W.cell? ⟨w.heap.size, 2, none⟩ = some (.string val) ∧ W.cell? ⟨w.heap.size, 3, none⟩ = some (.slice A m c) ∧ W.cell? ⟨q, 0, none⟩ = some (.int .i64 e.pos) ∧ W.cell? ⟨q, 1, none⟩ = some (.string e.key) ∧ W.cell? ⟨q, 2, none⟩ = some (.bool e.had) ∧ W.cell? ⟨q, 3, none⟩ = some (.string e.old) ∧ W.cell? ⟨q, 4, none⟩ = some (.bool e.has) ∧ W.cell? ⟨q, 5, none⟩ = some (.string e.now)) (ds := []) #[false, false, false, false, false, false, false] (by kernel_rfl) (by rfl) (by rfl) (ten (blk_drew BF.out) (blk_drew BE.out)) (fun hS => ?_)
            refine Last.take_ (i := 0) (N := some 23) (v := .agg #[.int .i64 op, .string key, .string val, .slice A m c]) #[true, false, false, false, false, false, false] (by simp only [List.getElem?_toArray, List.getElem?_cons_zero]; rfl) rfl (by kernel_rfl) (by exact fun _ _ _ h => h) (Or.inl ⟨by rfl, fun W hW => by first | rfl | (try dsimp only at hW); go_simp⟩) hS rfl ?_
            simp only [Act.put, List.setIfInBounds_toArray, List.set_cons_zero, List.set_cons_succ]
            refine Last.take_ (i := 1) (N := some 24) (v := .agg #[.int .i64 e.pos, .string e.key, .bool e.had, .string e.old, .bool e.has, .string e.now]) #[true, true, false, false, false, false, false] (by simp only [List.getElem?_toArray, List.getElem?_cons_zero, List.getElem?_cons_succ]; rfl) rfl (by kernel_rfl) (by exact fun _ _ _ h => h) (Or.inl ⟨by rfl, fun W hW => by first | rfl | (try dsimp only at hW); go_simp⟩) hS rfl ?_
            simp only [Act.put, List.setIfInBounds_toArray, List.set_cons_zero, List.set_cons_succ]
            refine Last.take_ (i := 3) (N := some 26) (v := .agg #[.int .i64 op, .string key, .string val, .slice A m c]) #[true, true, false, true, false, false, false] (by simp only [List.getElem?_toArray, List.getElem?_cons_zero, List.getElem?_cons_succ]; rfl) rfl (by kernel_rfl) (by exact fun _ _ _ h => h) (Or.inl ⟨by rfl, fun W hW => by first | rfl | (try dsimp only at hW); go_simp⟩) hS rfl ?_
            simp only [Act.put, List.setIfInBounds_toArray, List.set_cons_zero, List.set_cons_succ]
            refine Last.take_ (i := 4) (N := some 27) (v := .agg #[.int .i64 e.pos, .string e.key, .bool e.had, .string e.old, .bool e.has, .string e.now]) #[true, true, false, true, true, false, false] (by simp only [List.getElem?_toArray, List.getElem?_cons_zero, List.getElem?_cons_succ]; rfl) rfl (by kernel_rfl) (by exact fun _ _ _ h => h) (Or.inl ⟨by rfl, fun W hW => by first | rfl | (try dsimp only at hW); go_simp⟩) hS rfl ?_
            simp only [Act.put, List.setIfInBounds_toArray, List.set_cons_zero, List.set_cons_succ]
            refine Last.one_ (i := 2) (N := some 25) #[true, true, true, true, true, false, false] (by simp only [List.getElem?_toArray, List.getElem?_cons_zero, List.getElem?_cons_succ]; rfl) rfl (by kernel_rfl) (by decide) (fun K hK => ?_)
            refine Last.goes_ Try.func24 (by kernel_rfl) rfl #[.agg #[.int .i64 op, .string key, .string val, .slice A m c], .agg #[.int .i64 e.pos, .string e.key, .bool e.had, .string e.old, .bool e.has, .string e.now]] (by rfl) rfl rfl (by simp [Act.eval]) ?_
            refine (Holds_calls (fp := fieldF) (e := e) (VF.out.ext0 (Ext.refl _ _).drew) HOF.out (.inr Field_calls) HSE.out.1).mono ?_
            rw [HB.out]
            rintro e' w7 ⟨rfl, he⟩
            have E7 := Lib.hid ((Ext.refl Non w6).drew.trans0 he)
            clear he
            refine ⟨_, rfl, hK.out _ _ (ten (E7.out.obj BF.out (fun h => h)) (E7.out.obj BE.out (fun h => h))) (fun hS => ?_)⟩
            try simp only [Act.put, List.setIfInBounds_toArray, List.set_cons_zero, List.set_cons_succ]
            refine Last.one_ (i := 5) (N := some 28) #[true, true, true, true, true, true, false] (by simp only [List.getElem?_toArray, List.getElem?_cons_zero, List.getElem?_cons_succ]; rfl) rfl (by kernel_rfl) (by decide) (fun K hK => ?_)
            refine Last.goes_ Try.func33 (by kernel_rfl) rfl #[.agg #[.int .i64 op, .string key, .string val, .slice A m c], .agg #[.int .i64 e.pos, .string e.key, .bool e.had, .string e.old, .bool e.has, .string e.now]] (by rfl) rfl rfl (by simp [Act.eval]) ?_
            refine (RHolds_calls (e := e) (VF.out.ext0 E7.out) HLK.out HSE.out.1 HSE.out.2).mono ?_
            rw [HB.out]
            rintro e' w8 ⟨rfl, he⟩
            have E8 := Lib.hid (E7.out.trans0 he)
            clear he
            refine ⟨_, rfl, hK.out _ _ (ten (E8.out.obj BF.out (fun h => h)) (E8.out.obj BE.out (fun h => h))) (fun hS => ?_)⟩
            try simp only [Act.put, List.setIfInBounds_toArray, List.set_cons_zero, List.set_cons_succ]
            refine Last.take_ (i := 6) (N := some 29) (v := .bool false) #[true, true, true, true, true, true, true] (by simp only [List.getElem?_toArray, List.getElem?_cons_zero, List.getElem?_cons_succ]; rfl) rfl (by kernel_rfl) (by exact fun _ _ _ h => h) (Or.inl ⟨by rfl, fun W hW => by first | rfl | (try dsimp only at hW); go_simp⟩) hS rfl ?_
            simp only [Act.put, List.setIfInBounds_toArray, List.set_cons_zero, List.set_cons_succ]
            refine Last.done_ (by kernel_rfl) ?_
            go_wp2_with fail
            go_roundw
            case rel => exact ⟨j + 1, by go_num, by omega, EW.out.trans0 E8.out, E8.out.obj BF.out (fun h => h)⟩
            case measure => simp [intOf]; omega
        · obtain rfl : j = na := by omega
          go_wp2_with fail
          refine (CloneE_calls (RAw.out.ext0 HE.out) (by have := HLE.out; omega)).mono ?_
          rintro e' w10 ⟨Ag, ng, cg, rfl, hg, he⟩
          have RG := Lib.hid hg
          have EW := Lib.hid (HE.out.trans0 he)
          have RA := Lib.hid (RAw.out.ext0 EW.out)
          have BF := Lib.hid (he.obj HBF.out (fun h => h))
          have VF := Lib.hid (HX.out.ext0 EW.out)
          clear hg he
          go_wp2_with fail
          refine Last.start_ (S := fun W => W.cell? ⟨w.heap.size, 0, none⟩ = some (.int .i64 op) ∧ W.cell? ⟨w.heap.size, 1, none⟩ = some (.string key) ∧ W.cell? ⟨w.heap.size, 2, none⟩ = some (.string val) ∧ W.cell? ⟨w.heap.size, 3, none⟩ = some (.slice A m c)) (ds := []) #[false, false, false, false, false, false, false, false, false, false, false, false, false, false, false, false] (by kernel_rfl) (by rfl) (by rfl) (cells4 (blk_drew BF.out)) (fun hS => ?_)
          refine Last.take_ (i := 0) (N := some 33) (v := .agg #[.int .i64 op, .string key, .string val, .slice A m c]) #[true, false, false, false, false, false, false, false, false, false, false, false, false, false, false, false] (by simp only [List.getElem?_toArray, List.getElem?_cons_zero]; rfl) rfl (by kernel_rfl) (by exact fun _ _ _ h => h) (Or.inl ⟨by rfl, fun W hW => by first | rfl | (try dsimp only at hW); go_simp⟩) hS rfl ?_
          simp only [Act.put, List.setIfInBounds_toArray, List.set_cons_zero, List.set_cons_succ]
          refine Last.take_ (i := 1) (N := some 34) (v := .slice Ag ng cg) #[true, true, false, false, false, false, false, false, false, false, false, false, false, false, false, false] (by simp only [List.getElem?_toArray, List.getElem?_cons_zero, List.getElem?_cons_succ]; rfl) rfl (by kernel_rfl) (by exact fun _ _ _ h => h) (Or.inl ⟨by rfl, fun W hW => by first | rfl | (try dsimp only at hW); go_simp⟩) hS rfl ?_
          simp only [Act.put, List.setIfInBounds_toArray, List.set_cons_zero, List.set_cons_succ]
          refine Last.take_ (i := 3) (N := some 36) (v := .agg #[.int .i64 op, .string key, .string val, .slice A m c]) #[true, true, false, true, false, false, false, false, false, false, false, false, false, false, false, false] (by simp only [List.getElem?_toArray, List.getElem?_cons_zero, List.getElem?_cons_succ]; rfl) rfl (by kernel_rfl) (by exact fun _ _ _ h => h) (Or.inl ⟨by rfl, fun W hW => by first | rfl | (try dsimp only at hW); go_simp⟩) hS rfl ?_
          simp only [Act.put, List.setIfInBounds_toArray, List.set_cons_zero, List.set_cons_succ]
          refine Last.take_ (i := 4) (N := some 37) (v := .slice Aa j ca) #[true, true, false, true, true, false, false, false, false, false, false, false, false, false, false, false] (by simp only [List.getElem?_toArray, List.getElem?_cons_zero, List.getElem?_cons_succ]; rfl) rfl (by kernel_rfl) (by exact fun _ _ _ h => h) (Or.inl ⟨by rfl, fun W hW => by first | rfl | (try dsimp only at hW); go_simp⟩) hS rfl ?_
          simp only [Act.put, List.setIfInBounds_toArray, List.set_cons_zero, List.set_cons_succ]
          refine Last.one_ (i := 2) (N := some 35) #[true, true, true, true, true, false, false, false, false, false, false, false, false, false, false, false] (by simp only [List.getElem?_toArray, List.getElem?_cons_zero, List.getElem?_cons_succ]; rfl) rfl (by kernel_rfl) (by decide) (fun K hK => ?_)
          refine Last.goes_ Try.func32 (by kernel_rfl) rfl #[.agg #[.int .i64 op, .string key, .string val, .slice A m c], .slice Ag ng cg] (by rfl) rfl rfl (by simp [Act.eval]) ?_
          refine (Pass_calls (fp := fieldF) (VF.out.ext0 (Ext.refl _ _).drew) HOF.out (.inr Field_calls) (RG.out.ext0 (Ext.refl _ _).drew) (fun x hx => (HSM.out x hx).1) (by have := HLE.out; omega)).mono ?_
          rintro e' w11 ⟨A11, n11, c11, rfl, ho, he⟩
          have R11 := Lib.hid ho.out.rd
          have he := he.out
          clear ho
          have E11 := Lib.hid ((Ext.refl Non w10).drew.trans0 he)
          have X11 := Lib.hid he
          clear he
          refine ⟨_, rfl, hK.out _ _ (cells4 (E11.out.obj BF.out (fun h => h))) (fun hS => ?_)⟩
          try simp only [Act.put, List.setIfInBounds_toArray, List.set_cons_zero, List.set_cons_succ]
          refine Last.one_ (i := 5) (N := some 38) #[true, true, true, true, true, true, false, false, false, false, false, false, false, false, false, false] (by simp only [List.getElem?_toArray, List.getElem?_cons_zero, List.getElem?_cons_succ]; rfl) rfl (by kernel_rfl) (by decide) (fun K hK => ?_)
          refine Last.goes_ Try.func36 (by kernel_rfl) rfl #[.agg #[.int .i64 op, .string key, .string val, .slice A m c], .slice Aa j ca] (by rfl) rfl rfl (by simp [Act.eval]) ?_
          refine (RPass_calls (VF.out.ext0 E11.out) HLK.out (RA.out.ext0 E11.out) HSM.out (by have := HLE.out; omega)).mono ?_
          rintro e' w12 ⟨A12, n12, c12, rfl, ho, he⟩
          have R12 := Lib.hid ho.out.rd
          have he := he.out
          clear ho
          have E12 := Lib.hid (E11.out.trans0 he)
          have X12 := Lib.hid he
          clear he
          refine ⟨_, rfl, hK.out _ _ (cells4 (E12.out.obj BF.out (fun h => h))) (fun hS => ?_)⟩
          try simp only [Act.put, List.setIfInBounds_toArray, List.set_cons_zero, List.set_cons_succ]
          refine Last.one_ (i := 6) (N := some 39) #[true, true, true, true, true, true, true, false, false, false, false, false, false, false, false, false] (by simp only [List.getElem?_toArray, List.getElem?_cons_zero, List.getElem?_cons_succ]; rfl) rfl (by kernel_rfl) (by decide) (fun K hK => ?_)
          refine Last.goes_ Try.func35 (by kernel_rfl) rfl #[.slice A11 n11 c11, .slice A12 n12 c12] (by rfl) rfl rfl (by simp [Act.eval]) ?_
          refine (EqualE_calls (R11.out.ext0 X12.out) R12.out).mono ?_
          rintro e' w13 ⟨rfl, he⟩
          have E13 := Lib.hid (E12.out.trans0 he)
          have X13 := Lib.hid he
          clear he
          refine ⟨_, rfl, hK.out _ _ (cells4 (E13.out.obj BF.out (fun h => h))) (fun hS => ?_)⟩
          try simp only [Act.put, List.setIfInBounds_toArray, List.set_cons_zero, List.set_cons_succ]
          refine Last.take_ (i := 7) (N := some 40) (v := .bool true) #[true, true, true, true, true, true, true, true, false, false, false, false, false, false, false, false] (by simp only [List.getElem?_toArray, List.getElem?_cons_zero, List.getElem?_cons_succ]; rfl) rfl (by kernel_rfl) (by exact fun _ _ _ h => h) (Or.inl ⟨by rfl, fun W hW => by first | rfl | (try dsimp only at hW); go_simp⟩) hS rfl ?_
          simp only [Act.put, List.setIfInBounds_toArray, List.set_cons_zero, List.set_cons_succ]
          refine Last.take_ (i := 8) (N := some 41) (v := .slice Ag ng cg) #[true, true, true, true, true, true, true, true, true, false, false, false, false, false, false, false] (by simp only [List.getElem?_toArray, List.getElem?_cons_zero, List.getElem?_cons_succ]; rfl) rfl (by kernel_rfl) (by exact fun _ _ _ h => h) (Or.inl ⟨by rfl, fun W hW => by first | rfl | (try dsimp only at hW); go_simp⟩) hS rfl ?_
          simp only [Act.put, List.setIfInBounds_toArray, List.set_cons_zero, List.set_cons_succ]
          refine Last.take_ (i := 9) (N := some 42) (v := .slice Aa j ca) #[true, true, true, true, true, true, true, true, true, true, false, false, false, false, false, false] (by simp only [List.getElem?_toArray, List.getElem?_cons_zero, List.getElem?_cons_succ]; rfl) rfl (by kernel_rfl) (by exact fun _ _ _ h => h) (Or.inl ⟨by rfl, fun W hW => by first | rfl | (try dsimp only at hW); go_simp⟩) hS rfl ?_
          simp only [Act.put, List.setIfInBounds_toArray, List.set_cons_zero, List.set_cons_succ]
          refine Last.one_ (i := 10) (N := some 43) #[true, true, true, true, true, true, true, true, true, true, true, false, false, false, false, false] (by simp only [List.getElem?_toArray, List.getElem?_cons_zero, List.getElem?_cons_succ]; rfl) rfl (by kernel_rfl) (by decide) (fun K hK => ?_)
          refine Last.goes_ Try.func35 (by kernel_rfl) rfl #[.slice Ag ng cg, .slice Aa j ca] (by rfl) rfl rfl (by simp [Act.eval]) ?_
          refine (EqualE_calls (RG.out.ext0 E13.out) (RA.out.ext0 E13.out)).mono ?_
          rintro e' w14 ⟨rfl, he⟩
          have E14 := Lib.hid (E13.out.trans0 he)
          have X14 := Lib.hid he
          clear he
          refine ⟨_, rfl, hK.out _ _ (cells4 (E14.out.obj BF.out (fun h => h))) (fun hS => ?_)⟩
          try simp only [Act.put, List.setIfInBounds_toArray, List.set_cons_zero, List.set_cons_succ]
          refine Last.take_ (i := 11) (N := some 44) (v := .bool true) #[true, true, true, true, true, true, true, true, true, true, true, true, false, false, false, false] (by simp only [List.getElem?_toArray, List.getElem?_cons_zero, List.getElem?_cons_succ]; rfl) rfl (by kernel_rfl) (by exact fun _ _ _ h => h) (Or.inl ⟨by rfl, fun W hW => by first | rfl | (try dsimp only at hW); go_simp⟩) hS rfl ?_
          simp only [Act.put, List.setIfInBounds_toArray, List.set_cons_zero, List.set_cons_succ]
          refine Last.take_ (i := 12) (N := some 45) (v := .bool true) #[true, true, true, true, true, true, true, true, true, true, true, true, true, false, false, false] (by simp only [List.getElem?_toArray, List.getElem?_cons_zero, List.getElem?_cons_succ]; rfl) rfl (by kernel_rfl) (by exact fun _ _ _ h => h) (Or.inl ⟨by rfl, fun W hW => by first | rfl | (try dsimp only at hW); go_simp⟩) hS rfl ?_
          simp only [Act.put, List.setIfInBounds_toArray, List.set_cons_zero, List.set_cons_succ]
          refine Last.one_ (i := 13) (N := some 46) #[true, true, true, true, true, true, true, true, true, true, true, true, true, true, false, false] (by simp only [List.getElem?_toArray, List.getElem?_cons_zero, List.getElem?_cons_succ]; rfl) rfl (by kernel_rfl) (by decide) (fun K hK => ?_)
          refine Last.goes_ Try.func16 (by kernel_rfl) rfl #[] (by rfl) rfl rfl (by simp) ?_
          refine (awake_calls _).mono ?_
          rintro e' w15 ⟨rfl, he⟩
          have E15 := Lib.hid (E14.out.trans0 he)
          have X15 := Lib.hid he
          clear he
          refine ⟨_, rfl, hK.out _ _ (cells4 (E15.out.obj BF.out (fun h => h))) (fun hS => ?_)⟩
          try simp only [Act.put, List.setIfInBounds_toArray, List.set_cons_zero, List.set_cons_succ]
          refine Last.take_ (i := 14) (N := some 47) (v := .bool true) #[true, true, true, true, true, true, true, true, true, true, true, true, true, true, true, false] (by simp only [List.getElem?_toArray, List.getElem?_cons_zero, List.getElem?_cons_succ]; rfl) rfl (by kernel_rfl) (by exact fun _ _ _ h => h) (Or.inl ⟨by rfl, fun W hW => by first | rfl | (try dsimp only at hW); go_simp⟩) hS rfl ?_
          simp only [Act.put, List.setIfInBounds_toArray, List.set_cons_zero, List.set_cons_succ]
          refine Last.take_ (i := 15) (N := some 4) (v := .bool true) #[true, true, true, true, true, true, true, true, true, true, true, true, true, true, true, true] (by simp only [List.getElem?_toArray, List.getElem?_cons_zero, List.getElem?_cons_succ]; rfl) rfl (by kernel_rfl) (by exact fun _ _ _ h => h) (Or.inl ⟨by rfl, fun W hW => by first | rfl | (try dsimp only at hW); go_simp⟩) hS rfl ?_
          simp only [Act.put, List.setIfInBounds_toArray, List.set_cons_zero, List.set_cons_succ]
          refine Last.done_ (by kernel_rfl) ?_
          go_wp2_with fail
          go_ret
          exact ⟨rfl, EW.out.trans0 E15.out⟩
end Go.Proofs.Ytooafilbmjnfmaa
