/- FeedBytes: what a feed puts is what the document's feed puts, and read back it is the feed it was. -/
import Derived.Test.YtdjfijdnhfmeeaaV4
import Derived.Test.YtdjfijdnhfmeeaaV6
import Derived.Test.YtdjfijdnhfmeeaaV7
import Derived.Test.YtdjfijdnhfmeeaaUA
import Derived.Test.YtdjfijdnhfmeeaaTB
namespace Go.Proofs.Ytdjfijdnhfmeeaa
open Go.RowKit Go.TM
/-- What region 8's state is behind the call. -/
theorem behS {W : World} {n x q : Nat} {ok : Nat → Prop} {D : Fdr} {a0 a1 a2 a3 a4 a5 a6 a7 a8 a9 : Value} {t : TypeId} (h : Rf n ok W x D) (hq : W.heap[q]? = some (.cells #[a0, a1, a2, a3, a4, a5, a6, a7, a8, a9] t (0, 0))) :
    W.cell? ⟨x, 3, none⟩ = some (.int .i64 D.top) ∧ W.cell? ⟨q, 1, none⟩ = some a1 ∧ W.cell? ⟨q, 5, none⟩ = some a5 := by
  obtain ⟨_, _, _, _, _, _, hb, _⟩ := h
  exact ⟨blk_cell hb 3, blk_cell hq 1, blk_cell hq 5⟩
theorem encD_len {n : Nat} {D : Fdr} (h : Neat n D) : (encD n D).length ≤ 300000000 := by
  have h1 : (D.evs.flatMap evB).length ≤ 3200000 := evs_len (fun e he => ⟨⟨by have := h.pos e he; omega, by have := h.fine.ev.top e he; have := h.fine.good.top; omega⟩, h.siz e he⟩) h.fine.good.evs
  have h2 : (hdB D).length ≤ 27 := nums_le [D.next, D.top, (D.evs.length : Int)] (fun x hx => by
    have := h.fine.good.next
    have := h.fine.good.top
    have := h.fine.good.evs
    simp only [List.mem_cons, List.not_mem_nil, or_false] at hx
    rcases hx with rfl | rfl | rfl <;> omega)
  have h3 : (numB D.subs.length).length ≤ 9 := numB_le (by have := h.fine.good.subs; omega)
  have h4 : ∀ l : List Sb, (∀ s ∈ l, s ∈ D.subs) → (l.flatMap (sbB n)).length ≤ 50500000 * l.length := by
    intro l
    induction l with
    | nil => intro _; simp
    | cons s l ih =>
      intro hl
      have hs := hl s (List.mem_cons_self ..)
      have h5 := ih (fun t ht => hl t (List.mem_cons_of_mem _ ht))
      have h6 := put_small h.fine.good s hs
      have h7 := h.fine.ord.cur s hs
      have h8 : ([s.id, s.fr, s.at_].flatMap numI).length ≤ 27 := nums_le _ (fun x hx => by
        have := h.fine.good.next
        have := h.fine.good.top
        simp only [List.mem_cons, List.not_mem_nil, or_false] at hx
        rcases hx with rfl | rfl | rfl <;> omega)
      have h9 : (numB (flagN s.gone)).length ≤ 9 := numB_le (by unfold flagN; split <;> omega)
      rw [List.flatMap_cons, List.length_append, List.length_cons]
      unfold sbB at h5 ⊢
      rw [List.length_append, List.length_append]
      omega
  have h5 := h4 D.subs (fun _ h => h)
  have h6 := h.fine.good.subs
  unfold encD
  rw [List.length_append, List.length_append, List.length_append]
  omega
set_option maxRecDepth 100000 in
set_option maxHeartbeats 32000000 in
theorem bytes_calls {w : World} {n : Nat} (hn : 6 ≤ n) {A : Option Addr} {c : Nat} {l : List Dc} (hr : Rd (doK n) w (fun k => k < w.heap.size) (.slice A l.length c) l) (hv : ∀ k ∈ l, DcV n k) (ht : ∀ k ∈ l, okT (n + 1) k.q)
    {A2 : Option Addr} {c2 : Nat} {l2 : List Dc} (hr2 : Rd (doK n) w (fun k => k < w.heap.size) (.slice A2 l2.length c2) l2) (hv2 : ∀ k ∈ l2, DcV n k)
    {A0 : Option Addr} {n0 c0 : Nat} {bs : List UInt8} (hb : Rd Kd.u8 w (fun _ => True) (.slice A0 n0 c0) bs) :
    Calls Try.prog 10 #[.slice A l.length c, .slice A2 l2.length c2, .slice A0 n0 c0] w fun e w' => e = .returned (.bool true) ∧ Ext Non w w' := by
  have hn0 : n0 = bs.length := by
    obtain ⟨_, _, hs, _, _⟩ := hb.slice
    simp only [Value.slice.injEq] at hs
    exact hs.2.1
  have hlm : (l.length : Int) ≤ 9223372036854775807 := by
    obtain ⟨_, _, _, _, h⟩ := hr.slice
    omega
  have hlm2 : (l2.length : Int) ≤ 9223372036854775807 := by
    obtain ⟨_, _, _, _, h⟩ := hr2.slice
    omega
  obtain ⟨m, hm⟩ : ∃ m, l.length = m := ⟨_, rfl⟩
  obtain ⟨m2, hm2⟩ : ∃ m, l2.length = m := ⟨_, rfl⟩
  have HSC := Lib.hid (short_calls hr hv)
  rw [hm] at hr HSC hlm ⊢
  rw [hm2] at hr2 hlm2 ⊢
  have HM := Lib.hid hm
  have HM2 := Lib.hid hm2
  have HN0 := Lib.hid hn0
  have HR := Lib.hid hr
  have HV := Lib.hid hv
  have HTT := Lib.hid ht
  have HR2 := Lib.hid hr2
  have HV2 := Lib.hid hv2
  have HB := Lib.hid hb
  have AWW : Hid (∀ w4, Ext Non w w4 → (Calls Try.prog 13 #[] w4 fun e w' => e = .returned (.bool true) ∧ Ext Non w w')) := fun w4 h4 => (awake_calls w4).mono (fun _ _ h => ⟨h.1, h4.trans0 h.2⟩)
  clear hr hv hm ht hr2 hv2 hm2 hb hn0
  go_enter Try.func10, Try.ntmps10
  go_wp2_with fail
  refine HSC.out.mono ?_
  rintro e w3 ⟨b, rfl, he5, hsh⟩
  have E3 := Lib.hid he5
  have HSH := Lib.hid hsh
  clear he5 hsh
  cases b with
  | false =>
    go_wp2_with fail
    refine (AWW.out _ (E3.out)).mono ?_
    rintro e w99 ⟨rfl, he⟩
    have E99 := Lib.hid he
    clear he
    go_wp2_with fail
    go_ret
    exact ⟨rfl, E99.out⟩
  | true =>
    have HC : Hid (∀ y ∈ l, EvsS y ∧ LitS n y) := (HSH.out rfl).2
    have HCO : Hid (∀ y ∈ l, CallOk n y) := fun y hy => callOk (HV.out y hy) (HC.out y hy).1 (HC.out y hy).2
    have HFN : Hid (∀ j, Neat n (madeD n (l.take j))) := fun j => made_neat (fun k hk => HCO.out k (List.mem_of_mem_take hk)) (fun k hk => (HC.out k (List.mem_of_mem_take hk)).1)
    go_wp2_with fail
    have HSC2 : Hid (Calls Try.prog 11 #[.slice A2 m2 c2] w3 (ShortPost n l2 w3)) := short_calls (HR2.out.ext0 E3.out) HV2.out
    refine HSC2.out.mono ?_
    rintro e w4 ⟨b, rfl, he5, hsh⟩
    have E4 : Hid (Ext Non w w4) := E3.out.trans0 he5
    have HSH2 := Lib.hid hsh
    clear he5 hsh
    cases b with
    | false =>
      go_wp2_with fail
      refine (AWW.out _ (E4.out)).mono ?_
      rintro e w99 ⟨rfl, he⟩
      have E99 := Lib.hid he
      clear he
      go_wp2_with fail
      go_ret
      exact ⟨rfl, E99.out⟩
    | true =>
      have HC2 : Hid (∀ y ∈ l2, EvsS y ∧ LitS n y) := (HSH2.out rfl).2
      have HCO2 : Hid (∀ y ∈ l2, CallOk n y) := fun y hy => callOk (HV2.out y hy) (HC2.out y hy).1 (HC2.out y hy).2
      by_cases hbl : 32768 < n0
      · go_wp2_with fail
        refine (AWW.out _ (E4.out)).mono ?_
        rintro e w99 ⟨rfl, he⟩
        have E99 := Lib.hid he
        clear he
        go_wp2_with fail
        go_ret
        exact ⟨rfl, E99.out⟩
      · obtain ⟨g, hgg⟩ : ∃ g, w4.heap.size = g := ⟨_, rfl⟩
        have hwg : w.heap.size ≤ g := by have := E4.out.size; omega
        go_wp2_with fail
        refine (made_calls (n := n) (ok := fun j => j ≠ g) (by rw [hgg]; exact fun h => h rfl) (fun k hk => by omega) (HR.out.ext0 E4.out) HCO.out).mono ?_
        rintro e w6 ⟨rfl, hf6, he6⟩
        rw [hgg] at hf6 ⊢
        have E6 : Hid (Ext Non w w6) := E4.out.trans0 he6
        have hgl6 : g < w6.heap.size := by
          obtain ⟨se, ss, hb⟩ := hf6.blk
          exact blk_lt hb
        obtain ⟨x, hx⟩ : ∃ x, w6.heap.size = x := ⟨_, rfl⟩
        have F6 : Hid (Fd n (fun j => j ≠ g ∧ j < x) w6 g (madeD n l)) := hf6.re (fun k hk hl => ⟨hk, by omega⟩) (fun h => h.1 rfl)
        clear hf6 he6
        go_wp2_with fail
        refine (RNew_calls (n := n) (ok := fun j => j ≠ x) (by rw [hx]; exact fun h => h rfl)).mono ?_
        rintro e w7 ⟨rfl, hf7, he7⟩
        rw [hx] at hf7 ⊢
        have X7 := Lib.hid hf7
        have E7 : Hid (Ext Non w6 w7) := he7
        have hxl7 : x < w7.heap.size := by
          obtain ⟨_, _, _, _, _, _, hb, _⟩ := hf7
          exact blk_lt hb
        clear hf7 he7
        go_wp2_with fail
        go_loopw [37] (fun i wr => ∃ j : Nat, i = .int .i64 (j : Int) ∧ j ≤ m ∧ Hid (Rf n (fun j => j ≠ x) wr x (madeD n (l.take j))) ∧ Hid (Ext Non w6 wr)) (fun i _ => m - (intOf i).toNat)
        case atStart => exact ⟨0, rfl, by omega, X7.out, E7.out⟩
        case round =>
          obtain ⟨j, rfl, hj, HX, HWE⟩ := hrel
          by_cases hlt : j < m
          · obtain ⟨k, hk⟩ : ∃ k, l[j]? = some k := ⟨_, List.getElem?_eq_getElem (by have := HM.out; omega)⟩
            obtain ⟨ga, offa, B, bl, bd, C, ck, cf, rfl, hga, hgla, a0, a1, a2, a3, a4, a5, a6, a7, a8, a9, hu, hq⟩ := do_at ((HR.out.ext0 E6.out).ext0 HWE.out) hk
            have hkm : k ∈ l := List.mem_of_getElem? hk
            obtain ⟨D, hD⟩ : ∃ D, madeD n (l.take j) = D := ⟨_, rfl⟩
            have HG : Hid (Neat n D) := by rw [← hD]; exact HFN.out j
            have HKO : Hid (CallOk n k) := HCO.out k hkm
            have HTX : Hid (okT (n + 1) k.q) := HTT.out k hkm
            obtain ⟨D', hD'⟩ : ∃ D', (stepR n D k).2 = D' := ⟨_, rfl⟩
            have HD' := Lib.hid hD'
            have HSN : Hid (madeD n (l.take (j + 1)) = D') := by
              show _ = _
              rw [List.take_succ_eq_append_getElem (by rw [HM.out]; exact hlt), (List.getElem?_eq_some_iff.1 hk).2, madeD_snoc, hD, hD']
            have HXD : Hid (Rf n (fun j => j ≠ x) wr x D) := by rw [← hD]; exact HX.out
            have HU := Lib.hid hu
            have HQ := Lib.hid hq
            have hxl : x < wr.heap.size := by
              obtain ⟨_, _, _, _, _, _, hb, _⟩ := HXD.out
              exact blk_lt hb
            clear hu hq hk hga hD hD' hkm
            obtain ⟨q, hqq⟩ : ∃ q, wr.heap.size = q := ⟨_, rfl⟩
            obtain ⟨w2, hw2⟩ : ∃ w2, wr.alloc (.cells #[.int .i64 k.op, .int .i64 k.step, .int .i64 k.id, .int .i64 k.pos, .int .i64 k.most, .slice B bl bd, .int .i64 k.q.op, .string k.q.key, .string k.q.val, .slice C ck cf] 36) = w2 := ⟨_, rfl⟩
            have E0 : Hid (Ext Non wr w2) := by rw [← hw2]; exact (Ext.refl _ _).alloc _
            have BQ2 : Hid (w2.heap[q]? = some (.cells #[.int .i64 k.op, .int .i64 k.step, .int .i64 k.id, .int .i64 k.pos, .int .i64 k.most, .slice B bl bd, .int .i64 k.q.op, .string k.q.key, .string k.q.val, .slice C ck cf] 36 (0, 0))) := by rw [← hw2, ← hqq]; exact blk_new wr _
            have Xw2 : Hid (Rf n (fun j => j ≠ x) w2 x D) := HXD.out.ext0 E0.out
            have hql := blk_lt BQ2.out
            have hs2 := E0.out.size
            have hdef : bits BinOp.and IntKind.i64 k.op 7 = opc k := rfl
            obtain ⟨t0, t1, t2, t3, t4, t5, t6, t7, t8, t9⟩ := doS BQ2.out
            have hxq : x < q := by omega
            have x3 : w2.cell? ⟨x, 3, none⟩ = some (.int .i64 D.top) := by
              obtain ⟨_, _, _, _, _, _, hb, _⟩ := Xw2.out
              exact blk_cell hb 3
            by_cases c4 : opc k = 4
            · have HDD : Hid (D' = (addR n D k.q).2) := by
                show _ = _
                rw [← HD'.out]
                unfold stepR
                rw [if_pos c4]
              have HKK := Lib.hid (HKO.out.okk c4)
              have HOL := Lib.hid (okL_of HKO.out.okf HKK.out HTX.out)
              go_wp2_with fail
              refine (RAdd_calls (n := n) (f := k.q) Xw2.out HG.out.fine.good (fun i hi => by have h1 := E0.out.size; show i ≠ x; omega) (okX := fun j => j < w.heap.size) ⟨_, rfl, HQ.out.ext0 E0.out⟩ (fun j hj => by show j ≠ x; omega) HOL.out).mono ?_
              rintro e w3 ⟨rfl, hf, he⟩
              have X3 : Hid (Rf n (fun j => j ≠ x) w3 x (addR n D k.q).2) := hf
              have E3 : Hid (Ext Non w6 w3) := (HWE.out.trans0 E0.out).trans he (fun i hi h => by have h' : i = x := h; omega)
              clear hf he
              rw [← HDD.out] at X3
              go_wp2_with fail
              go_roundw
              case rel => exact ⟨j + 1, by go_num, by omega, by show Rf _ _ _ _ (madeD n (l.take (j + 1))); rw [HSN.out]; exact X3.out, E3.out⟩
              case measure => simp [intOf]; omega
            · by_cases c5 : opc k = 5
              · have HDD : Hid (D' = (dropR D k.id).2) := by
                  show _ = _
                  rw [← HD'.out]
                  unfold stepR
                  rw [if_neg c4, if_pos c5]
                go_wp2_with fail
                refine (RDrop_calls Xw2.out HG.out.fine.ord (by have := HG.out.fine.good.evs; omega) (by have := HG.out.fine.good.subs; omega) (fun i hi => by have h1 := E0.out.size; show i ≠ x; omega) k.id).mono ?_
                rintro e w3 ⟨rfl, hf, he⟩
                have X3 : Hid (Rf n (fun j => j ≠ x) w3 x (dropR D k.id).2) := hf
                have E3 : Hid (Ext Non w6 w3) := (HWE.out.trans0 E0.out).trans he (fun i hi h => by have h' : i = x := h; omega)
                clear hf he
                rw [← HDD.out] at X3
                go_wp2_with fail
                go_roundw
                case rel => exact ⟨j + 1, by go_num, by omega, by show Rf _ _ _ _ (madeD n (l.take (j + 1))); rw [HSN.out]; exact X3.out, E3.out⟩
                case measure => simp [intOf]; omega
              · by_cases c6 : opc k = 6
                · have HDD : Hid (D' = (ackR D k.id k.pos).2) := by
                    show _ = _
                    rw [← HD'.out]
                    unfold stepR
                    rw [if_neg c4, if_neg c5, if_pos c6]
                  go_wp2_with fail
                  refine (RAck_calls Xw2.out (by have := HG.out.fine.good.evs; omega) (by have := HG.out.fine.good.subs; omega) (fun i hi => by have h1 := E0.out.size; show i ≠ x; omega) k.id k.pos).mono ?_
                  rintro e w3 ⟨rfl, hf, he⟩
                  have X3 : Hid (Rf n (fun j => j ≠ x) w3 x (ackR D k.id k.pos).2) := hf
                  have E3 : Hid (Ext Non w6 w3) := (HWE.out.trans0 E0.out).trans he (fun i hi h => by have h' : i = x := h; omega)
                  clear hf he
                  rw [← HDD.out] at X3
                  go_wp2_with fail
                  go_roundw
                  case rel => exact ⟨j + 1, by go_num, by omega, by show Rf _ _ _ _ (madeD n (l.take (j + 1))); rw [HSN.out]; exact X3.out, E3.out⟩
                  case measure => simp [intOf]; omega
                · by_cases c7 : opc k = 7
                  · have HDD : Hid (D' = D) := by
                      show _ = _
                      rw [← HD'.out]
                      unfold stepR
                      rw [if_neg c4, if_neg c5, if_neg c6, if_pos c7]
                    have X3 : Hid (Rf n (fun j => j ≠ x) w2 x D) := Xw2.out
                    have E3 : Hid (Ext Non w6 w2) := HWE.out.trans0 E0.out
                    rw [← HDD.out] at X3
                    go_wp2_with fail
                    go_roundw
                    case rel => exact ⟨j + 1, by go_num, by omega, by show Rf _ _ _ _ (madeD n (l.take (j + 1))); rw [HSN.out]; exact X3.out, E3.out⟩
                    case measure => simp [intOf]; omega
                  · have HDD : Hid (D' = (noteR D (nextP D k) k.evs).2) := by
                      show _ = _
                      rw [← HD'.out]
                      unfold stepR
                      rw [if_neg c4, if_neg c5, if_neg c6, if_neg c7]
                    have b4 : (opc k == 4) = false := beq_eq_false_iff_ne.2 c4
                    have b5 : (opc k == 5) = false := beq_eq_false_iff_ne.2 c5
                    have b6 : (opc k == 6) = false := beq_eq_false_iff_ne.2 c6
                    have b7 : (opc k == 7) = false := beq_eq_false_iff_ne.2 c7
                    have htp := HG.out.fine.good.top
                    have hm1 := Int.tmod_lt_of_pos k.step (show (0 : Int) < 10 by decide)
                    have hm2 := Int.lt_tmod_of_pos k.step (show (0 : Int) < 10 by decide)
                    have hw7 : IntKind.i64.wrap (k.step.tmod 10) = k.step.tmod 10 := by rw [Last.i64_w]; unfold Go.RowKit.wrap64; omega
                    have hw8 : IntKind.i64.wrap (D.top + k.step.tmod 10) = nextP D k := by rw [Last.i64_w]; unfold Go.RowKit.wrap64 nextP; omega
                    go_wp2_with fail
                    refine Last.start_ (S := fun W => W.cell? ⟨x, 3, none⟩ = some (.int .i64 D.top) ∧ W.cell? ⟨q, 1, none⟩ = some (.int .i64 k.step) ∧ W.cell? ⟨q, 5, none⟩ = some (.slice B bl bd)) (ds := [11]) #[false, false, false, false, false, false, false, false, false, false, false, false] (by kernel_rfl) (by rfl) (by rfl) ⟨x3, t1, t5⟩ (fun hS => ?_)
                    refine Last.take_ (i := 0) (N := some 44) (v := .pointer (some ⟨x, 0, none⟩)) #[true, false, false, false, false, false, false, false, false, false, false, false] (by simp only [List.getElem?_toArray, List.getElem?_cons_zero]; rfl) rfl (by kernel_rfl) (by exact fun _ _ _ h => h) (Or.inl ⟨by rfl, fun W hW => by first | rfl | (try dsimp only at hW); go_simp⟩) hS rfl ?_
                    simp only [Act.put, List.setIfInBounds_toArray, List.set_cons_zero, List.set_cons_succ]
                    refine Last.take_ (i := 1) (N := some 45) (v := .pointer (some ⟨x, 0, none⟩)) #[true, true, false, false, false, false, false, false, false, false, false, false] (by rfl) rfl (by kernel_rfl) (by exact fun _ _ _ h => h) (Or.inl ⟨by rfl, fun W hW => by first | rfl | (try dsimp only at hW); go_simp⟩) hS rfl ?_
                    simp only [Act.put, List.setIfInBounds_toArray, List.set_cons_zero, List.set_cons_succ]
                    refine Last.take_ (i := 2) (N := some 46) (v := .pointer (some ⟨x, 0, none⟩)) #[true, true, true, false, false, false, false, false, false, false, false, false] (by rfl) rfl (by kernel_rfl) (by exact fun _ _ _ h => h) (Or.inl ⟨by rfl, fun W hW => by first | rfl | (try dsimp only at hW); go_simp⟩) hS rfl ?_
                    simp only [Act.put, List.setIfInBounds_toArray, List.set_cons_zero, List.set_cons_succ]
                    refine Last.take_ (i := 3) (N := some 47) (v := .pointer (some ⟨x, 3, none⟩)) #[true, true, true, true, false, false, false, false, false, false, false, false] (by rfl) rfl (by kernel_rfl) (by exact fun _ _ _ h => h) (Or.inl ⟨by rfl, fun W hW => by first | rfl | (try dsimp only at hW); go_simp⟩) hS rfl ?_
                    simp only [Act.put, List.setIfInBounds_toArray, List.set_cons_zero, List.set_cons_succ]
                    refine Last.take_ (i := 4) (N := some 48) (v := .int .i64 D.top) #[true, true, true, true, true, false, false, false, false, false, false, false] (by rfl) rfl (by kernel_rfl) (by exact fun _ _ _ h => h) (Or.inl ⟨by rfl, fun W hW => by first | rfl | (try dsimp only at hW); go_simp⟩) hS rfl ?_
                    simp only [Act.put, List.setIfInBounds_toArray, List.set_cons_zero, List.set_cons_succ]
                    refine Last.take_ (i := 5) (N := some 49) (v := .pointer (some ⟨q, 1, none⟩)) #[true, true, true, true, true, true, false, false, false, false, false, false] (by rfl) rfl (by kernel_rfl) (by exact fun _ _ _ h => h) (Or.inl ⟨by rfl, fun W hW => by first | rfl | (try dsimp only at hW); go_simp⟩) hS rfl ?_
                    simp only [Act.put, List.setIfInBounds_toArray, List.set_cons_zero, List.set_cons_succ]
                    refine Last.take_ (i := 6) (N := some 50) (v := .int .i64 k.step) #[true, true, true, true, true, true, true, false, false, false, false, false] (by rfl) rfl (by kernel_rfl) (by exact fun _ _ _ h => h) (Or.inl ⟨by rfl, fun W hW => by first | rfl | (try dsimp only at hW); go_simp⟩) hS rfl ?_
                    simp only [Act.put, List.setIfInBounds_toArray, List.set_cons_zero, List.set_cons_succ]
                    refine Last.take_ (i := 7) (N := some 51) (v := .int .i64 (k.step.tmod 10)) #[true, true, true, true, true, true, true, true, false, false, false, false] (by rfl) rfl (by kernel_rfl) (by exact fun _ _ _ h => h) (Or.inl ⟨by rfl, fun W hW => by first | rfl | (try dsimp only at hW); go_simp; try first | exact hw7 | exact hw8⟩) hS rfl ?_
                    simp only [Act.put, List.setIfInBounds_toArray, List.set_cons_zero, List.set_cons_succ]
                    refine Last.take_ (i := 8) (N := some 52) (v := .int .i64 (nextP D k)) #[true, true, true, true, true, true, true, true, true, false, false, false] (by rfl) rfl (by kernel_rfl) (by exact fun _ _ _ h => h) (Or.inl ⟨by rfl, fun W hW => by first | rfl | (try dsimp only at hW); go_simp; try first | exact hw7 | exact hw8⟩) hS rfl ?_
                    simp only [Act.put, List.setIfInBounds_toArray, List.set_cons_zero, List.set_cons_succ]
                    refine Last.take_ (i := 9) (N := some 53) (v := .pointer (some ⟨q, 5, none⟩)) #[true, true, true, true, true, true, true, true, true, true, false, false] (by rfl) rfl (by kernel_rfl) (by exact fun _ _ _ h => h) (Or.inl ⟨by rfl, fun W hW => by first | rfl | (try dsimp only at hW); go_simp⟩) hS rfl ?_
                    simp only [Act.put, List.setIfInBounds_toArray, List.set_cons_zero, List.set_cons_succ]
                    refine Last.take_ (i := 10) (N := some 54) (v := .slice B bl bd) #[true, true, true, true, true, true, true, true, true, true, true, false] (by rfl) rfl (by kernel_rfl) (by exact fun _ _ _ h => h) (Or.inl ⟨by rfl, fun W hW => by first | rfl | (try dsimp only at hW); go_simp⟩) hS rfl ?_
                    simp only [Act.put, List.setIfInBounds_toArray, List.set_cons_zero, List.set_cons_succ]
                    refine Last.last_ (i := 11) (N := some 55) #[true, true, true, true, true, true, true, true, true, true, true, true] (by rfl) rfl (by kernel_rfl) (by decide) (fun K hK => ?_)
                    refine Last.goes_ Try.func30 (by kernel_rfl) rfl #[.pointer (some ⟨x, 0, none⟩), .int .i64 (nextP D k), .slice B bl bd] (by rfl) rfl rfl (by simp [Act.eval]) ?_
                    refine (RNote_calls (Xw2.out.ext0 (Ext.refl Non w2).drew) (by have := HG.out.fine.good.evs; omega) (by have := HG.out.fine.good.subs; omega) (fun i hi => by have h1 := E0.out.size; have h2 : w2.heap.size ≤ i := hi; show i ≠ x; omega) ((HU.out.ext0 E0.out).ext0 (Ext.refl Non w2).drew) (by show ¬ x < w.heap.size; omega) (by have := HKO.out.len; omega) (nextP D k)).mono ?_
                    rintro e w3 ⟨rfl, hf, he⟩
                    have X3 : Hid (Rf n (fun j => j ≠ x) w3 x (noteR D (nextP D k) k.evs).2) := hf
                    have E3 : Hid (Ext Non w6 w3) := (HWE.out.trans0 E0.out.drew).trans he (fun i hi h => by have h' : i = x := h; omega)
                    clear hf he
                    refine ⟨_, rfl, ?_⟩
                    refine hK.out _ _ ?_
                    try simp only [Act.put, List.setIfInBounds_toArray, List.set_cons_zero, List.set_cons_succ]
                    refine Last.done_ (by kernel_rfl) ?_
                    rw [← HDD.out] at X3
                    go_wp2_with fail
                    go_roundw
                    case rel => exact ⟨j + 1, by go_num, by omega, by show Rf _ _ _ _ (madeD n (l.take (j + 1))); rw [HSN.out]; exact X3.out, E3.out⟩
                    case measure => simp [intOf]; omega
          · obtain rfl : j = m := by omega
            obtain ⟨D, hD⟩ : ∃ D, madeD n l = D := ⟨_, rfl⟩
            have hND : Hid (Neat n D) := by
              have := HFN.out j
              rw [← HM.out, List.take_length, hD] at this
              exact this
            have F1 : Hid (Fd n (fun j => j ≠ g ∧ j < x) wr g D) := by rw [← hD]; exact F6.out.ext0 HWE.out
            have X1 : Hid (Rf n (fun j => j ≠ x) wr x D) := by
              have := HX.out
              rw [← HM.out, List.take_length, hD] at this
              exact this
            have E1 : Hid (Ext Non w wr) := E6.out.trans0 HWE.out
            have HB1 := Lib.hid (HB.out.ext0 E1.out)
            have hbl2 : bs.length ≤ 32768 := by have := HN0.out; omega
            clear hD HX HWE F6 X7 E7
            go_upto_region 17 with fail
            go_cut [87] from 79 to 87 (fun s87 wx => s87 = .bool false ∧ Ext Non wr wx)
            case first =>
              refine Last.start_ (S := fun _ => True) (ds := []) #[false, false, false, false, false, false, false, false, false] (by kernel_rfl) (by rfl) (by rfl) trivial (fun hS => ?_)
              refine Last.take_ (i := 0) (N := some 79) (v := .pointer (some ⟨g, 0, none⟩)) #[true, false, false, false, false, false, false, false, false] (by simp only [List.getElem?_toArray, List.getElem?_cons_zero]; rfl) rfl (by kernel_rfl) (by exact fun _ _ _ h => h) (Or.inl ⟨by rfl, fun W hW => by first | rfl | (try dsimp only at hW); go_simp⟩) hS rfl ?_
              simp only [Act.put, List.setIfInBounds_toArray, List.set_cons_zero, List.set_cons_succ]
              refine Last.take_ (i := 1) (N := some 80) (v := .slice A0 n0 c0) #[true, true, false, false, false, false, false, false, false] (by rfl) rfl (by kernel_rfl) (by exact fun _ _ _ h => h) (Or.inl ⟨by rfl, fun W hW => by first | rfl | (try dsimp only at hW); go_simp⟩) hS rfl ?_
              simp only [Act.put, List.setIfInBounds_toArray, List.set_cons_zero, List.set_cons_succ]
              refine Last.take_ (i := 4) (N := some 83) (v := .pointer (some ⟨x, 0, none⟩)) #[true, true, false, false, true, false, false, false, false] (by rfl) rfl (by kernel_rfl) (by exact fun _ _ _ h => h) (Or.inl ⟨by rfl, fun W hW => by first | rfl | (try dsimp only at hW); go_simp⟩) hS rfl ?_
              simp only [Act.put, List.setIfInBounds_toArray, List.set_cons_zero, List.set_cons_succ]
              refine Last.take_ (i := 5) (N := some 84) (v := .slice A0 n0 c0) #[true, true, false, false, true, true, false, false, false] (by rfl) rfl (by kernel_rfl) (by exact fun _ _ _ h => h) (Or.inl ⟨by rfl, fun W hW => by first | rfl | (try dsimp only at hW); go_simp⟩) hS rfl ?_
              simp only [Act.put, List.setIfInBounds_toArray, List.set_cons_zero, List.set_cons_succ]
              refine Last.one_ (i := 2) (N := some 81) #[true, true, true, false, true, true, false, false, false] (by rfl) rfl (by kernel_rfl) (by decide) (fun K hK => ?_)
              refine Last.goes_ Try.func42 (by kernel_rfl) rfl #[.pointer (some ⟨g, 0, none⟩), .slice A0 n0 c0] (by rfl) rfl rfl (by simp [Act.eval]) ?_
              refine (FPut_calls (F1.out.ext0 (Ext.refl Non wr).drew) hND.out (HB1.out.ext0 (Ext.refl Non wr).drew) (by omega)).mono ?_
              rintro e w2 ⟨v2, rfl, ho, he⟩
              obtain ⟨A4, n4, c4, rfl⟩ : ∃ A n c, v2 = .slice A n c := by obtain ⟨A6, c6, h6, _, _⟩ := ho.slice; exact ⟨_, _, _, h6⟩
              have P2 := Lib.hid ho.rd
              have Y2 : Hid (Ext Non wr w2) := (Ext.refl Non wr).drew.trans0 he
              clear ho he
              refine ⟨_, rfl, ?_⟩
              refine hK.out _ _ trivial (fun hS => ?_)
              try simp only [Act.put, List.setIfInBounds_toArray, List.set_cons_zero, List.set_cons_succ]
              refine Last.two_ (i := 3) (j := 6) (Ni := some 82) (Nj := some 85) #[true, true, true, true, true, true, false, false, false] #[true, true, true, false, true, true, true, false, false] (by rfl) (by rfl) rfl rfl (by kernel_rfl) (by decide) (by decide) (fun K hK => ?_) (fun K hK => ?_)
              · have cv := conv_rd P2.out
                go_simp
                refine hK.out _ _ trivial (fun hS => ?_)
                try simp only [Act.put, List.setIfInBounds_toArray, List.set_cons_zero, List.set_cons_succ]
                refine Last.one_ (i := 6) (N := some 85) #[true, true, true, true, true, true, true, false, false] (by rfl) rfl (by kernel_rfl) (by decide) (fun K hK => ?_)
                refine Last.goes_ Try.func43 (by kernel_rfl) rfl #[.pointer (some ⟨x, 0, none⟩), .slice A0 n0 c0] (by rfl) rfl rfl (by simp [Act.eval]) ?_
                refine (RFPut_calls (X1.out.ext0 Y2.out) hND.out (HB1.out.ext0 Y2.out) (by omega)).mono ?_
                rintro e w3 ⟨v3, rfl, ho, he⟩
                obtain ⟨A5, n5, c5, rfl⟩ : ∃ A n c, v3 = .slice A n c := by obtain ⟨A6, c6, h6, _, _⟩ := ho.slice; exact ⟨_, _, _, h6⟩
                have P3 := Lib.hid ho
                have P23 := Lib.hid (P2.out.ext0 he)
                have Y3 : Hid (Ext Non wr w3) := Y2.out.trans0 he
                clear ho he
                refine ⟨_, rfl, ?_⟩
                refine hK.out _ _ trivial (fun hS => ?_)
                try simp only [Act.put, List.setIfInBounds_toArray, List.set_cons_zero, List.set_cons_succ]
                refine Last.one_ (i := 7) (N := some 86) #[true, true, true, true, true, true, true, true, false] (by rfl) rfl (by kernel_rfl) (by decide) (fun K hK => ?_)
                have cv := conv_rd P3.out
                go_simp
                refine hK.out _ _ trivial (fun hS => ?_)
                try simp only [Act.put, List.setIfInBounds_toArray, List.set_cons_zero, List.set_cons_succ]
                refine Last.take_ (i := 8) (N := some 87) (v := .bool false) #[true, true, true, true, true, true, true, true, true] (by rfl) rfl (by kernel_rfl) (by exact fun _ _ _ h => h) (Or.inl ⟨by rfl, fun W hW => by first | rfl | (try dsimp only at hW); go_simp⟩) hS rfl ?_
                simp only [Act.put, List.setIfInBounds_toArray, List.set_cons_zero, List.set_cons_succ]
                refine Last.done_ (by kernel_rfl) ?_
                go_wp2_with fail
                go_meet
                exact ⟨rfl, Y3.out⟩
              · refine Last.goes_ Try.func43 (by kernel_rfl) rfl #[.pointer (some ⟨x, 0, none⟩), .slice A0 n0 c0] (by rfl) rfl rfl (by simp [Act.eval]) ?_
                refine (RFPut_calls (X1.out.ext0 Y2.out) hND.out (HB1.out.ext0 Y2.out) (by omega)).mono ?_
                rintro e w3 ⟨v3, rfl, ho, he⟩
                obtain ⟨A5, n5, c5, rfl⟩ : ∃ A n c, v3 = .slice A n c := by obtain ⟨A6, c6, h6, _, _⟩ := ho.slice; exact ⟨_, _, _, h6⟩
                have P3 := Lib.hid ho
                have P23 := Lib.hid (P2.out.ext0 he)
                have Y3 : Hid (Ext Non wr w3) := Y2.out.trans0 he
                clear ho he
                refine ⟨_, rfl, ?_⟩
                refine hK.out _ _ trivial (fun hS => ?_)
                try simp only [Act.put, List.setIfInBounds_toArray, List.set_cons_zero, List.set_cons_succ]
                refine Last.two_ (i := 3) (j := 7) (Ni := some 82) (Nj := some 86) #[true, true, true, true, true, true, true, false, false] #[true, true, true, false, true, true, true, true, false] (by rfl) (by rfl) rfl rfl (by kernel_rfl) (by decide) (by decide) (fun K hK => ?_) (fun K hK => ?_)
                · have cv := conv_rd P23.out
                  go_simp
                  refine hK.out _ _ trivial (fun hS => ?_)
                  try simp only [Act.put, List.setIfInBounds_toArray, List.set_cons_zero, List.set_cons_succ]
                  refine Last.one_ (i := 7) (N := some 86) #[true, true, true, true, true, true, true, true, false] (by rfl) rfl (by kernel_rfl) (by decide) (fun K hK => ?_)
                  have cv := conv_rd P3.out
                  go_simp
                  refine hK.out _ _ trivial (fun hS => ?_)
                  try simp only [Act.put, List.setIfInBounds_toArray, List.set_cons_zero, List.set_cons_succ]
                  refine Last.take_ (i := 8) (N := some 87) (v := .bool false) #[true, true, true, true, true, true, true, true, true] (by rfl) rfl (by kernel_rfl) (by exact fun _ _ _ h => h) (Or.inl ⟨by rfl, fun W hW => by first | rfl | (try dsimp only at hW); go_simp⟩) hS rfl ?_
                  simp only [Act.put, List.setIfInBounds_toArray, List.set_cons_zero, List.set_cons_succ]
                  refine Last.done_ (by kernel_rfl) ?_
                  go_wp2_with fail
                  go_meet
                  exact ⟨rfl, Y3.out⟩
                · have cv := conv_rd P3.out
                  go_simp
                  refine hK.out _ _ trivial (fun hS => ?_)
                  try simp only [Act.put, List.setIfInBounds_toArray, List.set_cons_zero, List.set_cons_succ]
                  refine Last.one_ (i := 3) (N := some 82) #[true, true, true, true, true, true, true, true, false] (by rfl) rfl (by kernel_rfl) (by decide) (fun K hK => ?_)
                  have cv := conv_rd P23.out
                  go_simp
                  refine hK.out _ _ trivial (fun hS => ?_)
                  try simp only [Act.put, List.setIfInBounds_toArray, List.set_cons_zero, List.set_cons_succ]
                  refine Last.take_ (i := 8) (N := some 87) (v := .bool false) #[true, true, true, true, true, true, true, true, true] (by rfl) rfl (by kernel_rfl) (by exact fun _ _ _ h => h) (Or.inl ⟨by rfl, fun W hW => by first | rfl | (try dsimp only at hW); go_simp⟩) hS rfl ?_
                  simp only [Act.put, List.setIfInBounds_toArray, List.set_cons_zero, List.set_cons_succ]
                  refine Last.done_ (by kernel_rfl) ?_
                  go_wp2_with fail
                  go_meet
                  exact ⟨rfl, Y3.out⟩
            case rest =>
              obtain ⟨rfl, hE⟩ := hcut
              obtain ⟨wd, hwd⟩ : ∃ W, W = wc := ⟨_, rfl⟩
              subst hwd
              have E2 : Hid (Ext Non w wd) := E1.out.trans0 hE
              have F2 : Hid (Fd n (fun j => j ≠ g) wd g D) := (F1.out.ext0 hE).re (fun k hk _ => hk.1) (fun h => h rfl)
              have HN1 : Hid (D.next ≠ 0) := by show _ ≠ _; have := hND.out.fine.good.next; omega
              have hgd : g < wd.heap.size := by
                obtain ⟨se, ss, hb⟩ := F2.out.blk
                exact blk_lt hb
              clear hE F1 X1 HB1
              go_wp2_with fail
              refine (Kept_calls F2.out HN1.out (by have := hND.out.fine.good.evs; omega) (fun k hk => by show k ≠ g; omega)).mono ?_
              rintro e w8 ⟨B5, m5, d5, rfl, ho, he⟩
              have O8 := Lib.hid ho.rd
              have hm5 : m5 = D.evs.length := by
                obtain ⟨_, _, hs, _, _⟩ := O8.out.slice
                simp only [Value.slice.injEq] at hs
                exact hs.2.1
              have HM5 := Lib.hid hm5
              have hm5x : m5 ≤ 32 := by have := hND.out.fine.good.evs; omega
              have E8 : Hid (Ext Non w w8) := E2.out.trans0 he
              have F8 : Hid (Fd n (fun j => j ≠ g) w8 g D) := F2.out.ext0 he
              clear ho he hm5 F2 E2
              go_wp2_with fail
              go_loopw [91] (fun i wr => ∃ j : Nat, i = .int .i64 (j : Int) ∧ j ≤ m5 ∧ Hid (Ext Non w8 wr) ∧ Hid (∀ (i : Nat) e, i < j → D.evs[i]? = some e → e.key.size ≤ 96 ∧ e.old.size ≤ 192 ∧ e.now.size ≤ 192)) (fun i _ => m5 - (intOf i).toNat)
              case atStart => exact ⟨0, rfl, by omega, Ext.refl _ _, fun i e h => by omega⟩
              case round =>
                obtain ⟨j, rfl, hj, HE, HS⟩ := hrel
                by_cases hlt : j < m5
                · obtain ⟨e, he⟩ : ∃ e, D.evs[j]? = some e := ⟨_, List.getElem?_eq_getElem (by have := HM5.out; omega)⟩
                  obtain ⟨ga, offa, rfl, hga, hgla, a0, a1, a2, a3, a4, a5⟩ := ev_at (O8.out.ext0 HE.out) he
                  obtain ⟨q, hqq⟩ : ∃ q, wr.heap.size = q := ⟨_, rfl⟩
                  obtain ⟨w9, hw9⟩ : ∃ W, wr.alloc (.cells #[.int .i64 e.pos, .string e.key, .bool e.had, .string e.old, .bool e.has, .string e.now] 43) = W := ⟨_, rfl⟩
                  have E9 : Hid (Ext Non wr w9) := by rw [← hw9]; exact (Ext.refl _ _).alloc _
                  have BQ9 : Hid (w9.heap[q]? = some (.cells #[.int .i64 e.pos, .string e.key, .bool e.had, .string e.old, .bool e.has, .string e.now] 43 (0, 0))) := by rw [← hw9, ← hqq]; exact blk_new wr _
                  have EW9 : Hid (Ext Non w w9) := (E8.out.trans0 HE.out).trans0 E9.out
                  have t1 := blk_cell BQ9.out 1
                  have t3 := blk_cell BQ9.out 3
                  have t5 := blk_cell BQ9.out 5
                  have hql := blk_lt BQ9.out
                  have HEE := Lib.hid he
                  clear he hga
                  by_cases h1 : 96 < e.key.size
                  · go_wp2_with fail
                    refine (AWW.out _ (EW9.out)).mono ?_
                    rintro e w99 ⟨rfl, he⟩
                    have E99 := Lib.hid he
                    clear he
                    go_wp2_with fail
                    go_ret
                    exact ⟨rfl, E99.out⟩
                  · by_cases h2 : 192 < e.old.size
                    · go_wp2_with fail
                      refine (AWW.out _ (EW9.out)).mono ?_
                      rintro e w99 ⟨rfl, he⟩
                      have E99 := Lib.hid he
                      clear he
                      go_wp2_with fail
                      go_ret
                      exact ⟨rfl, E99.out⟩
                    · by_cases h3 : 192 < e.now.size
                      · go_wp2_with fail
                        refine (AWW.out _ (EW9.out)).mono ?_
                        rintro e w99 ⟨rfl, he⟩
                        have E99 := Lib.hid he
                        clear he
                        go_wp2_with fail
                        go_ret
                        exact ⟨rfl, E99.out⟩
                      · go_wp2_with fail
                        go_roundw
                        case rel =>
                          refine ⟨j + 1, by go_num, by omega, HE.out.trans0 E9.out, fun i y hi hy => ?_⟩
                          rcases Nat.lt_succ_iff_lt_or_eq.1 hi with h | rfl
                          · exact HS.out i y h hy
                          · have := HEE.out
                            rw [hy] at this
                            cases this
                            omega
                        case measure => simp [intOf]; omega
                · obtain rfl : j = m5 := by omega
                  have HZ : Hid (∀ e ∈ D.evs, e.key.size ≤ 96 ∧ e.old.size ≤ 192 ∧ e.now.size ≤ 192) := fun e he => by
                    obtain ⟨i, hi⟩ := List.getElem?_of_mem he
                    exact HS.out i e (by have := (List.getElem?_eq_some_iff.1 hi).1; have := HM5.out; omega) hi
                  have E10 : Hid (Ext Non w wr) := E8.out.trans0 HE.out
                  have F10 : Hid (Fd n (fun j => j ≠ g) wr g D) := F8.out.ext0 HE.out
                  have HB10 := Lib.hid (HB.out.ext0 E10.out)
                  have HLD := Lib.hid (encD_len hND.out)
                  clear HS O8 HE F8 E8
                  go_wp2_with fail
                  refine (FPut_calls (A0 := none) (n0 := 0) (c0 := 0) (bs := []) F10.out hND.out (Rd.nil _ _ _) (by simp)).mono ?_
                  rintro e w9 ⟨v2, rfl, ho, he⟩
                  obtain ⟨A4, n4, c4, rfl⟩ : ∃ A n c, v2 = .slice A n c := by obtain ⟨A6, c6, h6, _, _⟩ := ho.slice; exact ⟨_, _, _, h6⟩
                  have O9 : Hid (Own Kd.u8 5 w9 wr.heap.size (fun _ => True) (.slice A4 n4 c4) (encD n D)) := ho
                  have X9 := Lib.hid he
                  clear ho he
                  go_wp2_with (first
                    | (at_builtin
                       refine app_old (w0 := wr) (ok := fun _ => True) (v := .slice A4 n4 c4) (vx := .slice A0 n0 c0) (xs := encD n D) (ys := bs) rfl _ _ rfl (by simp [Act.eval]) (by simp [Act.eval]) O9.out X9.out HB10.out (fun _ _ => trivial) (by have := HLD.out; omega) ?_
                       intro A5 n5 c5 w10 hl5 O10 X10 hsz)
                    | fail)
                  refine (WRead_calls O10.out.rd (by have := HLD.out; rw [List.length_append]; omega)).mono ?_
                  rintro e w11 ⟨r, rfl, hr1, hr2, hR, he⟩
                  have X11 : Hid (Ext Non wr w11) := X10.out.trans0 he
                  have RA : Hid (RAt w11 (fun k => w10.heap.size ≤ k ∧ k < r) r (encD n D ++ bs) (encD n D ++ bs)) := ⟨0, Nat.zero_le _, hR, rfl⟩
                  clear hR he
                  go_wp2_with fail
                  refine (Get_calls RA.out (fun h => by have := h.2; omega) (fun j hj => by have := hj.2; omega) hn hND.out HZ.out).mono ?_
                  rintro e w12 ⟨gf, rfl, hgf, hF, hRA, he⟩
                  have X12 : Hid (Ext Non wr w12) := X11.out.trans he (fun i hi h => by have h' : i = r := h; have := X10.out.size; omega)
                  have FG := Lib.hid hF
                  obtain ⟨a, ha, hR, hd⟩ := hRA
                  have hgfl : gf < w12.heap.size := by
                    obtain ⟨se, ss, hb⟩ := FG.out.blk
                    exact blk_lt hb
                  have hleft : (encD n D ++ bs).length - a = bs.length := by
                    have := congrArg List.length hd
                    rwa [List.length_drop] at this
                  have hRR := Lib.hid hR
                  have hz11 : Hid (wr.heap.size ≤ w11.heap.size) := X11.out.size
                  have FF : Hid (Fd n (fun j => j ≠ g ∧ j ≠ gf) w12 g D) := ((F10.out.re (ok' := fun j => j ≠ g ∧ j < wr.heap.size) (fun k hk hl => ⟨hk, hl⟩) (fun h => h.1 rfl)).ext0 X12.out).re (fun k hk _ => ⟨hk.1, by have := hk.2; have := hz11.out; omega⟩) (fun h => h.1 rfl)
                  clear hF hR hd he
                  go_wp2_with fail
                  refine (Left_calls hRR.out ha).mono ?_
                  rintro e w13 ⟨rfl, he⟩
                  rw [hleft]
                  have X13 : Hid (Ext Non w12 w13) := he
                  clear he
                  have hn0 := HN0.out
                  subst hn0
                  have hgl10 : g < wr.heap.size := by
                    obtain ⟨se, ss, hb⟩ := F10.out.blk
                    exact blk_lt hb
                  have hggf : g ≠ gf := by have := hz11.out; omega
                  have hwgf : w.heap.size ≤ gf := by have := hz11.out; have := E10.out.size; omega
                  go_wp2_with fail
                  have hz13 := X13.out.size
                  have hg12 : g < w12.heap.size := by have := X12.out.size; omega
                  refine (same_calls (FF.out.ext0 X13.out) (FG.out.ext0 X13.out) hND.out.fine.good (fun k hk => ⟨by omega, by omega⟩) (fun k hk => ⟨by omega, by omega⟩)).mono ?_
                  rintro e w14 ⟨rfl, he⟩
                  have X14 : Hid (Ext Non w12 w14) := X13.out.trans0 he
                  have F14 : Hid (Fd n (fun j => j ≠ g ∧ j ≠ gf) w14 g D) := FF.out.ext0 X14.out
                  have G14 : Hid (Fd n (fun j => w11.heap.size ≤ j ∧ j ≠ gf) w14 gf D) := FG.out.ext0 X14.out
                  have E14 : Hid (Ext Non w w14) := (E10.out.trans0 X12.out).trans0 X14.out
                  have hz14 : w12.heap.size ≤ w14.heap.size := X14.out.size
                  have HG14 : Hid (Good n D) := hND.out.fine.good
                  clear he X13 FF FG X12 X9 X10 X11 O9 O10 RA hRR F10 HB10
                  go_wp2_with fail
                  go_loopw [140] (fun i wr => ∃ (j : Nat) (D2 : Fdr), i = .int .i64 (j : Int) ∧ j ≤ m2 ∧ Hid (Good n D2) ∧ Hid (Fd n (fun j => j ≠ g ∧ j ≠ gf) wr g D2) ∧ Hid (Fd n (fun j => w11.heap.size ≤ j ∧ j ≠ gf) wr gf D2) ∧ Hid (Ext Non w wr) ∧ Hid (w14.heap.size ≤ wr.heap.size)) (fun i _ => m2 - (intOf i).toNat)
                  case atStart => exact ⟨0, D, rfl, by omega, HG14.out, F14.out, G14.out, E14.out, Nat.le_refl _⟩
                  case round =>
                    obtain ⟨j, D2, rfl, hj, HGD, F, G, HWE, HZ2⟩ := hrel
                    by_cases hlt : j < m2
                    · obtain ⟨k, hk⟩ : ∃ k, l2[j]? = some k := ⟨_, List.getElem?_eq_getElem (by have := HM2.out; omega)⟩
                      obtain ⟨ga, offa, B, bl, bd, C, ck, cf, rfl, hga, hgla, a0, a1, a2, a3, a4, a5, a6, a7, a8, a9, hu, hq⟩ := do_at (HR2.out.ext0 HWE.out) hk
                      have hkm : k ∈ l2 := List.mem_of_getElem? hk
                      have HKO : Hid (CallOk n k) := HCO2.out k hkm
                      have HU := Lib.hid hu
                      have HQ := Lib.hid hq
                      have hzz := HZ2.out
                      obtain ⟨ve, hve⟩ : ∃ v, (stepR n D2 k).1 = v := ⟨_, rfl⟩
                      obtain ⟨D', hD'⟩ : ∃ v, (stepR n D2 k).2 = v := ⟨_, rfl⟩
                      have H1 := Lib.hid hve
                      have H2 := Lib.hid hD'
                      have HGD' : Hid (Good n D') := by rw [← hD']; exact step_good HGD.out HKO.out
                      clear hu hq hk hga hkm hve hD'
                      obtain ⟨q, hqq⟩ : ∃ q, wr.heap.size = q := ⟨_, rfl⟩
                      obtain ⟨w2, hw2⟩ : ∃ w2, wr.alloc (.cells #[.int .i64 k.op, .int .i64 k.step, .int .i64 k.id, .int .i64 k.pos, .int .i64 k.most, .slice B bl bd, .int .i64 k.q.op, .string k.q.key, .string k.q.val, .slice C ck cf] 36) = w2 := ⟨_, rfl⟩
                      have E0 : Hid (Ext Non wr w2) := by rw [← hw2]; exact (Ext.refl _ _).alloc _
                      have BQ2 : Hid (w2.heap[q]? = some (.cells #[.int .i64 k.op, .int .i64 k.step, .int .i64 k.id, .int .i64 k.pos, .int .i64 k.most, .slice B bl bd, .int .i64 k.q.op, .string k.q.key, .string k.q.val, .slice C ck cf] 36 (0, 0))) := by rw [← hw2, ← hqq]; exact blk_new wr _
                      have F2 : Hid (Fd n (fun j => j ≠ g ∧ j ≠ gf) w2.drew g D2) := (F.out.ext0 E0.out).ext0 (Ext.refl Non w2).drew
                      have G2 : Hid (Fd n (fun j => w11.heap.size ≤ j ∧ j ≠ gf) w2.drew gf D2) := (G.out.ext0 E0.out).ext0 (Ext.refl Non w2).drew
                      have BQd : Hid (w2.drew.heap[q]? = some (.cells #[.int .i64 k.op, .int .i64 k.step, .int .i64 k.id, .int .i64 k.pos, .int .i64 k.most, .slice B bl bd, .int .i64 k.q.op, .string k.q.key, .string k.q.val, .slice C ck cf] 36 (0, 0))) := (Ext.refl Non w2).drew.obj BQ2.out (fun e => e)
                      have EWd : Hid (Ext Non w w2.drew) := (HWE.out.trans0 E0.out).drew
                      have hql := blk_lt BQ2.out
                      have hs2 := E0.out.size
                      have hsd : w2.heap.size ≤ w2.drew.heap.size := Nat.le_refl _
                      obtain ⟨t0, t1, t2, t3, t4, t5, t6, t7, t8, t9⟩ := doS BQ2.out
                      go_wp2_with fail
                      refine Last.start_ (S := fun W => W.cell? ⟨q, 0, none⟩ = some (.int .i64 k.op) ∧ W.cell? ⟨q, 1, none⟩ = some (.int .i64 k.step) ∧ W.cell? ⟨q, 2, none⟩ = some (.int .i64 k.id) ∧ W.cell? ⟨q, 3, none⟩ = some (.int .i64 k.pos) ∧ W.cell? ⟨q, 4, none⟩ = some (.int .i64 k.most) ∧ W.cell? ⟨q, 5, none⟩ = some (.slice B bl bd) ∧ W.cell? ⟨q, 6, none⟩ = some (.int .i64 k.q.op) ∧ W.cell? ⟨q, 7, none⟩ = some (.string k.q.key) ∧ W.cell? ⟨q, 8, none⟩ = some (.string k.q.val) ∧ W.cell? ⟨q, 9, none⟩ = some (.slice C ck cf)) (ds := []) #[false, false, false, false, false, false, false, false, false, false, false, false, false] (by kernel_rfl) (by rfl) (by rfl) (doS BQd.out) (fun hS => ?_)
                      refine Last.take_ (i := 0) (N := some 144) (v := .pointer (some ⟨g, 0, none⟩)) #[true, false, false, false, false, false, false, false, false, false, false, false, false] (by simp only [List.getElem?_toArray, List.getElem?_cons_zero]; rfl) rfl (by kernel_rfl) (by exact fun _ _ _ h => h) (Or.inl ⟨by rfl, fun W hW => by first | rfl | (try dsimp only at hW); go_simp⟩) hS rfl ?_
                      simp only [Act.put, List.setIfInBounds_toArray, List.set_cons_zero, List.set_cons_succ]
                      refine Last.take_ (i := 1) (N := some 145) (v := .agg #[.int .i64 k.op, .int .i64 k.step, .int .i64 k.id, .int .i64 k.pos, .int .i64 k.most, .slice B bl bd, .int .i64 k.q.op, .string k.q.key, .string k.q.val, .slice C ck cf]) #[true, true, false, false, false, false, false, false, false, false, false, false, false] (by rfl) rfl (by kernel_rfl) (by exact fun _ _ _ h => h) (Or.inl ⟨by rfl, fun W hW => by first | rfl | (try dsimp only at hW); go_simp⟩) hS rfl ?_
                      simp only [Act.put, List.setIfInBounds_toArray, List.set_cons_zero, List.set_cons_succ]
                      refine Last.take_ (i := 3) (N := some 147) (v := .pointer (some ⟨gf, 0, none⟩)) #[true, true, false, true, false, false, false, false, false, false, false, false, false] (by rfl) rfl (by kernel_rfl) (by exact fun _ _ _ h => h) (Or.inl ⟨by rfl, fun W hW => by first | rfl | (try dsimp only at hW); go_simp⟩) hS rfl ?_
                      simp only [Act.put, List.setIfInBounds_toArray, List.set_cons_zero, List.set_cons_succ]
                      refine Last.take_ (i := 4) (N := some 148) (v := .agg #[.int .i64 k.op, .int .i64 k.step, .int .i64 k.id, .int .i64 k.pos, .int .i64 k.most, .slice B bl bd, .int .i64 k.q.op, .string k.q.key, .string k.q.val, .slice C ck cf]) #[true, true, false, true, true, false, false, false, false, false, false, false, false] (by rfl) rfl (by kernel_rfl) (by exact fun _ _ _ h => h) (Or.inl ⟨by rfl, fun W hW => by first | rfl | (try dsimp only at hW); go_simp⟩) hS rfl ?_
                      simp only [Act.put, List.setIfInBounds_toArray, List.set_cons_zero, List.set_cons_succ]
                      refine Last.one_ (i := 2) (N := some 146) #[true, true, true, true, true, false, false, false, false, false, false, false, false] (by rfl) rfl (by kernel_rfl) (by decide) (fun K hK => ?_)
                      refine Last.goes_ Try.func36 (by kernel_rfl) rfl #[.pointer (some ⟨g, 0, none⟩), .agg #[.int .i64 k.op, .int .i64 k.step, .int .i64 k.id, .int .i64 k.pos, .int .i64 k.most, .slice B bl bd, .int .i64 k.q.op, .string k.q.key, .string k.q.val, .slice C ck cf]] (by rfl) rfl rfl (by simp [Act.eval]) ?_
                      refine (does_calls F2.out HGD.out (fun j hj => ⟨by omega, by omega⟩) (okX := fun j => j < w.heap.size) (k := k) ⟨_, _, rfl, (HU.out.ext0 E0.out).ext0 (Ext.refl Non w2).drew, (HQ.out.ext0 E0.out).ext0 (Ext.refl Non w2).drew⟩ (by show ¬ g < w.heap.size; omega) HKO.out).mono ?_
                      rintro e w3 ⟨rfl, hf, he⟩
                      rw [H2.out] at hf
                      rw [H1.out]
                      have F3 : Hid (Fd n (fun j => j ≠ g ∧ j ≠ gf) w3 g D') := hf
                      have G3 : Hid (Fd n (fun j => w11.heap.size ≤ j ∧ j ≠ gf) w3 gf D2) := G2.out.ext he (fun j hj h => by have h' : j = g := h; have := hj.1; have := hz11.out; omega) (fun h => hggf h.symm)
                      have BQ3 := Lib.hid (he.obj BQd.out (fun h => by have h' : q = g := h; omega))
                      have E3 : Hid (Ext Non w w3) := EWd.out.trans he (fun i hi h => by have h' : i = g := h; omega)
                      have Y3 : Hid (Ext (Only g) w2 w3) := (Ext.refl (Only g) w2).drew.trans he (fun _ _ h => h)
                      have hs23 : w2.heap.size ≤ w3.heap.size := Y3.out.size
                      clear hf he
                      refine ⟨_, rfl, ?_⟩
                      refine hK.out _ _ (doS BQ3.out) (fun hS => ?_)
                      try simp only [Act.put, List.setIfInBounds_toArray, List.set_cons_zero, List.set_cons_succ]
                      refine Last.one_ (i := 5) (N := some 149) #[true, true, true, true, true, true, false, false, false, false, false, false, false] (by rfl) rfl (by kernel_rfl) (by decide) (fun K hK => ?_)
                      refine Last.goes_ Try.func36 (by kernel_rfl) rfl #[.pointer (some ⟨gf, 0, none⟩), .agg #[.int .i64 k.op, .int .i64 k.step, .int .i64 k.id, .int .i64 k.pos, .int .i64 k.most, .slice B bl bd, .int .i64 k.q.op, .string k.q.key, .string k.q.val, .slice C ck cf]] (by rfl) rfl rfl (by simp [Act.eval]) ?_
                      refine (does_calls G3.out HGD.out (fun j hj => ⟨by omega, by omega⟩) (okX := fun j => j < w.heap.size) (k := k) ⟨_, _, rfl, (HU.out.ext0 E0.out).ext Y3.out (fun j hj _ h => by have h' : j = g := h; have hj' : j < w.heap.size := hj; omega), (HQ.out.ext0 E0.out).ext Y3.out (fun j hj _ h => by have h' : j = g := h; have hj' : j < w.heap.size := hj; omega)⟩ (by show ¬ gf < w.heap.size; omega) HKO.out).mono ?_
                      rintro e w4 ⟨rfl, hf, he⟩
                      rw [H2.out] at hf
                      rw [H1.out]
                      have G4 : Hid (Fd n (fun j => w11.heap.size ≤ j ∧ j ≠ gf) w4 gf D') := hf
                      have F4 : Hid (Fd n (fun j => j ≠ g ∧ j ≠ gf) w4 g D') := F3.out.ext he (fun j hj h => hj.2 h) (fun h => hggf h)
                      have BQ4 := Lib.hid (he.obj BQ3.out (fun h => by have h' : q = gf := h; omega))
                      have E4 : Hid (Ext Non w w4) := E3.out.trans he (fun i hi h => by have h' : i = gf := h; omega)
                      have hs24 : w2.heap.size ≤ w4.heap.size := Nat.le_trans hs23 he.size
                      clear hf he
                      refine ⟨_, rfl, ?_⟩
                      refine hK.out _ _ (doS BQ4.out) (fun hS => ?_)
                      try simp only [Act.put, List.setIfInBounds_toArray, List.set_cons_zero, List.set_cons_succ]
                      refine Last.take_ (i := 6) (N := some 150) (v := .bool false) #[true, true, true, true, true, true, true, false, false, false, false, false, false] (by rfl) rfl (by kernel_rfl) (by exact fun _ _ _ h => h) (Or.inl ⟨by rfl, fun W hW => by first | rfl | (try dsimp only at hW); go_simp⟩) hS rfl ?_
                      simp only [Act.put, List.setIfInBounds_toArray, List.set_cons_zero, List.set_cons_succ]
                      refine Last.take_ (i := 7) (N := some 151) (v := .bool false) #[true, true, true, true, true, true, true, true, false, false, false, false, false] (by rfl) rfl (by kernel_rfl) (by exact fun _ _ _ h => h) (Or.inl ⟨by rfl, fun W hW => by first | rfl | (try dsimp only at hW); go_simp⟩) hS rfl ?_
                      simp only [Act.put, List.setIfInBounds_toArray, List.set_cons_zero, List.set_cons_succ]
                      refine Last.take_ (i := 8) (N := some 152) (v := .pointer (some ⟨g, 0, none⟩)) #[true, true, true, true, true, true, true, true, true, false, false, false, false] (by rfl) rfl (by kernel_rfl) (by exact fun _ _ _ h => h) (Or.inl ⟨by rfl, fun W hW => by first | rfl | (try dsimp only at hW); go_simp⟩) hS rfl ?_
                      simp only [Act.put, List.setIfInBounds_toArray, List.set_cons_zero, List.set_cons_succ]
                      refine Last.take_ (i := 9) (N := some 153) (v := .pointer (some ⟨gf, 0, none⟩)) #[true, true, true, true, true, true, true, true, true, true, false, false, false] (by rfl) rfl (by kernel_rfl) (by exact fun _ _ _ h => h) (Or.inl ⟨by rfl, fun W hW => by first | rfl | (try dsimp only at hW); go_simp⟩) hS rfl ?_
                      simp only [Act.put, List.setIfInBounds_toArray, List.set_cons_zero, List.set_cons_succ]
                      refine Last.one_ (i := 10) (N := some 154) #[true, true, true, true, true, true, true, true, true, true, true, false, false] (by rfl) rfl (by kernel_rfl) (by decide) (fun K hK => ?_)
                      refine Last.goes_ Try.func41 (by kernel_rfl) rfl #[.pointer (some ⟨g, 0, none⟩), .pointer (some ⟨gf, 0, none⟩)] (by rfl) rfl rfl (by simp [Act.eval]) ?_
                      refine (same_calls F4.out G4.out HGD'.out (fun k hk => ⟨by omega, by omega⟩) (fun k hk => ⟨by omega, by omega⟩)).mono ?_
                      rintro e w5 ⟨rfl, he⟩
                      have Y5 := Lib.hid he
                      clear he
                      refine ⟨_, rfl, ?_⟩
                      refine hK.out _ _ (doS (Y5.out.obj BQ4.out (fun e => e))) (fun hS => ?_)
                      try simp only [Act.put, List.setIfInBounds_toArray, List.set_cons_zero, List.set_cons_succ]
                      refine Last.take_ (i := 11) (N := some 155) (v := .bool false) #[true, true, true, true, true, true, true, true, true, true, true, true, false] (by rfl) rfl (by kernel_rfl) (by exact fun _ _ _ h => h) (Or.inl ⟨by rfl, fun W hW => by first | rfl | (try dsimp only at hW); go_simp⟩) hS rfl ?_
                      simp only [Act.put, List.setIfInBounds_toArray, List.set_cons_zero, List.set_cons_succ]
                      refine Last.take_ (i := 12) (N := some 156) (v := .bool false) #[true, true, true, true, true, true, true, true, true, true, true, true, true] (by rfl) rfl (by kernel_rfl) (by exact fun _ _ _ h => h) (Or.inl ⟨by rfl, fun W hW => by first | rfl | (try dsimp only at hW); go_simp⟩) hS rfl ?_
                      simp only [Act.put, List.setIfInBounds_toArray, List.set_cons_zero, List.set_cons_succ]
                      refine Last.done_ (by kernel_rfl) ?_
                      have FZ : Hid (Fd n (fun j => j ≠ g ∧ j ≠ gf) w5 g D') := F4.out.ext0 Y5.out
                      have GZ : Hid (Fd n (fun j => w11.heap.size ≤ j ∧ j ≠ gf) w5 gf D') := G4.out.ext0 Y5.out
                      have EZ : Hid (Ext Non w w5) := E4.out.trans0 Y5.out
                      have hzz5 : Hid (w14.heap.size ≤ w5.heap.size) := by have h1 := Y5.out.size; have h2 := hs24; show _ ≤ _; omega
                      clear t0 t1 t2 t3 t4 t5 t6 t7 t8 t9
                      go_wp2_with fail
                      go_roundw
                      case rel => exact ⟨j + 1, D', by go_num, by omega, HGD'.out, FZ.out, GZ.out, EZ.out, hzz5.out⟩
                      case measure => simp [intOf]; omega
                    · obtain rfl : j = m2 := by omega
                      go_wp2_with fail
                      refine (AWW.out _ (HWE.out)).mono ?_
                      rintro e w99 ⟨rfl, he⟩
                      have E99 := Lib.hid he
                      clear he
                      go_wp2_with fail
                      go_ret
                      exact ⟨rfl, E99.out⟩
/-- The same, whatever levels the two lists were opened at. -/
theorem bytes_any {w : World} {n n1 : Nat} {A : Option Addr} {c : Nat} {l : List Dc} (hr : Rd (doK n) w (fun k => k < w.heap.size) (.slice A l.length c) l) (hv : ∀ k ∈ l, DcV n k) (ht : ∀ k ∈ l, okT (n + 1) k.q)
    {A2 : Option Addr} {c2 : Nat} {l2 : List Dc} (hr2 : Rd (doK n1) w (fun k => k < w.heap.size) (.slice A2 l2.length c2) l2) (hv2 : ∀ k ∈ l2, DcV n1 k)
    {A0 : Option Addr} {n0 c0 : Nat} {bs : List UInt8} (hb : Rd Kd.u8 w (fun k => k < w.heap.size) (.slice A0 n0 c0) bs) :
    Calls Try.prog 10 #[.slice A l.length c, .slice A2 l2.length c2, .slice A0 n0 c0] w fun e w' => e = .returned (.bool true) ∧ Ext Non w w' :=
  bytes_calls (n := n + n1 + 6) (by omega) (hr.kind rfl (fun _ _ _ h => doK_le (by omega) h)) (fun k hk => (hv k hk).up (by omega)) (fun k hk => okT_le (hv k hk).1 (by omega) (ht k hk))
    (hr2.kind rfl (fun _ _ _ h => doK_le (by omega) h)) (fun k hk => (hv2 k hk).up (by omega)) (hb.mono (fun _ _ => trivial))
end Go.Proofs.Ytdjfijdnhfmeeaa
