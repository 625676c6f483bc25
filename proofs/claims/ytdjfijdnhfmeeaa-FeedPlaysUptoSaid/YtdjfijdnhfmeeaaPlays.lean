/- FeedPlays: whatever is noted, added, dropped, acknowledged and read, a feed answers, and has, what the document says: for all lists of calls within the law's bounds whose filters' texts have at most 1048576 bytes. -/
import Derived.Test.YtdjfijdnhfmeeaaUA
import Derived.Test.YtdjfijdnhfmeeaaTB
namespace Go.Proofs.Ytdjfijdnhfmeeaa
open Go.RowKit Go.TM
/-- Where the two feeds live: wherever the other one's head is not. -/
def okP (g x : Nat) : Nat → Prop := fun j => j ≠ g ∧ j ≠ x
theorem fresh_ok {g x : Nat} {wr w : World} (h : g < wr.heap.size ∧ x < wr.heap.size) (hs : wr.heap.size ≤ w.heap.size) : Fresh (okP g x) w := fun j hj => ⟨by omega, by omega⟩
/-- What stands behind a call. -/
structure PlaysI (n : Nat) (w wr : World) (g x : Nat) (D : Fdr) (wc : World) : Prop where
  f : Fd n (okP g x) wc g D
  x : Rf n (okP g x) wc x D
  e : Ext Non w wc
theorem ext_fine2 {g x : Nat} {w wr wc : World} (h : Ext (fun j => j = g ∨ j = x) wr wc) (hw : Ext Non w wr) (hg : w.heap.size ≤ g) (hx : w.heap.size ≤ x) : Ext Non w wc := hw.trans h (fun i hi e => by
  have e' : i = g ∨ i = x := e
  omega)
theorem own_blk {w : World} {base : Nat} {ok : Nat → Prop} {B : Option Addr} {m d : Nat} {l : List Ev} (h : Own evK 43 w base ok (.slice B m d) l) : ∀ b, B = some ⟨b, 0, none⟩ → ∃ cur, w.heap[b]? = some (.cells cur 43 (0, 0)) ∧ cur.size = d * 6 := by
  intro b hb
  subst hb
  obtain ⟨-, -, cur, zs, T, -, hp⟩ := h.to_prow
  exact ⟨cur, hp.blk, hp.size⟩
theorem rfS {W : World} {x : Nat} {a0 a1 a2 a3 : Value} {t : TypeId} (h : W.heap[x]? = some (.cells #[a0, a1, a2, a3] t (0, 0))) : W.cell? ⟨x, 0, none⟩ = some a0 ∧ W.cell? ⟨x, 1, none⟩ = some a1 ∧ W.cell? ⟨x, 3, none⟩ = some a3 :=
  ⟨blk_cell h 0, blk_cell h 1, blk_cell h 3⟩
set_option maxRecDepth 100000 in
set_option maxHeartbeats 32000000 in
theorem plays_calls {w : World} {n : Nat} {A : Option Addr} {c : Nat} {l : List Dc} (hr : Rd (doK n) w (fun k => k < w.heap.size) (.slice A l.length c) l) (hv : ∀ k ∈ l, DcV n k) (ht : ∀ k ∈ l, okT (n + 1) k.q) :
    Calls Try.prog 4 #[.slice A l.length c] w fun e w' => e = .returned (.bool true) ∧ Ext Non w w' := by
  have hlm : (l.length : Int) ≤ 9223372036854775807 := by
    obtain ⟨_, _, _, _, h⟩ := hr.slice
    omega
  obtain ⟨m, hm⟩ : ∃ m, l.length = m := ⟨_, rfl⟩
  have HSC := Lib.hid (short_calls hr hv)
  rw [hm] at hr HSC hlm ⊢
  have HM := Lib.hid hm
  have HR := Lib.hid hr
  have HV := Lib.hid hv
  have HTT := Lib.hid ht
  have AWW : Hid (∀ w4, Ext Non w w4 → (Calls Try.prog 13 #[] w4 fun e w' => e = .returned (.bool true) ∧ Ext Non w w')) := fun w4 h4 => (awake_calls w4).mono (fun _ _ h => ⟨h.1, h4.trans0 h.2⟩)
  clear hr hv hm ht
  go_enter Try.func4, Try.ntmps4
  go_wp2_with fail
  refine HSC.out.mono ?_
  rintro e w5 ⟨b, rfl, he5, hsh⟩
  have E5 := Lib.hid he5
  have HSH := Lib.hid hsh
  clear he5 hsh
  cases b with
  | false =>
    go_wp2_with fail
    refine (AWW.out _ E5.out).mono ?_
    rintro e w6 ⟨rfl, he⟩
    have E6 := Lib.hid he
    clear he
    go_wp2_with fail
    go_ret
    exact ⟨rfl, E6.out⟩
  | true =>
    have HC : Hid (∀ y ∈ l, EvsS y ∧ LitS n y) := (HSH.out rfl).2
    have HCO : Hid (∀ y ∈ l, CallOk n y) := fun y hy => callOk (HV.out y hy) (HC.out y hy).1 (HC.out y hy).2
    have HFN : Hid (∀ j, Fine n (madeD n (l.take j))) := fun j => made_fine (fun k hk => HCO.out k (List.mem_of_mem_take hk)) (fun k hk e he => (HC.out k (List.mem_of_mem_take hk)).1.2 e he |>.1)
    obtain ⟨g, hg⟩ : ∃ g, w5.heap.size = g := ⟨_, rfl⟩
    have hwg : w.heap.size ≤ g := by have := E5.out.size; omega
    go_wp2_with fail
    refine (New_calls (n := n) (ok := fun j => j ≠ g) (by rw [hg]; exact fun h => h rfl)).mono ?_
    rintro e w6 ⟨rfl, hf6, he6⟩
    rw [hg] at hf6 ⊢
    have hgl6 : g < w6.heap.size := by
      obtain ⟨se, ss, hb⟩ := hf6.blk
      exact blk_lt hb
    obtain ⟨x, hx⟩ : ∃ x, w6.heap.size = x := ⟨_, rfl⟩
    have F6 : Hid (Fd n (okP g x) w6 g newD) := hf6.re (fun k hk hl => ⟨hk, by omega⟩) (fun h => h.1 rfl)
    have E6 : Hid (Ext Non w w6) := E5.out.trans0 he6
    clear hf6 he6
    go_wp2_with fail
    refine (RNew_calls (n := n) (ok := okP g x) (by rw [hx]; exact fun h => h.2 rfl)).mono ?_
    rintro e w7 ⟨rfl, hf7, he7⟩
    rw [hx] at hf7 ⊢
    have X7 := Lib.hid hf7
    have F7 := Lib.hid (F6.out.ext0 he7)
    have E7 : Hid (Ext Non w w7) := E6.out.trans0 he7
    have HGX : Hid (g ≠ x) := by show _ ≠ _; omega
    have HWX : Hid (w.heap.size ≤ g ∧ w.heap.size ≤ x) := ⟨hwg, by omega⟩
    clear hf7 he7 hgl6
    go_wp2_with fail
    go_loopw [32] (fun i wr => ∃ j : Nat, i = .int .i64 (j : Int) ∧ j ≤ m ∧ Hid (PlaysI n w w g x (madeD n (l.take j)) wr)) (fun i _ => m - (intOf i).toNat)
    case atStart => exact ⟨0, rfl, by omega, F7.out, X7.out, E7.out⟩
    case round =>
      obtain ⟨j, rfl, hj, HI⟩ := hrel
      obtain ⟨wo, hwo⟩ : ∃ wo, wo = wr := ⟨_, rfl⟩
      subst hwo
      by_cases hlt : j < m
      · obtain ⟨k, hk⟩ : ∃ k, l[j]? = some k := ⟨_, List.getElem?_eq_getElem (by have := HM.out; omega)⟩
        obtain ⟨ga, offa, B, bl, bd, C, ck, cf, rfl, hga, hgla, a0, a1, a2, a3, a4, a5, a6, a7, a8, a9, hu, hq⟩ := do_at (HR.out.ext0 HI.out.e) hk
        have hkm : k ∈ l := List.mem_of_getElem? hk
        obtain ⟨D, hD⟩ : ∃ D, madeD n (l.take j) = D := ⟨_, rfl⟩
        have HG : Hid (Fine n D) := by rw [← hD]; exact HFN.out j
        have HKO : Hid (CallOk n k) := HCO.out k hkm
        have HTX : Hid (okT (n + 1) k.q) := HTT.out k hkm
        have HKE : Hid (k.evs.length ≤ 32768) := HKO.out.len
        obtain ⟨D', hD'⟩ : ∃ D', (stepR n D k).2 = D' := ⟨_, rfl⟩
        have HD' := Lib.hid hD'
        have HSN : Hid (madeD n (l.take (j + 1)) = D') := by
          show _ = _
          rw [List.take_succ_eq_append_getElem (by rw [HM.out]; exact hlt), (List.getElem?_eq_some_iff.1 hk).2, madeD_snoc, hD, hD']
        have HG1 : Hid (Fine n D') := by rw [← HSN.out]; exact HFN.out (j + 1)
        have HI0 : Hid (PlaysI n w w g x D wo) := by rw [← hD]; exact HI.out
        have HN0 : Hid (D.next ≠ 0) := by show _ ≠ _; have := HG.out.good.next; omega
        have HN1 : Hid (D'.next ≠ 0) := by show _ ≠ _; have := HG1.out.good.next; omega
        have HU := Lib.hid hu
        have HQ := Lib.hid hq
        have hgl : g < wo.heap.size := by
          obtain ⟨se, ss, hb⟩ := HI0.out.f.blk
          exact blk_lt hb
        have hxl : x < wo.heap.size := by
          obtain ⟨_, _, _, _, _, _, hb, _⟩ := HI0.out.x
          exact blk_lt hb
        have HLX : Hid (g < wo.heap.size ∧ x < wo.heap.size) := ⟨hgl, hxl⟩
        have HU2 : Hid (∀ {V : World}, Ext (fun j => j = g ∨ j = x) wo V → Rd evK V (fun j => okP g x j ∧ j < w.heap.size) (.slice B bl bd) k.evs) := fun he => (hu.ext he (fun i hi _ h => by have h' : i = g ∨ i = x := h; have := HWX.out; omega)).mono (fun i hi => ⟨⟨by have := HWX.out; omega, by have := HWX.out; omega⟩, hi⟩)
        have HQ2 : Hid (∀ {V : World}, Ext (fun j => j = g ∨ j = x) wo V → Rd (fltK n) V (fun j => okP g x j ∧ j < w.heap.size) (.slice C ck cf) k.q.kids) := fun he => (hq.ext he (fun i hi _ h => by have h' : i = g ∨ i = x := h; have := HWX.out; omega)).mono (fun i hi => ⟨⟨by have := HWX.out; omega, by have := HWX.out; omega⟩, hi⟩)
        clear hu hq hk hga hD hD' hkm
        obtain ⟨q, hqq⟩ : ∃ q, wo.heap.size = q := ⟨_, rfl⟩
        obtain ⟨w2, hw2⟩ : ∃ w2, wo.alloc (.cells #[.int .i64 k.op, .int .i64 k.step, .int .i64 k.id, .int .i64 k.pos, .int .i64 k.most, .slice B bl bd, .int .i64 k.q.op, .string k.q.key, .string k.q.val, .slice C ck cf] 36) = w2 := ⟨_, rfl⟩
        have E0 : Hid (Ext Non wo w2) := by rw [← hw2]; exact (Ext.refl _ _).alloc _
        have BQw2 : Hid (w2.heap[q]? = some (.cells #[.int .i64 k.op, .int .i64 k.step, .int .i64 k.id, .int .i64 k.pos, .int .i64 k.most, .slice B bl bd, .int .i64 k.q.op, .string k.q.key, .string k.q.val, .slice C ck cf] 36 (0, 0))) := by rw [← hw2, ← hqq]; exact blk_new wo _
        have Fw2 : Hid (Fd n (okP g x) w2 g D) := HI0.out.f.ext0 E0.out
        have Xw2 : Hid (Rf n (okP g x) w2 x D) := HI0.out.x.ext0 E0.out
        have Ew2 : Hid (Ext (fun j => j = g ∨ j = x) wo w2) := E0.out.of0
        have HWR : Hid (Ext Non w wo) := HI0.out.e
        have hql := blk_lt BQw2.out
        have hs2 := E0.out.size
        have hdef : bits BinOp.and IntKind.i64 k.op 7 = opc k := rfl
        obtain ⟨s0, -⟩ := doS BQw2.out
        go_upto_block 2 with fail
        clear s0 a0 a1 a2 a3 a4 a5 a6 a7 a8 a9
        go_cut [7, 8, 9, 10, 11, 12, 13, 14, 15, 16, 17, 18, 19, 20, 21, 22, 23] from 33 to 154 (fun s7 s8 s9 s10 s11 s12 s13 s14 s15 s16 s17 s18 s19 s20 s21 s22 s23 wc => ∃ v : Int, s7 = .int .i64 v ∧ s8 = .int .i64 v ∧ s9 = .bool true ∧ PlaysI n w wo g x D' wc)
        case first =>
          by_cases c4 : opc k = 4
          · have HT : Hid (stepR n D k = ((addR n D k.q).1.2, (addR n D k.q).2)) := if_pos c4
            have HKK := Lib.hid (HKO.out.okk c4)
            have HOL := Lib.hid (okL_of HKO.out.okf HKK.out HTX.out)
            obtain ⟨va, h1⟩ : ∃ r, (addR n D k.q).1.1 = r := ⟨_, rfl⟩
            obtain ⟨ve, h2⟩ : ∃ r, (addR n D k.q).1.2 = r := ⟨_, rfl⟩
            obtain ⟨E, h3⟩ : ∃ r, (addR n D k.q).2 = r := ⟨_, rfl⟩
            have H1 := Lib.hid h1
            have H2 := Lib.hid h2
            have H3 := Lib.hid h3
            have HDD : Hid (D' = E) := by show _ = _; rw [← HD'.out, HT.out, ← h3]
            clear h1 h2 h3
            obtain ⟨t0, t1, t2, t3, t4, t5, t6, t7, t8, t9⟩ := doS BQw2.out
            go_wp2_with fail
            refine (Add_calls (n := n) (f := k.q) Fw2.out (by have := HG.out.good.next; omega) (by have := HG.out.good.subs; omega) (fresh_ok HLX.out E0.out.size) ⟨_, rfl, HQ.out.ext0 E0.out⟩ HKO.out.okf HKK.out).mono ?_
            rintro e w3 ⟨rfl, hf, he⟩
            have Fw3 : Hid (Fd n (okP g x) w3 g (addR n D k.q).2) := hf
            have Xw3 : Hid (Rf n (okP g x) w3 x D) := Xw2.out.ext he (fun j hj _ h => hj.1 h) (fun h => HGX.out h.symm)
            have BQw3 := Lib.hid (he.obj BQw2.out (fun h => by have h' : q = g := h; omega))
            have Ew3 : Hid (Ext (fun j => j = g ∨ j = x) wo w3) := Ew2.out.trans he (fun _ _ h => .inl h)
            clear hf he
            rw [H3.out] at Fw3
            rw [H1.out, H2.out]
            clear t0 t1 t2 t3 t4 t5 t6 t7 t8 t9
            obtain ⟨t0, t1, t2, t3, t4, t5, t6, t7, t8, t9⟩ := doS BQw3.out
            have hs3 := Ew3.out.size
            go_wp2_with fail
            refine (RAdd_calls (n := n) (f := k.q) Xw3.out HG.out.good (fresh_ok HLX.out hs3) (okX := fun j => okP g x j ∧ j < w.heap.size) ⟨_, rfl, HQ2.out Ew3.out⟩ (fun _ h => h.1) HOL.out).mono ?_
            rintro e w4 ⟨rfl, hf, he⟩
            have Xw4 : Hid (Rf n (okP g x) w4 x (addR n D k.q).2) := hf
            have Fw4 : Hid (Fd n (okP g x) w4 g E) := Fw3.out.ext he (fun j hj h => hj.2 h) (fun h => HGX.out h)
            have BQw4 := Lib.hid (he.obj BQw3.out (fun h => by have h' : q = x := h; omega))
            have Ew4 : Hid (Ext (fun j => j = g ∨ j = x) wo w4) := Ew3.out.trans he (fun _ _ h => .inr h)
            clear hf he
            rw [H3.out] at Xw4
            rw [H1.out, H2.out]
            clear t0 t1 t2 t3 t4 t5 t6 t7 t8 t9
            rw [← HDD.out] at Xw4 Fw4
            have HR : Hid (PlaysI n w wo g x D' w4) := ⟨Fw4.out, Xw4.out, ext_fine2 Ew4.out HWR.out HWX.out.1 HWX.out.2⟩
            clear HT HDD
            go_wp2_with fail
            go_meet
            exact ⟨_, rfl, rfl, rfl, HR.out⟩
          · by_cases c5 : opc k = 5
            · have HT : Hid (stepR n D k = dropR D k.id) := (if_neg c4).trans (if_pos c5)
              obtain ⟨ve, h1⟩ : ∃ r, (dropR D k.id).1 = r := ⟨_, rfl⟩
              obtain ⟨E, h2⟩ : ∃ r, (dropR D k.id).2 = r := ⟨_, rfl⟩
              have H1 := Lib.hid h1
              have H2 := Lib.hid h2
              have HDD : Hid (D' = E) := by show _ = _; rw [← HD'.out, HT.out, h2]
              clear h1 h2
              obtain ⟨t0, t1, t2, t3, t4, t5, t6, t7, t8, t9⟩ := doS BQw2.out
              go_wp2_with fail
              have EDr : Hid (Ext Non w2 w2.drew) := (Ext.refl _ _).drew
              have Fwd : Hid (Fd n (okP g x) w2.drew g D) := Fw2.out.ext0 EDr.out
              have Xwd : Hid (Rf n (okP g x) w2.drew x D) := Xw2.out.ext0 EDr.out
              have BQwd := Lib.hid (EDr.out.obj BQw2.out (fun e => e))
              have Ewd : Hid (Ext (fun j => j = g ∨ j = x) wo w2.drew) := Ew2.out.trans0 EDr.out
              refine Last.start_ (S := fun W => W.cell? ⟨q, 0, none⟩ = some (.int .i64 k.op) ∧ W.cell? ⟨q, 1, none⟩ = some (.int .i64 k.step) ∧ W.cell? ⟨q, 2, none⟩ = some (.int .i64 k.id) ∧ W.cell? ⟨q, 3, none⟩ = some (.int .i64 k.pos) ∧ W.cell? ⟨q, 4, none⟩ = some (.int .i64 k.most) ∧ W.cell? ⟨q, 5, none⟩ = some (.slice B bl bd) ∧ W.cell? ⟨q, 6, none⟩ = some (.int .i64 k.q.op) ∧ W.cell? ⟨q, 7, none⟩ = some (.string k.q.key) ∧ W.cell? ⟨q, 8, none⟩ = some (.string k.q.val) ∧ W.cell? ⟨q, 9, none⟩ = some (.slice C ck cf)) (ds := []) #[false, false, false, false, false, false, false, false, false, false] (by kernel_rfl) (by rfl) (by rfl) (doS (EDr.out.obj BQw2.out (fun e => e))) (fun hS => ?_)
              refine Last.take_ (i := 0) (N := some 87) (v := .pointer (some ⟨g, 0, none⟩)) #[true, false, false, false, false, false, false, false, false, false] (by simp only [List.getElem?_toArray, List.getElem?_cons_zero]; rfl) rfl (by kernel_rfl) (by exact fun _ _ _ h => h) (Or.inl ⟨by rfl, fun W hW => by first | rfl | (try dsimp only at hW); go_simp⟩) hS rfl ?_
              simp only [Act.put, List.setIfInBounds_toArray, List.set_cons_zero, List.set_cons_succ]
              refine Last.take_ (i := 1) (N := some 88) (v := .pointer (some ⟨q, 2, none⟩)) #[true, true, false, false, false, false, false, false, false, false] (by simp only [List.getElem?_toArray, List.getElem?_cons_zero, List.getElem?_cons_succ]; rfl) rfl (by kernel_rfl) (by exact fun _ _ _ h => h) (Or.inl ⟨by rfl, fun W hW => by first | rfl | (try dsimp only at hW); go_simp⟩) hS rfl ?_
              simp only [Act.put, List.setIfInBounds_toArray, List.set_cons_zero, List.set_cons_succ]
              refine Last.take_ (i := 2) (N := some 89) (v := .int .i64 k.id) #[true, true, true, false, false, false, false, false, false, false] (by simp only [List.getElem?_toArray, List.getElem?_cons_zero, List.getElem?_cons_succ]; rfl) rfl (by kernel_rfl) (by exact fun _ _ _ h => h) (Or.inl ⟨by rfl, fun W hW => by first | rfl | (try dsimp only at hW); go_simp⟩) hS rfl ?_
              simp only [Act.put, List.setIfInBounds_toArray, List.set_cons_zero, List.set_cons_succ]
              refine Last.take_ (i := 4) (N := some 91) (v := .pointer (some ⟨x, 0, none⟩)) #[true, true, true, false, true, false, false, false, false, false] (by simp only [List.getElem?_toArray, List.getElem?_cons_zero, List.getElem?_cons_succ]; rfl) rfl (by kernel_rfl) (by exact fun _ _ _ h => h) (Or.inl ⟨by rfl, fun W hW => by first | rfl | (try dsimp only at hW); go_simp⟩) hS rfl ?_
              simp only [Act.put, List.setIfInBounds_toArray, List.set_cons_zero, List.set_cons_succ]
              refine Last.take_ (i := 5) (N := some 92) (v := .pointer (some ⟨q, 2, none⟩)) #[true, true, true, false, true, true, false, false, false, false] (by simp only [List.getElem?_toArray, List.getElem?_cons_zero, List.getElem?_cons_succ]; rfl) rfl (by kernel_rfl) (by exact fun _ _ _ h => h) (Or.inl ⟨by rfl, fun W hW => by first | rfl | (try dsimp only at hW); go_simp⟩) hS rfl ?_
              simp only [Act.put, List.setIfInBounds_toArray, List.set_cons_zero, List.set_cons_succ]
              refine Last.take_ (i := 6) (N := some 93) (v := .int .i64 k.id) #[true, true, true, false, true, true, true, false, false, false] (by simp only [List.getElem?_toArray, List.getElem?_cons_zero, List.getElem?_cons_succ]; rfl) rfl (by kernel_rfl) (by exact fun _ _ _ h => h) (Or.inl ⟨by rfl, fun W hW => by first | rfl | (try dsimp only at hW); go_simp⟩) hS rfl ?_
              simp only [Act.put, List.setIfInBounds_toArray, List.set_cons_zero, List.set_cons_succ]
              refine Last.one_ (i := 3) (N := some 90) #[true, true, true, true, true, true, true, false, false, false] (by simp only [List.getElem?_toArray, List.getElem?_cons_zero, List.getElem?_cons_succ]; rfl) rfl (by kernel_rfl) (by decide) (fun K hK => ?_)
              refine Last.goes_ Try.func23 (by kernel_rfl) rfl #[.pointer (some ⟨g, 0, none⟩), .int .i64 k.id] (by rfl) rfl rfl (by simp [Act.eval]) ?_
              refine (Drop_calls Fwd.out HN0.out (by have := HG.out.good.evs; omega) (by have := HG.out.good.subs; omega) (fresh_ok HLX.out Ewd.out.size) k.id).mono ?_
              rintro e w3 ⟨rfl, hf, he⟩
              have Fw3 : Hid (Fd n (okP g x) w3 g (dropR D k.id).2) := hf
              have Xw3 : Hid (Rf n (okP g x) w3 x D) := Xwd.out.ext he (fun j hj _ h => hj.1 h) (fun h => HGX.out h.symm)
              have BQw3 := Lib.hid (he.obj BQwd.out (fun h => by have h' : q = g := h; omega))
              have Ew3 : Hid (Ext (fun j => j = g ∨ j = x) wo w3) := Ewd.out.trans he (fun _ _ h => .inl h)
              clear hf he
              rw [H2.out] at Fw3
              rw [H1.out]
              refine ⟨_, rfl, ?_⟩
              refine hK.out _ _ (doS BQw3.out) (fun hS => ?_)
              try simp only [Act.put, List.setIfInBounds_toArray, List.set_cons_zero, List.set_cons_succ]
              refine Last.one_ (i := 7) (N := some 94) #[true, true, true, true, true, true, true, true, false, false] (by simp only [List.getElem?_toArray, List.getElem?_cons_zero, List.getElem?_cons_succ]; rfl) rfl (by kernel_rfl) (by decide) (fun K hK => ?_)
              refine Last.goes_ Try.func24 (by kernel_rfl) rfl #[.pointer (some ⟨x, 0, none⟩), .int .i64 k.id] (by rfl) rfl rfl (by simp [Act.eval]) ?_
              refine (RDrop_calls Xw3.out HG.out.ord (by have := HG.out.good.evs; omega) (by have := HG.out.good.subs; omega) (fresh_ok HLX.out Ew3.out.size) k.id).mono ?_
              rintro e w4 ⟨rfl, hf, he⟩
              have Xw4 : Hid (Rf n (okP g x) w4 x (dropR D k.id).2) := hf
              have Fw4 : Hid (Fd n (okP g x) w4 g E) := Fw3.out.ext he (fun j hj h => hj.2 h) (fun h => HGX.out h)
              have BQw4 := Lib.hid (he.obj BQw3.out (fun h => by have h' : q = x := h; omega))
              have Ew4 : Hid (Ext (fun j => j = g ∨ j = x) wo w4) := Ew3.out.trans he (fun _ _ h => .inr h)
              clear hf he
              rw [H2.out] at Xw4
              rw [H1.out]
              refine ⟨_, rfl, ?_⟩
              refine hK.out _ _ (doS BQw4.out) (fun hS => ?_)
              try simp only [Act.put, List.setIfInBounds_toArray, List.set_cons_zero, List.set_cons_succ]
              refine Last.take_ (i := 8) (N := some 7) (v := .int .i64 ve) #[true, true, true, true, true, true, true, true, true, false] (by simp only [List.getElem?_toArray, List.getElem?_cons_zero, List.getElem?_cons_succ]; rfl) rfl (by kernel_rfl) (by exact fun _ _ _ h => h) (Or.inl ⟨by rfl, fun W hW => by first | rfl | (try dsimp only at hW); go_simp⟩) hS rfl ?_
              simp only [Act.put, List.setIfInBounds_toArray, List.set_cons_zero, List.set_cons_succ]
              refine Last.take_ (i := 9) (N := some 8) (v := .int .i64 ve) #[true, true, true, true, true, true, true, true, true, true] (by simp only [List.getElem?_toArray, List.getElem?_cons_zero, List.getElem?_cons_succ]; rfl) rfl (by kernel_rfl) (by exact fun _ _ _ h => h) (Or.inl ⟨by rfl, fun W hW => by first | rfl | (try dsimp only at hW); go_simp⟩) hS rfl ?_
              simp only [Act.put, List.setIfInBounds_toArray, List.set_cons_zero, List.set_cons_succ]
              refine Last.done_ (by kernel_rfl) ?_
              rw [← HDD.out] at Xw4 Fw4
              have HR : Hid (PlaysI n w wo g x D' w4) := ⟨Fw4.out, Xw4.out, ext_fine2 Ew4.out HWR.out HWX.out.1 HWX.out.2⟩
              clear HT HDD
              go_wp2_with fail
              go_meet
              exact ⟨_, rfl, rfl, rfl, HR.out⟩
            · by_cases c6 : opc k = 6
              · have HT : Hid (stepR n D k = ackR D k.id k.pos) := (if_neg c4).trans ((if_neg c5).trans (if_pos c6))
                obtain ⟨ve, h1⟩ : ∃ r, (ackR D k.id k.pos).1 = r := ⟨_, rfl⟩
                obtain ⟨E, h2⟩ : ∃ r, (ackR D k.id k.pos).2 = r := ⟨_, rfl⟩
                have H1 := Lib.hid h1
                have H2 := Lib.hid h2
                have HDD : Hid (D' = E) := by show _ = _; rw [← HD'.out, HT.out, h2]
                clear h1 h2
                obtain ⟨t0, t1, t2, t3, t4, t5, t6, t7, t8, t9⟩ := doS BQw2.out
                go_wp2_with fail
                have EDr : Hid (Ext Non w2 w2.drew) := (Ext.refl _ _).drew
                have Fwd : Hid (Fd n (okP g x) w2.drew g D) := Fw2.out.ext0 EDr.out
                have Xwd : Hid (Rf n (okP g x) w2.drew x D) := Xw2.out.ext0 EDr.out
                have BQwd := Lib.hid (EDr.out.obj BQw2.out (fun e => e))
                have Ewd : Hid (Ext (fun j => j = g ∨ j = x) wo w2.drew) := Ew2.out.trans0 EDr.out
                refine Last.start_ (S := fun W => W.cell? ⟨q, 0, none⟩ = some (.int .i64 k.op) ∧ W.cell? ⟨q, 1, none⟩ = some (.int .i64 k.step) ∧ W.cell? ⟨q, 2, none⟩ = some (.int .i64 k.id) ∧ W.cell? ⟨q, 3, none⟩ = some (.int .i64 k.pos) ∧ W.cell? ⟨q, 4, none⟩ = some (.int .i64 k.most) ∧ W.cell? ⟨q, 5, none⟩ = some (.slice B bl bd) ∧ W.cell? ⟨q, 6, none⟩ = some (.int .i64 k.q.op) ∧ W.cell? ⟨q, 7, none⟩ = some (.string k.q.key) ∧ W.cell? ⟨q, 8, none⟩ = some (.string k.q.val) ∧ W.cell? ⟨q, 9, none⟩ = some (.slice C ck cf)) (ds := []) #[false, false, false, false, false, false, false, false, false, false, false, false, false, false] (by kernel_rfl) (by rfl) (by rfl) (doS (EDr.out.obj BQw2.out (fun e => e))) (fun hS => ?_)
                refine Last.take_ (i := 0) (N := some 97) (v := .pointer (some ⟨g, 0, none⟩)) #[true, false, false, false, false, false, false, false, false, false, false, false, false, false] (by simp only [List.getElem?_toArray, List.getElem?_cons_zero]; rfl) rfl (by kernel_rfl) (by exact fun _ _ _ h => h) (Or.inl ⟨by rfl, fun W hW => by first | rfl | (try dsimp only at hW); go_simp⟩) hS rfl ?_
                simp only [Act.put, List.setIfInBounds_toArray, List.set_cons_zero, List.set_cons_succ]
                refine Last.take_ (i := 1) (N := some 98) (v := .pointer (some ⟨q, 2, none⟩)) #[true, true, false, false, false, false, false, false, false, false, false, false, false, false] (by simp only [List.getElem?_toArray, List.getElem?_cons_zero, List.getElem?_cons_succ]; rfl) rfl (by kernel_rfl) (by exact fun _ _ _ h => h) (Or.inl ⟨by rfl, fun W hW => by first | rfl | (try dsimp only at hW); go_simp⟩) hS rfl ?_
                simp only [Act.put, List.setIfInBounds_toArray, List.set_cons_zero, List.set_cons_succ]
                refine Last.take_ (i := 2) (N := some 99) (v := .int .i64 k.id) #[true, true, true, false, false, false, false, false, false, false, false, false, false, false] (by simp only [List.getElem?_toArray, List.getElem?_cons_zero, List.getElem?_cons_succ]; rfl) rfl (by kernel_rfl) (by exact fun _ _ _ h => h) (Or.inl ⟨by rfl, fun W hW => by first | rfl | (try dsimp only at hW); go_simp⟩) hS rfl ?_
                simp only [Act.put, List.setIfInBounds_toArray, List.set_cons_zero, List.set_cons_succ]
                refine Last.take_ (i := 3) (N := some 100) (v := .pointer (some ⟨q, 3, none⟩)) #[true, true, true, true, false, false, false, false, false, false, false, false, false, false] (by simp only [List.getElem?_toArray, List.getElem?_cons_zero, List.getElem?_cons_succ]; rfl) rfl (by kernel_rfl) (by exact fun _ _ _ h => h) (Or.inl ⟨by rfl, fun W hW => by first | rfl | (try dsimp only at hW); go_simp⟩) hS rfl ?_
                simp only [Act.put, List.setIfInBounds_toArray, List.set_cons_zero, List.set_cons_succ]
                refine Last.take_ (i := 4) (N := some 101) (v := .int .i64 k.pos) #[true, true, true, true, true, false, false, false, false, false, false, false, false, false] (by simp only [List.getElem?_toArray, List.getElem?_cons_zero, List.getElem?_cons_succ]; rfl) rfl (by kernel_rfl) (by exact fun _ _ _ h => h) (Or.inl ⟨by rfl, fun W hW => by first | rfl | (try dsimp only at hW); go_simp⟩) hS rfl ?_
                simp only [Act.put, List.setIfInBounds_toArray, List.set_cons_zero, List.set_cons_succ]
                refine Last.take_ (i := 6) (N := some 103) (v := .pointer (some ⟨x, 0, none⟩)) #[true, true, true, true, true, false, true, false, false, false, false, false, false, false] (by simp only [List.getElem?_toArray, List.getElem?_cons_zero, List.getElem?_cons_succ]; rfl) rfl (by kernel_rfl) (by exact fun _ _ _ h => h) (Or.inl ⟨by rfl, fun W hW => by first | rfl | (try dsimp only at hW); go_simp⟩) hS rfl ?_
                simp only [Act.put, List.setIfInBounds_toArray, List.set_cons_zero, List.set_cons_succ]
                refine Last.take_ (i := 7) (N := some 104) (v := .pointer (some ⟨q, 2, none⟩)) #[true, true, true, true, true, false, true, true, false, false, false, false, false, false] (by simp only [List.getElem?_toArray, List.getElem?_cons_zero, List.getElem?_cons_succ]; rfl) rfl (by kernel_rfl) (by exact fun _ _ _ h => h) (Or.inl ⟨by rfl, fun W hW => by first | rfl | (try dsimp only at hW); go_simp⟩) hS rfl ?_
                simp only [Act.put, List.setIfInBounds_toArray, List.set_cons_zero, List.set_cons_succ]
                refine Last.take_ (i := 8) (N := some 105) (v := .int .i64 k.id) #[true, true, true, true, true, false, true, true, true, false, false, false, false, false] (by simp only [List.getElem?_toArray, List.getElem?_cons_zero, List.getElem?_cons_succ]; rfl) rfl (by kernel_rfl) (by exact fun _ _ _ h => h) (Or.inl ⟨by rfl, fun W hW => by first | rfl | (try dsimp only at hW); go_simp⟩) hS rfl ?_
                simp only [Act.put, List.setIfInBounds_toArray, List.set_cons_zero, List.set_cons_succ]
                refine Last.take_ (i := 9) (N := some 106) (v := .pointer (some ⟨q, 3, none⟩)) #[true, true, true, true, true, false, true, true, true, true, false, false, false, false] (by simp only [List.getElem?_toArray, List.getElem?_cons_zero, List.getElem?_cons_succ]; rfl) rfl (by kernel_rfl) (by exact fun _ _ _ h => h) (Or.inl ⟨by rfl, fun W hW => by first | rfl | (try dsimp only at hW); go_simp⟩) hS rfl ?_
                simp only [Act.put, List.setIfInBounds_toArray, List.set_cons_zero, List.set_cons_succ]
                refine Last.take_ (i := 10) (N := some 107) (v := .int .i64 k.pos) #[true, true, true, true, true, false, true, true, true, true, true, false, false, false] (by simp only [List.getElem?_toArray, List.getElem?_cons_zero, List.getElem?_cons_succ]; rfl) rfl (by kernel_rfl) (by exact fun _ _ _ h => h) (Or.inl ⟨by rfl, fun W hW => by first | rfl | (try dsimp only at hW); go_simp⟩) hS rfl ?_
                simp only [Act.put, List.setIfInBounds_toArray, List.set_cons_zero, List.set_cons_succ]
                refine Last.one_ (i := 5) (N := some 102) #[true, true, true, true, true, true, true, true, true, true, true, false, false, false] (by simp only [List.getElem?_toArray, List.getElem?_cons_zero, List.getElem?_cons_succ]; rfl) rfl (by kernel_rfl) (by decide) (fun K hK => ?_)
                refine Last.goes_ Try.func25 (by kernel_rfl) rfl #[.pointer (some ⟨g, 0, none⟩), .int .i64 k.id, .int .i64 k.pos] (by rfl) rfl rfl (by simp [Act.eval]) ?_
                refine (Ack_calls Fwd.out HN0.out (by have := HG.out.good.evs; omega) (by have := HG.out.good.subs; omega) (fresh_ok HLX.out Ewd.out.size) k.id k.pos).mono ?_
                rintro e w3 ⟨rfl, hf, he⟩
                have Fw3 : Hid (Fd n (okP g x) w3 g (ackR D k.id k.pos).2) := hf
                have Xw3 : Hid (Rf n (okP g x) w3 x D) := Xwd.out.ext he (fun j hj _ h => hj.1 h) (fun h => HGX.out h.symm)
                have BQw3 := Lib.hid (he.obj BQwd.out (fun h => by have h' : q = g := h; omega))
                have Ew3 : Hid (Ext (fun j => j = g ∨ j = x) wo w3) := Ewd.out.trans he (fun _ _ h => .inl h)
                clear hf he
                rw [H2.out] at Fw3
                rw [H1.out]
                refine ⟨_, rfl, ?_⟩
                refine hK.out _ _ (doS BQw3.out) (fun hS => ?_)
                try simp only [Act.put, List.setIfInBounds_toArray, List.set_cons_zero, List.set_cons_succ]
                refine Last.one_ (i := 11) (N := some 108) #[true, true, true, true, true, true, true, true, true, true, true, true, false, false] (by simp only [List.getElem?_toArray, List.getElem?_cons_zero, List.getElem?_cons_succ]; rfl) rfl (by kernel_rfl) (by decide) (fun K hK => ?_)
                refine Last.goes_ Try.func26 (by kernel_rfl) rfl #[.pointer (some ⟨x, 0, none⟩), .int .i64 k.id, .int .i64 k.pos] (by rfl) rfl rfl (by simp [Act.eval]) ?_
                refine (RAck_calls Xw3.out (by have := HG.out.good.evs; omega) (by have := HG.out.good.subs; omega) (fresh_ok HLX.out Ew3.out.size) k.id k.pos).mono ?_
                rintro e w4 ⟨rfl, hf, he⟩
                have Xw4 : Hid (Rf n (okP g x) w4 x (ackR D k.id k.pos).2) := hf
                have Fw4 : Hid (Fd n (okP g x) w4 g E) := Fw3.out.ext he (fun j hj h => hj.2 h) (fun h => HGX.out h)
                have BQw4 := Lib.hid (he.obj BQw3.out (fun h => by have h' : q = x := h; omega))
                have Ew4 : Hid (Ext (fun j => j = g ∨ j = x) wo w4) := Ew3.out.trans he (fun _ _ h => .inr h)
                clear hf he
                rw [H2.out] at Xw4
                rw [H1.out]
                refine ⟨_, rfl, ?_⟩
                refine hK.out _ _ (doS BQw4.out) (fun hS => ?_)
                try simp only [Act.put, List.setIfInBounds_toArray, List.set_cons_zero, List.set_cons_succ]
                refine Last.take_ (i := 12) (N := some 7) (v := .int .i64 ve) #[true, true, true, true, true, true, true, true, true, true, true, true, true, false] (by simp only [List.getElem?_toArray, List.getElem?_cons_zero, List.getElem?_cons_succ]; rfl) rfl (by kernel_rfl) (by exact fun _ _ _ h => h) (Or.inl ⟨by rfl, fun W hW => by first | rfl | (try dsimp only at hW); go_simp⟩) hS rfl ?_
                simp only [Act.put, List.setIfInBounds_toArray, List.set_cons_zero, List.set_cons_succ]
                refine Last.take_ (i := 13) (N := some 8) (v := .int .i64 ve) #[true, true, true, true, true, true, true, true, true, true, true, true, true, true] (by simp only [List.getElem?_toArray, List.getElem?_cons_zero, List.getElem?_cons_succ]; rfl) rfl (by kernel_rfl) (by exact fun _ _ _ h => h) (Or.inl ⟨by rfl, fun W hW => by first | rfl | (try dsimp only at hW); go_simp⟩) hS rfl ?_
                simp only [Act.put, List.setIfInBounds_toArray, List.set_cons_zero, List.set_cons_succ]
                refine Last.done_ (by kernel_rfl) ?_
                rw [← HDD.out] at Xw4 Fw4
                have HR : Hid (PlaysI n w wo g x D' w4) := ⟨Fw4.out, Xw4.out, ext_fine2 Ew4.out HWR.out HWX.out.1 HWX.out.2⟩
                clear HT HDD
                go_wp2_with fail
                go_meet
                exact ⟨_, rfl, rfl, rfl, HR.out⟩
              · by_cases c7 : opc k = 7
                · have HT : Hid (stepR n D k = ((readR n D k.id k.pos k.most).2.2, D)) := (if_neg c4).trans ((if_neg c5).trans ((if_neg c6).trans (if_pos c7)))
                  obtain ⟨ro, h1⟩ : ∃ r, (readR n D k.id k.pos k.most).1 = r := ⟨_, rfl⟩
                  obtain ⟨rt, h2⟩ : ∃ r, (readR n D k.id k.pos k.most).2.1 = r := ⟨_, rfl⟩
                  obtain ⟨re, h3⟩ : ∃ r, (readR n D k.id k.pos k.most).2.2 = r := ⟨_, rfl⟩
                  have H1 := Lib.hid h1
                  have H2 := Lib.hid h2
                  have H3 := Lib.hid h3
                  clear h1 h2 h3
                  obtain ⟨t0, t1, t2, t3, t4, t5, t6, t7, t8, t9⟩ := doS BQw2.out
                  go_wp2_with fail
                  refine (Read_calls Fw2.out HN0.out HG.out.good.now (by have := HG.out.good.evs; omega) (fun s hs => (HG.out.good.q s hs).1) k.id k.pos k.most).mono ?_
                  rintro e w3 ⟨B5, m5, d5, rfl, ho, he⟩
                  rw [H1.out] at ho
                  rw [H2.out, H3.out]
                  have O5 : Hid (Own evK 43 w3 w2.heap.size (fun j => w2.heap.size ≤ j) (.slice B5 m5 d5) ro) := ho
                  have X3 : Hid (Ext Non w2 w3) := he
                  have BQw3 := Lib.hid (he.obj BQw2.out (fun e => e))
                  clear ho he
                  clear t0 t1 t2 t3 t4 t5 t6 t7 t8 t9
                  obtain ⟨t0, t1, t2, t3, t4, t5, t6, t7, t8, t9⟩ := doS BQw3.out
                  go_wp2_with fail
                  refine (RRead_calls (Xw2.out.ext0 X3.out) HG.out.good HG.out.ev (fun e he => Nat.le_trans (HG.out.key e he) (by decide)) k.id k.pos k.most).mono ?_
                  rintro e w4 ⟨B6, m6, d6, rfl, ho, he⟩
                  rw [H1.out] at ho
                  rw [H2.out, H3.out]
                  have O6 : Hid (Own evK 43 w4 w3.heap.size (fun j => w3.heap.size ≤ j) (.slice B6 m6 d6) ro) := ho
                  have X4 : Hid (Ext Non w2 w4) := X3.out.trans0 he
                  have O54 : Hid (Own evK 43 w4 w2.heap.size (fun j => w2.heap.size ≤ j) (.slice B5 m5 d5) ro) := O5.out.ext0 he
                  clear ho he
                  clear t0 t1 t2 t3 t4 t5 t6 t7 t8 t9
                  go_wp2_with fail
                  refine (SameE_calls O54.out.rd O6.out.rd).mono ?_
                  rintro e w5 ⟨rfl, he⟩
                  have X5 : Hid (Ext Non w2 w5) := X4.out.trans0 he
                  have O55 : Hid (Own evK 43 w5 w2.heap.size (fun j => w2.heap.size ≤ j) (.slice B5 m5 d5) ro) := O54.out.ext0 he
                  have hm5 : (m5 : Int) ≤ 9223372036854775807 := by
                    obtain ⟨_, _, hs, _, h⟩ := O55.out.slice
                    simp only [Value.slice.injEq] at hs
                    omega
                  have HD5 : Hid (m5 ≤ d5) := by
                    obtain ⟨_, _, hs, h, _⟩ := O55.out.slice
                    simp only [Value.slice.injEq] at hs
                    show _ ≤ _
                    omega
                  have HBS : Hid (0 < m5 → ∃ b, B5 = some ⟨b, 0, none⟩) := fun h0 => by
                    obtain ⟨b, _, h1, _⟩ := own_key O55.out h0
                    exact ⟨b, h1⟩
                  have HKB : Hid (∀ b, B5 = some ⟨b, 0, none⟩ → ∃ cur, w5.heap[b]? = some (.cells cur 43 (0, 0)) ∧ cur.size = d5 * 6) := own_blk O55.out
                  have HOB : Hid (∀ j, some j = (Value.slice B5 m5 d5).ownBlock → w2.heap.size ≤ j) := fun j h => (O55.out.base_le j h.symm).1
                  clear he
                  go_wp2_with fail
                  go_loopw [147] (fun i wr => ∃ j2 : Nat, i = .int .i64 (j2 : Int) ∧ j2 ≤ m5 ∧ Hid (∀ b, B5 = some ⟨b, 0, none⟩ → ∃ cur, wr.heap[b]? = some (.cells cur 43 (0, 0)) ∧ cur.size = d5 * 6) ∧ Hid (Ext (fun j => some j = (Value.slice B5 m5 d5).ownBlock) w5 wr)) (fun i _ => m5 - (intOf i).toNat)
                  case atStart => exact ⟨0, rfl, by omega, HKB.out, Ext.refl _ _⟩
                  case round =>
                    obtain ⟨j2, rfl, hj2, HC2, HE2⟩ := hrel
                    by_cases hlt2 : j2 < m5
                    · obtain ⟨b, rfl⟩ := HBS.out (by omega)
                      obtain ⟨cur, hcur, hcs⟩ := HC2.out b rfl
                      have hbl := blk_lt hcur
                      have hsz : j2 * 6 + 1 < cur.size := by have := HD5.out; omega
                      obtain ⟨u1, hu1⟩ : ∃ u, cur[j2 * 6 + 1]? = some u := ⟨_, Array.getElem?_eq_getElem hsz⟩
                      have k1 := (blk_cell hcur (j2 * 6 + 1)).trans hu1
                      have f1 := blk_frozen hcur (j2 * 6 + 1)
                      have HNX : Hid (∀ b', (some ⟨b, 0, none⟩ : Option Addr) = some ⟨b', 0, none⟩ → ∃ cur, (wr.setCell ⟨b, j2 * 6 + 1, none⟩ (.string ⟨#[63]⟩)).heap[b']? = some (.cells cur 43 (0, 0)) ∧ cur.size = d5 * 6) := fun b' hb' => by
                        cases hb'
                        exact ⟨_, blk_set hcur _ _, by simpa using hcs⟩
                      have HEX : Hid (Ext (fun j => some j = (Value.slice (some ⟨b, 0, none⟩) m5 d5).ownBlock) w5 (wr.setCell ⟨b, j2 * 6 + 1, none⟩ (.string ⟨#[63]⟩))) := HE2.out.setCell (p := ⟨b, j2 * 6 + 1, none⟩) (fun _ => rfl) _
                      clear hcur hcs hu1 hsz
                      go_wp2_with fail
                      go_roundw
                      case rel => exact ⟨j2 + 1, by go_num, by omega, HNX.out, HEX.out⟩
                      case measure => simp [intOf]; omega
                    · obtain rfl : j2 = m5 := by omega
                      have X7 : Hid (Ext Non w2 wr) := X5.out.trans HE2.out (fun i hi h => by have h' : some i = (Value.slice B5 j2 d5).ownBlock := h; have := HOB.out _ h'; omega)
                      have HDD : Hid (D' = D) := by show _ = _; rw [← HD'.out, HT.out]
                      have FX : Hid (Fd n (okP g x) wr g D') := by rw [HDD.out]; exact Fw2.out.ext0 X7.out
                      have XX : Hid (Rf n (okP g x) wr x D') := by rw [HDD.out]; exact Xw2.out.ext0 X7.out
                      have EXX : Hid (Ext Non w wr) := ext_fine2 (Ew2.out.trans0 X7.out) HWR.out HWX.out.1 HWX.out.2
                      have HR : Hid (PlaysI n w wo g x D' wr) := ⟨FX.out, XX.out, EXX.out⟩
                      clear HT HDD
                      go_wp2_with fail
                      go_meet
                      exact ⟨_, rfl, rfl, rfl, HR.out⟩
                · have HT : Hid (stepR n D k = noteR D (nextP D k) k.evs) := (if_neg c4).trans ((if_neg c5).trans ((if_neg c6).trans (if_neg c7)))
                  have b4 : (opc k == 4) = false := beq_eq_false_iff_ne.2 c4
                  have b5 : (opc k == 5) = false := beq_eq_false_iff_ne.2 c5
                  have b6 : (opc k == 6) = false := beq_eq_false_iff_ne.2 c6
                  have b7 : (opc k == 7) = false := beq_eq_false_iff_ne.2 c7
                  obtain ⟨ve, h1⟩ : ∃ r, (noteR D (nextP D k) k.evs).1 = r := ⟨_, rfl⟩
                  obtain ⟨E, h2⟩ : ∃ r, (noteR D (nextP D k) k.evs).2 = r := ⟨_, rfl⟩
                  have H1 := Lib.hid h1
                  have H2 := Lib.hid h2
                  have HDD : Hid (D' = E) := by show _ = _; rw [← HD'.out, HT.out, h2]
                  clear h1 h2
                  obtain ⟨t0, t1, t2, t3, t4, t5, t6, t7, t8, t9⟩ := doS BQw2.out
                  go_wp2_with fail
                  refine (next_calls (k := k) Fw2.out HG.out.good ⟨_, _, rfl, HU.out.ext0 E0.out, HQ.out.ext0 E0.out⟩).mono ?_
                  rintro e w3 ⟨rfl, he⟩
                  have X3 : Hid (Ext Non w2 w3) := he
                  have Ew3 : Hid (Ext (fun j => j = g ∨ j = x) wo w3) := Ew2.out.trans0 he
                  have BQw3 := Lib.hid (he.obj BQw2.out (fun e => e))
                  clear he
                  clear t0 t1 t2 t3 t4 t5 t6 t7 t8 t9
                  obtain ⟨t0, t1, t2, t3, t4, t5, t6, t7, t8, t9⟩ := doS BQw3.out
                  go_wp2_with fail
                  refine (CloneE_own (ok := fun j => j < w.heap.size ∨ w3.heap.size ≤ j) (l := k.evs) (((HU.out.ext0 E0.out).ext0 X3.out).mono (fun j hj => .inl hj)) (by have := HKE.out; omega) (fun j hj => .inr hj)).mono ?_
                  rintro e w4 ⟨B5, m5, d5, rfl, ho, he⟩
                  have OW : Hid (Own evK 43 w4 w3.heap.size (fun j => j < w.heap.size ∨ w3.heap.size ≤ j) (.slice B5 m5 d5) k.evs) := ho
                  have X4 : Hid (Ext Non w2 w4) := X3.out.trans0 he
                  have BQw4 := Lib.hid (he.obj BQw3.out (fun e => e))
                  have HOB : Hid (∀ j, some j = (Value.slice B5 m5 d5).ownBlock → w3.heap.size ≤ j ∧ j < w4.heap.size) := fun j h => ho.base_le j h.symm
                  have hs3 := Ew3.out.size
                  have OA : Hid (Rd evK w4 (fun j => j < w.heap.size ∨ w3.heap.size ≤ j) (.slice B5 m5 d5) k.evs) := ho.rd
                  have HNG : Hid (¬ (g < w.heap.size ∨ w3.heap.size ≤ g)) := by show ¬ _; have := HWX.out; omega
                  have Fw4 : Hid (Fd n (fun j => okP g x j ∧ some j ≠ (Value.slice B5 m5 d5).ownBlock) w4 g D) := (Fw2.out.re (ok' := fun j => okP g x j ∧ j < w2.heap.size) (fun j hj hl => ⟨hj, hl⟩) (fun h => h.1.1 rfl)).ext0 X4.out |>.re (fun j hj _ => ⟨hj.1, fun h => by have := (HOB.out _ h).1; have := hj.2; have := X3.out.size; omega⟩) (fun h => h.1.1 rfl)
                  have Xw4 : Hid (Rf n (fun j => okP g x j ∧ some j ≠ (Value.slice B5 m5 d5).ownBlock) w4 x D) := (Xw2.out.re (ok' := fun j => okP g x j ∧ j < w2.heap.size) (fun j hj hl => ⟨hj, hl⟩) (fun h => h.1.2 rfl)).ext0 X4.out |>.re (fun j hj _ => ⟨hj.1, fun h => by have := (HOB.out _ h).1; have := hj.2; have := X3.out.size; omega⟩) (fun h => h.1.2 rfl)
                  have Ew4 : Hid (Ext (fun j => j = g ∨ j = x) wo w4) := Ew2.out.trans0 X4.out
                  clear ho he
                  clear t0 t1 t2 t3 t4 t5 t6 t7 t8 t9
                  obtain ⟨t0, t1, t2, t3, t4, t5, t6, t7, t8, t9⟩ := doS BQw4.out
                  go_wp2_with fail
                  have EDr : Hid (Ext Non w4 w4.drew) := (Ext.refl _ _).drew
                  have Fwd : Hid (Fd n (fun j => okP g x j ∧ some j ≠ (Value.slice B5 m5 d5).ownBlock) w4.drew g D) := Fw4.out.ext0 EDr.out
                  have Xwd : Hid (Rf n (fun j => okP g x j ∧ some j ≠ (Value.slice B5 m5 d5).ownBlock) w4.drew x D) := Xw4.out.ext0 EDr.out
                  have BQwd := Lib.hid (EDr.out.obj BQw4.out (fun e => e))
                  have Ewd : Hid (Ext (fun j => j = g ∨ j = x) wo w4.drew) := Ew4.out.trans0 EDr.out
                  have HFR : Hid (Fresh (fun j => okP g x j ∧ some j ≠ (Value.slice B5 m5 d5).ownBlock) w4.drew) := fun j hj => ⟨fresh_ok HLX.out Ewd.out.size j hj, fun h => by have := (HOB.out _ h).2; have h2 : w4.heap.size ≤ j := hj; omega⟩
                  refine Last.start_ (S := fun W => W.cell? ⟨q, 0, none⟩ = some (.int .i64 k.op) ∧ W.cell? ⟨q, 1, none⟩ = some (.int .i64 k.step) ∧ W.cell? ⟨q, 2, none⟩ = some (.int .i64 k.id) ∧ W.cell? ⟨q, 3, none⟩ = some (.int .i64 k.pos) ∧ W.cell? ⟨q, 4, none⟩ = some (.int .i64 k.most) ∧ W.cell? ⟨q, 5, none⟩ = some (.slice B bl bd) ∧ W.cell? ⟨q, 6, none⟩ = some (.int .i64 k.q.op) ∧ W.cell? ⟨q, 7, none⟩ = some (.string k.q.key) ∧ W.cell? ⟨q, 8, none⟩ = some (.string k.q.val) ∧ W.cell? ⟨q, 9, none⟩ = some (.slice C ck cf)) (ds := []) #[false, false, false, false, false, false, false, false, false, false, false] (by kernel_rfl) (by rfl) (by rfl) (doS (EDr.out.obj BQw4.out (fun e => e))) (fun hS => ?_)
                  refine Last.take_ (i := 0) (N := some 45) (v := .pointer (some ⟨g, 0, none⟩)) #[true, false, false, false, false, false, false, false, false, false, false] (by simp only [List.getElem?_toArray, List.getElem?_cons_zero]; rfl) rfl (by kernel_rfl) (by exact fun _ _ _ h => h) (Or.inl ⟨by rfl, fun W hW => by first | rfl | (try dsimp only at hW); go_simp⟩) hS rfl ?_
                  simp only [Act.put, List.setIfInBounds_toArray, List.set_cons_zero, List.set_cons_succ]
                  refine Last.take_ (i := 1) (N := some 46) (v := .int .i64 (nextP D k)) #[true, true, false, false, false, false, false, false, false, false, false] (by simp only [List.getElem?_toArray, List.getElem?_cons_zero, List.getElem?_cons_succ]; rfl) rfl (by kernel_rfl) (by exact fun _ _ _ h => h) (Or.inl ⟨by rfl, fun W hW => by first | rfl | (try dsimp only at hW); go_simp⟩) hS rfl ?_
                  simp only [Act.put, List.setIfInBounds_toArray, List.set_cons_zero, List.set_cons_succ]
                  refine Last.take_ (i := 2) (N := some 47) (v := .slice B5 m5 d5) #[true, true, true, false, false, false, false, false, false, false, false] (by simp only [List.getElem?_toArray, List.getElem?_cons_zero, List.getElem?_cons_succ]; rfl) rfl (by kernel_rfl) (by exact fun _ _ _ h => h) (Or.inl ⟨by rfl, fun W hW => by first | rfl | (try dsimp only at hW); go_simp⟩) hS rfl ?_
                  simp only [Act.put, List.setIfInBounds_toArray, List.set_cons_zero, List.set_cons_succ]
                  refine Last.take_ (i := 4) (N := some 49) (v := .pointer (some ⟨x, 0, none⟩)) #[true, true, true, false, true, false, false, false, false, false, false] (by simp only [List.getElem?_toArray, List.getElem?_cons_zero, List.getElem?_cons_succ]; rfl) rfl (by kernel_rfl) (by exact fun _ _ _ h => h) (Or.inl ⟨by rfl, fun W hW => by first | rfl | (try dsimp only at hW); go_simp⟩) hS rfl ?_
                  simp only [Act.put, List.setIfInBounds_toArray, List.set_cons_zero, List.set_cons_succ]
                  refine Last.take_ (i := 5) (N := some 50) (v := .int .i64 (nextP D k)) #[true, true, true, false, true, true, false, false, false, false, false] (by simp only [List.getElem?_toArray, List.getElem?_cons_zero, List.getElem?_cons_succ]; rfl) rfl (by kernel_rfl) (by exact fun _ _ _ h => h) (Or.inl ⟨by rfl, fun W hW => by first | rfl | (try dsimp only at hW); go_simp⟩) hS rfl ?_
                  simp only [Act.put, List.setIfInBounds_toArray, List.set_cons_zero, List.set_cons_succ]
                  refine Last.take_ (i := 6) (N := some 51) (v := .pointer (some ⟨q, 5, none⟩)) #[true, true, true, false, true, true, true, false, false, false, false] (by simp only [List.getElem?_toArray, List.getElem?_cons_zero, List.getElem?_cons_succ]; rfl) rfl (by kernel_rfl) (by exact fun _ _ _ h => h) (Or.inl ⟨by rfl, fun W hW => by first | rfl | (try dsimp only at hW); go_simp⟩) hS rfl ?_
                  simp only [Act.put, List.setIfInBounds_toArray, List.set_cons_zero, List.set_cons_succ]
                  refine Last.take_ (i := 7) (N := some 52) (v := .slice B bl bd) #[true, true, true, false, true, true, true, true, false, false, false] (by simp only [List.getElem?_toArray, List.getElem?_cons_zero, List.getElem?_cons_succ]; rfl) rfl (by kernel_rfl) (by exact fun _ _ _ h => h) (Or.inl ⟨by rfl, fun W hW => by first | rfl | (try dsimp only at hW); go_simp⟩) hS rfl ?_
                  simp only [Act.put, List.setIfInBounds_toArray, List.set_cons_zero, List.set_cons_succ]
                  refine Last.one_ (i := 3) (N := some 48) #[true, true, true, true, true, true, true, true, false, false, false] (by simp only [List.getElem?_toArray, List.getElem?_cons_zero, List.getElem?_cons_succ]; rfl) rfl (by kernel_rfl) (by decide) (fun K hK => ?_)
                  refine Last.goes_ Try.func16 (by kernel_rfl) rfl #[.pointer (some ⟨g, 0, none⟩), .int .i64 (nextP D k), .slice B5 m5 d5] (by rfl) rfl rfl (by simp [Act.eval]) ?_
                  refine (Note_calls (ok := fun j => okP g x j ∧ some j ≠ (Value.slice B5 m5 d5).ownBlock) Fwd.out HN0.out (by have := HG.out.good.evs; omega) (by have := HG.out.good.subs; omega) HFR.out (OA.out.ext0 EDr.out) HNG.out (by have := HKE.out; omega) (nextP D k)).mono ?_
                  rintro e w5 ⟨rfl, hf, he⟩
                  have Fw5 : Hid (Fd n (fun j => okP g x j ∧ some j ≠ (Value.slice B5 m5 d5).ownBlock) w5 g (noteR D (nextP D k) k.evs).2) := hf
                  have Xw5 : Hid (Rf n (fun j => okP g x j ∧ some j ≠ (Value.slice B5 m5 d5).ownBlock) w5 x D) := Xwd.out.ext he (fun j hj _ h => hj.1.1 h) (fun h => HGX.out h.symm)
                  have BQw5 := Lib.hid (he.obj BQwd.out (fun h => by have h' : q = g := h; omega))
                  have Ew5 : Hid (Ext (fun j => j = g ∨ j = x) wo w5) := Ewd.out.trans he (fun _ _ h => .inl h)
                  have OA5 : Hid (Own evK 43 w5 w3.heap.size (fun j => j < w.heap.size ∨ w3.heap.size ≤ j) (.slice B5 m5 d5) k.evs) := (OW.out.ext0 EDr.out).ext he (fun j hj _ h => by have h' : j = g := h; have h2 : j < w.heap.size ∨ w3.heap.size ≤ j := hj; have := Ew3.out.size; have := HWX.out; omega)
                  have HU5 : Hid (Rd evK w5 (fun j => okP g x j ∧ j < w.heap.size) (.slice B bl bd) k.evs) := HU2.out Ew5.out
                  have HFR5 : Hid (Fresh (fun j => okP g x j ∧ some j ≠ (Value.slice B5 m5 d5).ownBlock) w5) := HFR.out.ext he
                  clear hf he
                  rw [H2.out] at Fw5
                  rw [H1.out]
                  refine ⟨_, rfl, ?_⟩
                  refine hK.out _ _ (doS BQw5.out) (fun hS => ?_)
                  try simp only [Act.put, List.setIfInBounds_toArray, List.set_cons_zero, List.set_cons_succ]
                  refine Last.one_ (i := 8) (N := some 53) #[true, true, true, true, true, true, true, true, true, false, false] (by simp only [List.getElem?_toArray, List.getElem?_cons_zero, List.getElem?_cons_succ]; rfl) rfl (by kernel_rfl) (by decide) (fun K hK => ?_)
                  refine Last.goes_ Try.func30 (by kernel_rfl) rfl #[.pointer (some ⟨x, 0, none⟩), .int .i64 (nextP D k), .slice B bl bd] (by rfl) rfl rfl (by simp [Act.eval]) ?_
                  refine (RNote_calls (ok := fun j => okP g x j ∧ some j ≠ (Value.slice B5 m5 d5).ownBlock) Xw5.out (by have := HG.out.good.evs; omega) (by have := HG.out.good.subs; omega) HFR5.out HU5.out (fun h => h.1.2 rfl) (by have := HKE.out; omega) (nextP D k)).mono ?_
                  rintro e w6 ⟨rfl, hf, he⟩
                  have Xw6 : Hid (Rf n (fun j => okP g x j ∧ some j ≠ (Value.slice B5 m5 d5).ownBlock) w6 x (noteR D (nextP D k) k.evs).2) := hf
                  have Fw6 : Hid (Fd n (fun j => okP g x j ∧ some j ≠ (Value.slice B5 m5 d5).ownBlock) w6 g E) := Fw5.out.ext he (fun j hj h => hj.1.2 h) (fun h => HGX.out h)
                  have BQw6 := Lib.hid (he.obj BQw5.out (fun h => by have h' : q = x := h; omega))
                  have Ew6 : Hid (Ext (fun j => j = g ∨ j = x) wo w6) := Ew5.out.trans he (fun _ _ h => .inr h)
                  have OA6 : Hid (Own evK 43 w6 w3.heap.size (fun j => j < w.heap.size ∨ w3.heap.size ≤ j) (.slice B5 m5 d5) k.evs) := OA5.out.ext he (fun j hj _ h => by have h' : j = x := h; have h2 : j < w.heap.size ∨ w3.heap.size ≤ j := hj; have := Ew3.out.size; have := HWX.out; omega)
                  clear hf he
                  rw [H2.out] at Xw6
                  rw [H1.out]
                  refine ⟨_, rfl, ?_⟩
                  refine hK.out _ _ (doS BQw6.out) (fun hS => ?_)
                  try simp only [Act.put, List.setIfInBounds_toArray, List.set_cons_zero, List.set_cons_succ]
                  refine Last.take_ (i := 9) (N := some 7) (v := .int .i64 ve) #[true, true, true, true, true, true, true, true, true, true, false] (by simp only [List.getElem?_toArray, List.getElem?_cons_zero, List.getElem?_cons_succ]; rfl) rfl (by kernel_rfl) (by exact fun _ _ _ h => h) (Or.inl ⟨by rfl, fun W hW => by first | rfl | (try dsimp only at hW); go_simp⟩) hS rfl ?_
                  simp only [Act.put, List.setIfInBounds_toArray, List.set_cons_zero, List.set_cons_succ]
                  refine Last.take_ (i := 10) (N := some 8) (v := .int .i64 ve) #[true, true, true, true, true, true, true, true, true, true, true] (by simp only [List.getElem?_toArray, List.getElem?_cons_zero, List.getElem?_cons_succ]; rfl) rfl (by kernel_rfl) (by exact fun _ _ _ h => h) (Or.inl ⟨by rfl, fun W hW => by first | rfl | (try dsimp only at hW); go_simp⟩) hS rfl ?_
                  simp only [Act.put, List.setIfInBounds_toArray, List.set_cons_zero, List.set_cons_succ]
                  refine Last.done_ (by kernel_rfl) ?_
                  have hm5 : (m5 : Int) ≤ 9223372036854775807 := by
                    obtain ⟨_, _, hs, _, h⟩ := OA6.out.slice
                    simp only [Value.slice.injEq] at hs
                    omega
                  have HD5 : Hid (m5 ≤ d5) := by
                    obtain ⟨_, _, hs, h, _⟩ := OA6.out.slice
                    simp only [Value.slice.injEq] at hs
                    show _ ≤ _
                    omega
                  have HBS : Hid (0 < m5 → ∃ b, B5 = some ⟨b, 0, none⟩) := fun h0 => by
                    obtain ⟨b, _, h1, _⟩ := own_key OA6.out h0
                    exact ⟨b, h1⟩
                  have HKB : Hid (∀ b, B5 = some ⟨b, 0, none⟩ → ∃ cur, w6.heap[b]? = some (.cells cur 43 (0, 0)) ∧ cur.size = d5 * 6) := own_blk OA6.out
                  go_wp2_with fail
                  go_loopw [56] (fun i wr => ∃ j2 : Nat, i = .int .i64 (j2 : Int) ∧ j2 ≤ m5 ∧ Hid (∀ b, B5 = some ⟨b, 0, none⟩ → ∃ cur, wr.heap[b]? = some (.cells cur 43 (0, 0)) ∧ cur.size = d5 * 6) ∧ Hid (Ext (fun j => some j = (Value.slice B5 m5 d5).ownBlock) w6 wr)) (fun i _ => m5 - (intOf i).toNat)
                  case atStart => exact ⟨0, rfl, by omega, HKB.out, Ext.refl _ _⟩
                  case round =>
                    obtain ⟨j2, rfl, hj2, HC2, HE2⟩ := hrel
                    by_cases hlt2 : j2 < m5
                    · obtain ⟨b, rfl⟩ := HBS.out (by omega)
                      obtain ⟨cur, hcur, hcs⟩ := HC2.out b rfl
                      have hbl := blk_lt hcur
                      have hsz : j2 * 6 + 1 < cur.size := by have := HD5.out; omega
                      obtain ⟨u1, hu1⟩ : ∃ u, cur[j2 * 6 + 1]? = some u := ⟨_, Array.getElem?_eq_getElem hsz⟩
                      have k1 := (blk_cell hcur (j2 * 6 + 1)).trans hu1
                      have f1 := blk_frozen hcur (j2 * 6 + 1)
                      have HNX : Hid (∀ b', (some ⟨b, 0, none⟩ : Option Addr) = some ⟨b', 0, none⟩ → ∃ cur, (wr.setCell ⟨b, j2 * 6 + 1, none⟩ (.string ⟨#[63]⟩)).heap[b']? = some (.cells cur 43 (0, 0)) ∧ cur.size = d5 * 6) := fun b' hb' => by
                        cases hb'
                        exact ⟨_, blk_set hcur _ _, by simpa using hcs⟩
                      have HEX : Hid (Ext (fun j => some j = (Value.slice (some ⟨b, 0, none⟩) m5 d5).ownBlock) w6 (wr.setCell ⟨b, j2 * 6 + 1, none⟩ (.string ⟨#[63]⟩))) := HE2.out.setCell (p := ⟨b, j2 * 6 + 1, none⟩) (fun _ => rfl) _
                      clear hcur hcs hu1 hsz
                      go_wp2_with fail
                      go_roundw
                      case rel => exact ⟨j2 + 1, by go_num, by omega, HNX.out, HEX.out⟩
                      case measure => simp [intOf]; omega
                    · obtain rfl : j2 = m5 := by omega
                      have HNB : ∀ j, some j = (Value.slice B5 j2 d5).ownBlock → w3.heap.size ≤ j := fun j h => (HOB.out _ h).1
                      have FX : Hid (Fd n (okP g x) wr g D') := by
                        rw [HDD.out]
                        exact (Fw6.out.ext HE2.out (fun j hj h => hj.2 h) (fun h => by have := HNB _ h; omega)).re (fun j hj _ => hj.1) (fun h => h.1 rfl)
                      have XX : Hid (Rf n (okP g x) wr x D') := by
                        rw [HDD.out]
                        exact (Xw6.out.ext HE2.out (fun j hj _ h => hj.2 h) (fun h => by have := HNB _ h; omega)).re (fun j hj _ => hj.1) (fun h => h.2 rfl)
                      have EXX : Hid (Ext Non w wr) := ext_fine2 (Ew6.out.trans HE2.out (fun i hi h => by have := HNB _ h; have := Ew3.out.size; omega)) HWR.out HWX.out.1 HWX.out.2
                      have HR : Hid (PlaysI n w wo g x D' wr) := ⟨FX.out, XX.out, EXX.out⟩
                      clear HT HDD
                      go_wp2_with fail
                      go_meet
                      exact ⟨_, rfl, rfl, rfl, HR.out⟩
        case rest =>
          obtain ⟨v, rfl, rfl, rfl, hI⟩ := hcut
          have FC : Hid (Fd n (okP g x) wc g D') := hI.f
          have XC : Hid (Rf n (okP g x) wc x D') := hI.x
          have EWC : Hid (Ext Non w wc) := hI.e
          have EDr : Hid (Ext Non wc wc.drew) := (Ext.refl _ _).drew
          have Fwd : Hid (Fd n (okP g x) wc.drew g D') := FC.out.ext0 EDr.out
          obtain ⟨se, ss, hFB⟩ := Fwd.out.blk
          obtain ⟨A1, n1, c1, A2, n2, c2, hb, h1, h2, -⟩ := hI.x
          have HLC : Hid (g < wc.heap.size ∧ x < wc.heap.size) := ⟨by have := blk_lt hFB; simpa using this, blk_lt hb⟩
          have HXB := Lib.hid hb
          have HX1 := Lib.hid h1
          have HX2 := Lib.hid h2
          have HFB := Lib.hid hFB
          clear hI hb h1 h2 hFB
          go_wp2_with fail
          refine Last.start_ (S := fun W => W.cell? ⟨x, 0, none⟩ = some (.slice A1 n1 c1) ∧ W.cell? ⟨x, 1, none⟩ = some (.slice A2 n2 c2) ∧ W.cell? ⟨x, 3, none⟩ = some (.int .i64 D'.top)) (ds := []) #[false, false, false, false, false, false, false, false, false, false, false, false, false, false, false, false, false, false, false, false, false, false, false, false, false, false, false, false, false, false, false, false, false, false, false, false] (by kernel_rfl) (by rfl) (by rfl) (rfS (EDr.out.obj HXB.out (fun e => e))) (fun hS => ?_)
          refine Last.take_ (i := 0) (N := some 155) (v := .bool true) #[true, false, false, false, false, false, false, false, false, false, false, false, false, false, false, false, false, false, false, false, false, false, false, false, false, false, false, false, false, false, false, false, false, false, false, false] (by simp only [List.getElem?_toArray, List.getElem?_cons_zero]; rfl) rfl (by kernel_rfl) (by exact fun _ _ _ h => h) (Or.inl ⟨by rfl, fun W hW => by first | rfl | (try dsimp only at hW); go_simp⟩) hS rfl ?_
          simp only [Act.put, List.setIfInBounds_toArray, List.set_cons_zero, List.set_cons_succ]
          refine Last.take_ (i := 1) (N := some 156) (v := .bool false) #[true, true, false, false, false, false, false, false, false, false, false, false, false, false, false, false, false, false, false, false, false, false, false, false, false, false, false, false, false, false, false, false, false, false, false, false] (by simp only [List.getElem?_toArray, List.getElem?_cons_zero, List.getElem?_cons_succ]; rfl) rfl (by kernel_rfl) (by exact fun _ _ _ h => h) (Or.inl ⟨by rfl, fun W hW => by first | rfl | (try dsimp only at hW); go_simp⟩) hS rfl ?_
          simp only [Act.put, List.setIfInBounds_toArray, List.set_cons_zero, List.set_cons_succ]
          refine Last.take_ (i := 2) (N := some 157) (v := .bool false) #[true, true, true, false, false, false, false, false, false, false, false, false, false, false, false, false, false, false, false, false, false, false, false, false, false, false, false, false, false, false, false, false, false, false, false, false] (by simp only [List.getElem?_toArray, List.getElem?_cons_zero, List.getElem?_cons_succ]; rfl) rfl (by kernel_rfl) (by exact fun _ _ _ h => h) (Or.inl ⟨by rfl, fun W hW => by first | rfl | (try dsimp only at hW); go_simp⟩) hS rfl ?_
          simp only [Act.put, List.setIfInBounds_toArray, List.set_cons_zero, List.set_cons_succ]
          refine Last.take_ (i := 3) (N := some 158) (v := .int .i64 v) #[true, true, true, true, false, false, false, false, false, false, false, false, false, false, false, false, false, false, false, false, false, false, false, false, false, false, false, false, false, false, false, false, false, false, false, false] (by simp only [List.getElem?_toArray, List.getElem?_cons_zero, List.getElem?_cons_succ]; rfl) rfl (by kernel_rfl) (by exact fun _ _ _ h => h) (Or.inl ⟨by rfl, fun W hW => by first | rfl | (try dsimp only at hW); go_simp⟩) hS rfl ?_
          simp only [Act.put, List.setIfInBounds_toArray, List.set_cons_zero, List.set_cons_succ]
          refine Last.take_ (i := 4) (N := some 159) (v := .int .i64 v) #[true, true, true, true, true, false, false, false, false, false, false, false, false, false, false, false, false, false, false, false, false, false, false, false, false, false, false, false, false, false, false, false, false, false, false, false] (by simp only [List.getElem?_toArray, List.getElem?_cons_zero, List.getElem?_cons_succ]; rfl) rfl (by kernel_rfl) (by exact fun _ _ _ h => h) (Or.inl ⟨by rfl, fun W hW => by first | rfl | (try dsimp only at hW); go_simp⟩) hS rfl ?_
          simp only [Act.put, List.setIfInBounds_toArray, List.set_cons_zero, List.set_cons_succ]
          refine Last.take_ (i := 5) (N := some 160) (v := .bool false) #[true, true, true, true, true, true, false, false, false, false, false, false, false, false, false, false, false, false, false, false, false, false, false, false, false, false, false, false, false, false, false, false, false, false, false, false] (by simp only [List.getElem?_toArray, List.getElem?_cons_zero, List.getElem?_cons_succ]; rfl) rfl (by kernel_rfl) (by exact fun _ _ _ h => h) (Or.inl ⟨by rfl, fun W hW => by first | rfl | (try dsimp only at hW); go_simp⟩) hS rfl ?_
          simp only [Act.put, List.setIfInBounds_toArray, List.set_cons_zero, List.set_cons_succ]
          refine Last.take_ (i := 6) (N := some 161) (v := .bool false) #[true, true, true, true, true, true, true, false, false, false, false, false, false, false, false, false, false, false, false, false, false, false, false, false, false, false, false, false, false, false, false, false, false, false, false, false] (by simp only [List.getElem?_toArray, List.getElem?_cons_zero, List.getElem?_cons_succ]; rfl) rfl (by kernel_rfl) (by exact fun _ _ _ h => h) (Or.inl ⟨by rfl, fun W hW => by first | rfl | (try dsimp only at hW); go_simp⟩) hS rfl ?_
          simp only [Act.put, List.setIfInBounds_toArray, List.set_cons_zero, List.set_cons_succ]
          refine Last.take_ (i := 7) (N := some 162) (v := .bool false) #[true, true, true, true, true, true, true, true, false, false, false, false, false, false, false, false, false, false, false, false, false, false, false, false, false, false, false, false, false, false, false, false, false, false, false, false] (by simp only [List.getElem?_toArray, List.getElem?_cons_zero, List.getElem?_cons_succ]; rfl) rfl (by kernel_rfl) (by exact fun _ _ _ h => h) (Or.inl ⟨by rfl, fun W hW => by first | rfl | (try dsimp only at hW); go_simp⟩) hS rfl ?_
          simp only [Act.put, List.setIfInBounds_toArray, List.set_cons_zero, List.set_cons_succ]
          refine Last.take_ (i := 8) (N := some 163) (v := .pointer (some ⟨g, 0, none⟩)) #[true, true, true, true, true, true, true, true, true, false, false, false, false, false, false, false, false, false, false, false, false, false, false, false, false, false, false, false, false, false, false, false, false, false, false, false] (by simp only [List.getElem?_toArray, List.getElem?_cons_zero, List.getElem?_cons_succ]; rfl) rfl (by kernel_rfl) (by exact fun _ _ _ h => h) (Or.inl ⟨by rfl, fun W hW => by first | rfl | (try dsimp only at hW); go_simp⟩) hS rfl ?_
          simp only [Act.put, List.setIfInBounds_toArray, List.set_cons_zero, List.set_cons_succ]
          refine Last.take_ (i := 10) (N := some 165) (v := .pointer (some ⟨x, 0, none⟩)) #[true, true, true, true, true, true, true, true, true, false, true, false, false, false, false, false, false, false, false, false, false, false, false, false, false, false, false, false, false, false, false, false, false, false, false, false] (by simp only [List.getElem?_toArray, List.getElem?_cons_zero, List.getElem?_cons_succ]; rfl) rfl (by kernel_rfl) (by exact fun _ _ _ h => h) (Or.inl ⟨by rfl, fun W hW => by first | rfl | (try dsimp only at hW); go_simp⟩) hS rfl ?_
          simp only [Act.put, List.setIfInBounds_toArray, List.set_cons_zero, List.set_cons_succ]
          refine Last.take_ (i := 11) (N := some 166) (v := .pointer (some ⟨x, 0, none⟩)) #[true, true, true, true, true, true, true, true, true, false, true, true, false, false, false, false, false, false, false, false, false, false, false, false, false, false, false, false, false, false, false, false, false, false, false, false] (by simp only [List.getElem?_toArray, List.getElem?_cons_zero, List.getElem?_cons_succ]; rfl) rfl (by kernel_rfl) (by exact fun _ _ _ h => h) (Or.inl ⟨by rfl, fun W hW => by first | rfl | (try dsimp only at hW); go_simp⟩) hS rfl ?_
          simp only [Act.put, List.setIfInBounds_toArray, List.set_cons_zero, List.set_cons_succ]
          refine Last.take_ (i := 12) (N := some 167) (v := .pointer (some ⟨x, 3, none⟩)) #[true, true, true, true, true, true, true, true, true, false, true, true, true, false, false, false, false, false, false, false, false, false, false, false, false, false, false, false, false, false, false, false, false, false, false, false] (by simp only [List.getElem?_toArray, List.getElem?_cons_zero, List.getElem?_cons_succ]; rfl) rfl (by kernel_rfl) (by exact fun _ _ _ h => h) (Or.inl ⟨by rfl, fun W hW => by first | rfl | (try dsimp only at hW); go_simp⟩) hS rfl ?_
          simp only [Act.put, List.setIfInBounds_toArray, List.set_cons_zero, List.set_cons_succ]
          refine Last.take_ (i := 13) (N := some 168) (v := .int .i64 D'.top) #[true, true, true, true, true, true, true, true, true, false, true, true, true, true, false, false, false, false, false, false, false, false, false, false, false, false, false, false, false, false, false, false, false, false, false, false] (by simp only [List.getElem?_toArray, List.getElem?_cons_zero, List.getElem?_cons_succ]; rfl) rfl (by kernel_rfl) (by exact fun _ _ _ h => h) (Or.inl ⟨by rfl, fun W hW => by first | rfl | (try dsimp only at hW); go_simp⟩) hS rfl ?_
          simp only [Act.put, List.setIfInBounds_toArray, List.set_cons_zero, List.set_cons_succ]
          refine Last.one_ (i := 9) (N := some 164) #[true, true, true, true, true, true, true, true, true, true, true, true, true, true, false, false, false, false, false, false, false, false, false, false, false, false, false, false, false, false, false, false, false, false, false, false] (by simp only [List.getElem?_toArray, List.getElem?_cons_zero, List.getElem?_cons_succ]; rfl) rfl (by kernel_rfl) (by decide) (fun K hK => ?_)
          refine Last.goes_ Try.func31 (by kernel_rfl) rfl #[.pointer (some ⟨g, 0, none⟩)] (by rfl) rfl rfl (by simp [Act.eval]) ?_
          refine (Top_live HFB.out HN1.out).mono ?_
          rintro e w7 ⟨rfl, rfl⟩
          refine ⟨_, rfl, ?_⟩
          refine hK.out _ _ (rfS (EDr.out.obj HXB.out (fun e => e))) (fun hS => ?_)
          try simp only [Act.put, List.setIfInBounds_toArray, List.set_cons_zero, List.set_cons_succ]
          refine Last.take_ (i := 14) (N := some 169) (v := .bool false) #[true, true, true, true, true, true, true, true, true, true, true, true, true, true, true, false, false, false, false, false, false, false, false, false, false, false, false, false, false, false, false, false, false, false, false, false] (by simp only [List.getElem?_toArray, List.getElem?_cons_zero, List.getElem?_cons_succ]; rfl) rfl (by kernel_rfl) (by exact fun _ _ _ h => h) (Or.inl ⟨by rfl, fun W hW => by first | rfl | (try dsimp only at hW); go_simp⟩) hS rfl ?_
          simp only [Act.put, List.setIfInBounds_toArray, List.set_cons_zero, List.set_cons_succ]
          refine Last.take_ (i := 15) (N := some 170) (v := .bool false) #[true, true, true, true, true, true, true, true, true, true, true, true, true, true, true, true, false, false, false, false, false, false, false, false, false, false, false, false, false, false, false, false, false, false, false, false] (by simp only [List.getElem?_toArray, List.getElem?_cons_zero, List.getElem?_cons_succ]; rfl) rfl (by kernel_rfl) (by exact fun _ _ _ h => h) (Or.inl ⟨by rfl, fun W hW => by first | rfl | (try dsimp only at hW); go_simp⟩) hS rfl ?_
          simp only [Act.put, List.setIfInBounds_toArray, List.set_cons_zero, List.set_cons_succ]
          refine Last.take_ (i := 16) (N := some 171) (v := .bool false) #[true, true, true, true, true, true, true, true, true, true, true, true, true, true, true, true, true, false, false, false, false, false, false, false, false, false, false, false, false, false, false, false, false, false, false, false] (by simp only [List.getElem?_toArray, List.getElem?_cons_zero, List.getElem?_cons_succ]; rfl) rfl (by kernel_rfl) (by exact fun _ _ _ h => h) (Or.inl ⟨by rfl, fun W hW => by first | rfl | (try dsimp only at hW); go_simp⟩) hS rfl ?_
          simp only [Act.put, List.setIfInBounds_toArray, List.set_cons_zero, List.set_cons_succ]
          refine Last.take_ (i := 17) (N := some 172) (v := .pointer (some ⟨g, 0, none⟩)) #[true, true, true, true, true, true, true, true, true, true, true, true, true, true, true, true, true, true, false, false, false, false, false, false, false, false, false, false, false, false, false, false, false, false, false, false] (by simp only [List.getElem?_toArray, List.getElem?_cons_zero, List.getElem?_cons_succ]; rfl) rfl (by kernel_rfl) (by exact fun _ _ _ h => h) (Or.inl ⟨by rfl, fun W hW => by first | rfl | (try dsimp only at hW); go_simp⟩) hS rfl ?_
          simp only [Act.put, List.setIfInBounds_toArray, List.set_cons_zero, List.set_cons_succ]
          refine Last.take_ (i := 19) (N := some 174) (v := .pointer (some ⟨x, 0, none⟩)) #[true, true, true, true, true, true, true, true, true, true, true, true, true, true, true, true, true, true, false, true, false, false, false, false, false, false, false, false, false, false, false, false, false, false, false, false] (by simp only [List.getElem?_toArray, List.getElem?_cons_zero, List.getElem?_cons_succ]; rfl) rfl (by kernel_rfl) (by exact fun _ _ _ h => h) (Or.inl ⟨by rfl, fun W hW => by first | rfl | (try dsimp only at hW); go_simp⟩) hS rfl ?_
          simp only [Act.put, List.setIfInBounds_toArray, List.set_cons_zero, List.set_cons_succ]
          refine Last.take_ (i := 20) (N := some 175) (v := .pointer (some ⟨x, 0, none⟩)) #[true, true, true, true, true, true, true, true, true, true, true, true, true, true, true, true, true, true, false, true, true, false, false, false, false, false, false, false, false, false, false, false, false, false, false, false] (by simp only [List.getElem?_toArray, List.getElem?_cons_zero, List.getElem?_cons_succ]; rfl) rfl (by kernel_rfl) (by exact fun _ _ _ h => h) (Or.inl ⟨by rfl, fun W hW => by first | rfl | (try dsimp only at hW); go_simp⟩) hS rfl ?_
          simp only [Act.put, List.setIfInBounds_toArray, List.set_cons_zero, List.set_cons_succ]
          refine Last.take_ (i := 21) (N := some 176) (v := .pointer (some ⟨x, 0, none⟩)) #[true, true, true, true, true, true, true, true, true, true, true, true, true, true, true, true, true, true, false, true, true, true, false, false, false, false, false, false, false, false, false, false, false, false, false, false] (by simp only [List.getElem?_toArray, List.getElem?_cons_zero, List.getElem?_cons_succ]; rfl) rfl (by kernel_rfl) (by exact fun _ _ _ h => h) (Or.inl ⟨by rfl, fun W hW => by first | rfl | (try dsimp only at hW); go_simp⟩) hS rfl ?_
          simp only [Act.put, List.setIfInBounds_toArray, List.set_cons_zero, List.set_cons_succ]
          refine Last.take_ (i := 22) (N := some 177) (v := .slice A1 n1 c1) #[true, true, true, true, true, true, true, true, true, true, true, true, true, true, true, true, true, true, false, true, true, true, true, false, false, false, false, false, false, false, false, false, false, false, false, false] (by simp only [List.getElem?_toArray, List.getElem?_cons_zero, List.getElem?_cons_succ]; rfl) rfl (by kernel_rfl) (by exact fun _ _ _ h => h) (Or.inl ⟨by rfl, fun W hW => by first | rfl | (try dsimp only at hW); go_simp⟩) hS rfl ?_
          simp only [Act.put, List.setIfInBounds_toArray, List.set_cons_zero, List.set_cons_succ]
          refine Last.one_ (i := 18) (N := some 173) #[true, true, true, true, true, true, true, true, true, true, true, true, true, true, true, true, true, true, true, true, true, true, true, false, false, false, false, false, false, false, false, false, false, false, false, false] (by simp only [List.getElem?_toArray, List.getElem?_cons_zero, List.getElem?_cons_succ]; rfl) rfl (by kernel_rfl) (by decide) (fun K hK => ?_)
          refine Last.goes_ Try.func32 (by kernel_rfl) rfl #[.pointer (some ⟨g, 0, none⟩)] (by rfl) rfl rfl (by simp [Act.eval]) ?_
          refine (Kept_calls Fwd.out HN1.out (by have := HG1.out.good.evs; omega) (fresh_ok HLC.out EDr.out.size)).mono ?_
          rintro e w8 ⟨B8, m8, d8, rfl, ho, he⟩
          have O8 := Lib.hid ho
          have Y8 : Hid (Ext Non wc w8) := EDr.out.trans0 he
          clear ho he
          refine ⟨_, rfl, ?_⟩
          refine hK.out _ _ (rfS (Y8.out.obj HXB.out (fun e => e))) (fun hS => ?_)
          try simp only [Act.put, List.setIfInBounds_toArray, List.set_cons_zero, List.set_cons_succ]
          refine Last.one_ (i := 23) (N := some 178) #[true, true, true, true, true, true, true, true, true, true, true, true, true, true, true, true, true, true, true, true, true, true, true, true, false, false, false, false, false, false, false, false, false, false, false, false] (by simp only [List.getElem?_toArray, List.getElem?_cons_zero, List.getElem?_cons_succ]; rfl) rfl (by kernel_rfl) (by decide) (fun K hK => ?_)
          refine Last.goes_ Try.func28 (by kernel_rfl) rfl #[.slice B8 m8 d8, .slice A1 n1 c1] (by rfl) rfl rfl (by simp [Act.eval]) ?_
          refine (SameE_calls O8.out.rd (HX1.out.ext0 Y8.out)).mono ?_
          rintro e w9 ⟨rfl, he⟩
          have Y9 : Hid (Ext Non wc w9) := Y8.out.trans0 he
          clear he
          refine ⟨_, rfl, ?_⟩
          refine hK.out _ _ (rfS (Y9.out.obj HXB.out (fun e => e))) (fun hS => ?_)
          try simp only [Act.put, List.setIfInBounds_toArray, List.set_cons_zero, List.set_cons_succ]
          refine Last.take_ (i := 24) (N := some 179) (v := .bool false) #[true, true, true, true, true, true, true, true, true, true, true, true, true, true, true, true, true, true, true, true, true, true, true, true, true, false, false, false, false, false, false, false, false, false, false, false] (by simp only [List.getElem?_toArray, List.getElem?_cons_zero, List.getElem?_cons_succ]; rfl) rfl (by kernel_rfl) (by exact fun _ _ _ h => h) (Or.inl ⟨by rfl, fun W hW => by first | rfl | (try dsimp only at hW); go_simp⟩) hS rfl ?_
          simp only [Act.put, List.setIfInBounds_toArray, List.set_cons_zero, List.set_cons_succ]
          refine Last.take_ (i := 25) (N := some 180) (v := .bool false) #[true, true, true, true, true, true, true, true, true, true, true, true, true, true, true, true, true, true, true, true, true, true, true, true, true, true, false, false, false, false, false, false, false, false, false, false] (by simp only [List.getElem?_toArray, List.getElem?_cons_zero, List.getElem?_cons_succ]; rfl) rfl (by kernel_rfl) (by exact fun _ _ _ h => h) (Or.inl ⟨by rfl, fun W hW => by first | rfl | (try dsimp only at hW); go_simp⟩) hS rfl ?_
          simp only [Act.put, List.setIfInBounds_toArray, List.set_cons_zero, List.set_cons_succ]
          refine Last.take_ (i := 26) (N := some 181) (v := .bool false) #[true, true, true, true, true, true, true, true, true, true, true, true, true, true, true, true, true, true, true, true, true, true, true, true, true, true, true, false, false, false, false, false, false, false, false, false] (by simp only [List.getElem?_toArray, List.getElem?_cons_zero, List.getElem?_cons_succ]; rfl) rfl (by kernel_rfl) (by exact fun _ _ _ h => h) (Or.inl ⟨by rfl, fun W hW => by first | rfl | (try dsimp only at hW); go_simp⟩) hS rfl ?_
          simp only [Act.put, List.setIfInBounds_toArray, List.set_cons_zero, List.set_cons_succ]
          refine Last.take_ (i := 27) (N := some 182) (v := .pointer (some ⟨g, 0, none⟩)) #[true, true, true, true, true, true, true, true, true, true, true, true, true, true, true, true, true, true, true, true, true, true, true, true, true, true, true, true, false, false, false, false, false, false, false, false] (by simp only [List.getElem?_toArray, List.getElem?_cons_zero, List.getElem?_cons_succ]; rfl) rfl (by kernel_rfl) (by exact fun _ _ _ h => h) (Or.inl ⟨by rfl, fun W hW => by first | rfl | (try dsimp only at hW); go_simp⟩) hS rfl ?_
          simp only [Act.put, List.setIfInBounds_toArray, List.set_cons_zero, List.set_cons_succ]
          refine Last.take_ (i := 29) (N := some 184) (v := .pointer (some ⟨x, 0, none⟩)) #[true, true, true, true, true, true, true, true, true, true, true, true, true, true, true, true, true, true, true, true, true, true, true, true, true, true, true, true, false, true, false, false, false, false, false, false] (by simp only [List.getElem?_toArray, List.getElem?_cons_zero, List.getElem?_cons_succ]; rfl) rfl (by kernel_rfl) (by exact fun _ _ _ h => h) (Or.inl ⟨by rfl, fun W hW => by first | rfl | (try dsimp only at hW); go_simp⟩) hS rfl ?_
          simp only [Act.put, List.setIfInBounds_toArray, List.set_cons_zero, List.set_cons_succ]
          refine Last.take_ (i := 30) (N := some 185) (v := .pointer (some ⟨x, 0, none⟩)) #[true, true, true, true, true, true, true, true, true, true, true, true, true, true, true, true, true, true, true, true, true, true, true, true, true, true, true, true, false, true, true, false, false, false, false, false] (by simp only [List.getElem?_toArray, List.getElem?_cons_zero, List.getElem?_cons_succ]; rfl) rfl (by kernel_rfl) (by exact fun _ _ _ h => h) (Or.inl ⟨by rfl, fun W hW => by first | rfl | (try dsimp only at hW); go_simp⟩) hS rfl ?_
          simp only [Act.put, List.setIfInBounds_toArray, List.set_cons_zero, List.set_cons_succ]
          refine Last.take_ (i := 31) (N := some 186) (v := .pointer (some ⟨x, 1, none⟩)) #[true, true, true, true, true, true, true, true, true, true, true, true, true, true, true, true, true, true, true, true, true, true, true, true, true, true, true, true, false, true, true, true, false, false, false, false] (by simp only [List.getElem?_toArray, List.getElem?_cons_zero, List.getElem?_cons_succ]; rfl) rfl (by kernel_rfl) (by exact fun _ _ _ h => h) (Or.inl ⟨by rfl, fun W hW => by first | rfl | (try dsimp only at hW); go_simp⟩) hS rfl ?_
          simp only [Act.put, List.setIfInBounds_toArray, List.set_cons_zero, List.set_cons_succ]
          refine Last.take_ (i := 32) (N := some 187) (v := .slice A2 n2 c2) #[true, true, true, true, true, true, true, true, true, true, true, true, true, true, true, true, true, true, true, true, true, true, true, true, true, true, true, true, false, true, true, true, true, false, false, false] (by simp only [List.getElem?_toArray, List.getElem?_cons_zero, List.getElem?_cons_succ]; rfl) rfl (by kernel_rfl) (by exact fun _ _ _ h => h) (Or.inl ⟨by rfl, fun W hW => by first | rfl | (try dsimp only at hW); go_simp⟩) hS rfl ?_
          simp only [Act.put, List.setIfInBounds_toArray, List.set_cons_zero, List.set_cons_succ]
          refine Last.one_ (i := 28) (N := some 183) #[true, true, true, true, true, true, true, true, true, true, true, true, true, true, true, true, true, true, true, true, true, true, true, true, true, true, true, true, true, true, true, true, true, false, false, false] (by simp only [List.getElem?_toArray, List.getElem?_cons_zero, List.getElem?_cons_succ]; rfl) rfl (by kernel_rfl) (by decide) (fun K hK => ?_)
          refine Last.goes_ Try.func34 (by kernel_rfl) rfl #[.pointer (some ⟨g, 0, none⟩)] (by rfl) rfl rfl (by simp [Act.eval]) ?_
          refine (List_calls (FC.out.ext0 Y9.out) HN1.out (by have := HG1.out.good.subs; omega) (fun s hs => (HG1.out.good.q s hs).2.1)).mono ?_
          rintro e w10 ⟨B10, m10, d10, rfl, hr10, he⟩
          have R10 := Lib.hid hr10
          have Y10 : Hid (Ext Non wc w10) := Y9.out.trans0 he
          clear hr10 he
          refine ⟨_, rfl, ?_⟩
          refine hK.out _ _ (rfS (Y10.out.obj HXB.out (fun e => e))) (fun hS => ?_)
          try simp only [Act.put, List.setIfInBounds_toArray, List.set_cons_zero, List.set_cons_succ]
          refine Last.one_ (i := 33) (N := some 188) #[true, true, true, true, true, true, true, true, true, true, true, true, true, true, true, true, true, true, true, true, true, true, true, true, true, true, true, true, true, true, true, true, true, true, false, false] (by simp only [List.getElem?_toArray, List.getElem?_cons_zero, List.getElem?_cons_succ]; rfl) rfl (by kernel_rfl) (by decide) (fun K hK => ?_)
          refine Last.goes_ Try.func33 (by kernel_rfl) rfl #[.slice B10 m10 d10, .slice A2 n2 c2] (by rfl) rfl rfl (by simp [Act.eval]) ?_
          refine (SameSubs_calls R10.out (HX2.out.ext0 Y10.out) HG1.out.good.okL).mono ?_
          rintro e w11 ⟨rfl, he⟩
          have Y11 : Hid (Ext Non wc w11) := Y10.out.trans0 he
          clear he
          refine ⟨_, rfl, ?_⟩
          refine hK.out _ _ (rfS (Y11.out.obj HXB.out (fun e => e))) (fun hS => ?_)
          try simp only [Act.put, List.setIfInBounds_toArray, List.set_cons_zero, List.set_cons_succ]
          refine Last.take_ (i := 34) (N := some 189) (v := .bool false) #[true, true, true, true, true, true, true, true, true, true, true, true, true, true, true, true, true, true, true, true, true, true, true, true, true, true, true, true, true, true, true, true, true, true, true, false] (by simp only [List.getElem?_toArray, List.getElem?_cons_zero, List.getElem?_cons_succ]; rfl) rfl (by kernel_rfl) (by exact fun _ _ _ h => h) (Or.inl ⟨by rfl, fun W hW => by first | rfl | (try dsimp only at hW); go_simp⟩) hS rfl ?_
          simp only [Act.put, List.setIfInBounds_toArray, List.set_cons_zero, List.set_cons_succ]
          refine Last.take_ (i := 35) (N := some 190) (v := .bool false) #[true, true, true, true, true, true, true, true, true, true, true, true, true, true, true, true, true, true, true, true, true, true, true, true, true, true, true, true, true, true, true, true, true, true, true, true] (by simp only [List.getElem?_toArray, List.getElem?_cons_zero, List.getElem?_cons_succ]; rfl) rfl (by kernel_rfl) (by exact fun _ _ _ h => h) (Or.inl ⟨by rfl, fun W hW => by first | rfl | (try dsimp only at hW); go_simp⟩) hS rfl ?_
          simp only [Act.put, List.setIfInBounds_toArray, List.set_cons_zero, List.set_cons_succ]
          refine Last.done_ (by kernel_rfl) ?_
          go_wp2_with fail
          go_roundw
          case rel => exact ⟨j + 1, by go_num, by omega, by show PlaysI _ _ _ _ _ (madeD n (l.take (j + 1))) _; rw [HSN.out]; exact ⟨FC.out.ext0 Y11.out, XC.out.ext0 Y11.out, EWC.out.trans0 Y11.out⟩⟩
          case measure => simp [intOf]; omega
      · obtain rfl : j = m := by omega
        go_wp2_with fail
        refine (AWW.out _ HI.out.e).mono ?_
        rintro e w8 ⟨rfl, he⟩
        have E8 := Lib.hid he
        clear he
        go_wp2_with fail
        go_ret
        exact ⟨rfl, E8.out⟩
end Go.Proofs.Ytdjfijdnhfmeeaa
