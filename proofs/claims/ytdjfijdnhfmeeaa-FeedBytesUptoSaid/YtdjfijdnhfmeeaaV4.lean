/- The document's Put: a feed's bytes. -/
import Derived.Test.YtdjfijdnhfmeeaaV3
namespace Go.Proofs.Ytdjfijdnhfmeeaa
open Go.RowKit Go.TM
set_option maxRecDepth 100000 in
set_option maxHeartbeats 32000000 in
theorem RFPut_calls {w : World} {n g : Nat} {ok : Nat → Prop} {D : Fdr} (h : Rf n ok w g D) (hgd : Neat n D) {A0 : Option Addr} {n0 c0 : Nat} {bs : List UInt8} (H : Rd Kd.u8 w (fun _ => True) (.slice A0 n0 c0) bs) (hbl : bs.length ≤ 1000000) :
    Calls Try.prog 43 #[.pointer (some ⟨g, 0, none⟩), .slice A0 n0 c0] w (RdPost (fun _ => True) (bs ++ encD n D) w) := by
  have HG := Lib.hid hgd
  have HBS : Hid (Rd Kd.u8 w (fun _ => True) (.slice A0 n0 c0) bs) := H
  have hnx := hgd.fine.good.next
  have htp := hgd.fine.good.top
  obtain ⟨A1, n1, c1, A2, n2, c2, hb, h1, h2, h3⟩ := h
  have hn1 : n1 = D.evs.length := by
    obtain ⟨_, _, hs, _, _⟩ := h1.slice
    simp only [Value.slice.injEq] at hs
    exact hs.2.1
  have hn2 : n2 = D.subs.length := by
    obtain ⟨_, _, hs, _, _⟩ := h2.slice
    simp only [Value.slice.injEq] at hs
    exact hs.2.1
  have hm1 : n1 ≤ 32 := by rw [hn1]; exact hgd.fine.good.evs
  have hm2 : n2 ≤ 4 := by rw [hn2]; exact hgd.fine.good.subs
  have HN1 := Lib.hid hn1
  have HN2 := Lib.hid hn2
  have HB := Lib.hid hb
  have H1 := Lib.hid h1
  have H2 := Lib.hid h2
  have HRI : Hid (∀ x ∈ [D.next, D.top, (n1 : Int)], -9223372036854775808 ≤ x ∧ x ≤ 9223372036854775807) := fun x hx => by
    simp only [List.mem_cons, List.not_mem_nil, or_false] at hx
    rcases hx with rfl | rfl | rfl <;> omega
  have HLH : Hid ((hdB D).length ≤ 27) := by
    have := nums_le [D.next, D.top, (n1 : Int)] (fun x hx => (HRI.out x hx).2)
    show (hdB D).length ≤ _
    rw [hdB_eq hn1]
    exact this
  have HLE : Hid (∀ i, ((D.evs.take i).flatMap evB).length ≤ 3200000) := fun i => evs_len (fun e he => ⟨⟨by have := HG.out.pos e (List.mem_of_mem_take he); omega, by have := HG.out.fine.ev.top e (List.mem_of_mem_take he); have := HG.out.fine.good.top; omega⟩, HG.out.siz e (List.mem_of_mem_take he)⟩) (by rw [List.length_take]; have := HG.out.fine.good.evs; omega)
  have b0 := blk_cell hb 0
  have b2 := blk_cell hb 2
  have b3 := blk_cell hb 3
  have hgl := blk_lt hb
  clear H hgd hb h1 h2 h3 hn1 hn2
  go_enter Try.func43, Try.ntmps43
  go_wp2_with fail
  refine Last.start_ (S := fun W => W.cell? ⟨g, 2, none⟩ = some (.int .i64 D.next) ∧ W.cell? ⟨g, 3, none⟩ = some (.int .i64 D.top) ∧ W.cell? ⟨g, 0, none⟩ = some (.slice A1 n1 c1)) (ds := []) #[false, false, false, false, false, false, false, false, false, false, false, false, false, false, false, false] (by kernel_rfl) (by rfl) (by rfl) (fdS3 ((Ext.refl Non w).drew.obj HB.out (fun e => e))) (fun hS => ?_)
  refine Last.take_ (i := 0) (N := some 15) (v := .pointer (some ⟨g, 0, none⟩)) #[true, false, false, false, false, false, false, false, false, false, false, false, false, false, false, false] (by simp only [List.getElem?_toArray, List.getElem?_cons_zero]; rfl) rfl (by kernel_rfl) (by exact fun _ _ _ h => h) (Or.inl ⟨by rfl, fun W hW => by first | rfl | (try dsimp only at hW); go_simp⟩) hS rfl ?_
  simp only [Act.put, List.setIfInBounds_toArray, List.set_cons_zero, List.set_cons_succ]
  refine Last.take_ (i := 1) (N := some 16) (v := .pointer (some ⟨g, 0, none⟩)) #[true, true, false, false, false, false, false, false, false, false, false, false, false, false, false, false] (by simp only [List.getElem?_toArray, List.getElem?_cons_zero, List.getElem?_cons_succ]; rfl) rfl (by kernel_rfl) (by exact fun _ _ _ h => h) (Or.inl ⟨by rfl, fun W hW => by first | rfl | (try dsimp only at hW); go_simp⟩) hS rfl ?_
  simp only [Act.put, List.setIfInBounds_toArray, List.set_cons_zero, List.set_cons_succ]
  refine Last.take_ (i := 2) (N := some 17) (v := .pointer (some ⟨g, 2, none⟩)) #[true, true, true, false, false, false, false, false, false, false, false, false, false, false, false, false] (by simp only [List.getElem?_toArray, List.getElem?_cons_zero, List.getElem?_cons_succ]; rfl) rfl (by kernel_rfl) (by exact fun _ _ _ h => h) (Or.inl ⟨by rfl, fun W hW => by first | rfl | (try dsimp only at hW); go_simp⟩) hS rfl ?_
  simp only [Act.put, List.setIfInBounds_toArray, List.set_cons_zero, List.set_cons_succ]
  refine Last.take_ (i := 3) (N := some 18) (v := .int .i64 D.next) #[true, true, true, true, false, false, false, false, false, false, false, false, false, false, false, false] (by simp only [List.getElem?_toArray, List.getElem?_cons_zero, List.getElem?_cons_succ]; rfl) rfl (by kernel_rfl) (by exact fun _ _ _ h => h) (Or.inl ⟨by rfl, fun W hW => by first | rfl | (try dsimp only at hW); go_simp⟩) hS rfl ?_
  simp only [Act.put, List.setIfInBounds_toArray, List.set_cons_zero, List.set_cons_succ]
  refine Last.take_ (i := 4) (N := some 19) (v := .pointer (some ⟨g, 0, none⟩)) #[true, true, true, true, true, false, false, false, false, false, false, false, false, false, false, false] (by simp only [List.getElem?_toArray, List.getElem?_cons_zero, List.getElem?_cons_succ]; rfl) rfl (by kernel_rfl) (by exact fun _ _ _ h => h) (Or.inl ⟨by rfl, fun W hW => by first | rfl | (try dsimp only at hW); go_simp⟩) hS rfl ?_
  simp only [Act.put, List.setIfInBounds_toArray, List.set_cons_zero, List.set_cons_succ]
  refine Last.take_ (i := 5) (N := some 20) (v := .pointer (some ⟨g, 0, none⟩)) #[true, true, true, true, true, true, false, false, false, false, false, false, false, false, false, false] (by simp only [List.getElem?_toArray, List.getElem?_cons_zero, List.getElem?_cons_succ]; rfl) rfl (by kernel_rfl) (by exact fun _ _ _ h => h) (Or.inl ⟨by rfl, fun W hW => by first | rfl | (try dsimp only at hW); go_simp⟩) hS rfl ?_
  simp only [Act.put, List.setIfInBounds_toArray, List.set_cons_zero, List.set_cons_succ]
  refine Last.take_ (i := 6) (N := some 21) (v := .pointer (some ⟨g, 3, none⟩)) #[true, true, true, true, true, true, true, false, false, false, false, false, false, false, false, false] (by simp only [List.getElem?_toArray, List.getElem?_cons_zero, List.getElem?_cons_succ]; rfl) rfl (by kernel_rfl) (by exact fun _ _ _ h => h) (Or.inl ⟨by rfl, fun W hW => by first | rfl | (try dsimp only at hW); go_simp⟩) hS rfl ?_
  simp only [Act.put, List.setIfInBounds_toArray, List.set_cons_zero, List.set_cons_succ]
  refine Last.take_ (i := 7) (N := some 22) (v := .int .i64 D.top) #[true, true, true, true, true, true, true, true, false, false, false, false, false, false, false, false] (by simp only [List.getElem?_toArray, List.getElem?_cons_zero, List.getElem?_cons_succ]; rfl) rfl (by kernel_rfl) (by exact fun _ _ _ h => h) (Or.inl ⟨by rfl, fun W hW => by first | rfl | (try dsimp only at hW); go_simp⟩) hS rfl ?_
  simp only [Act.put, List.setIfInBounds_toArray, List.set_cons_zero, List.set_cons_succ]
  refine Last.take_ (i := 8) (N := some 23) (v := .pointer (some ⟨g, 0, none⟩)) #[true, true, true, true, true, true, true, true, true, false, false, false, false, false, false, false] (by simp only [List.getElem?_toArray, List.getElem?_cons_zero, List.getElem?_cons_succ]; rfl) rfl (by kernel_rfl) (by exact fun _ _ _ h => h) (Or.inl ⟨by rfl, fun W hW => by first | rfl | (try dsimp only at hW); go_simp⟩) hS rfl ?_
  simp only [Act.put, List.setIfInBounds_toArray, List.set_cons_zero, List.set_cons_succ]
  refine Last.take_ (i := 9) (N := some 24) (v := .pointer (some ⟨g, 0, none⟩)) #[true, true, true, true, true, true, true, true, true, true, false, false, false, false, false, false] (by simp only [List.getElem?_toArray, List.getElem?_cons_zero, List.getElem?_cons_succ]; rfl) rfl (by kernel_rfl) (by exact fun _ _ _ h => h) (Or.inl ⟨by rfl, fun W hW => by first | rfl | (try dsimp only at hW); go_simp⟩) hS rfl ?_
  simp only [Act.put, List.setIfInBounds_toArray, List.set_cons_zero, List.set_cons_succ]
  refine Last.take_ (i := 10) (N := some 25) (v := .pointer (some ⟨g, 0, none⟩)) #[true, true, true, true, true, true, true, true, true, true, true, false, false, false, false, false] (by simp only [List.getElem?_toArray, List.getElem?_cons_zero, List.getElem?_cons_succ]; rfl) rfl (by kernel_rfl) (by exact fun _ _ _ h => h) (Or.inl ⟨by rfl, fun W hW => by first | rfl | (try dsimp only at hW); go_simp⟩) hS rfl ?_
  simp only [Act.put, List.setIfInBounds_toArray, List.set_cons_zero, List.set_cons_succ]
  refine Last.take_ (i := 11) (N := some 26) (v := .slice A1 n1 c1) #[true, true, true, true, true, true, true, true, true, true, true, true, false, false, false, false] (by simp only [List.getElem?_toArray, List.getElem?_cons_zero, List.getElem?_cons_succ]; rfl) rfl (by kernel_rfl) (by exact fun _ _ _ h => h) (Or.inl ⟨by rfl, fun W hW => by first | rfl | (try dsimp only at hW); go_simp⟩) hS rfl ?_
  simp only [Act.put, List.setIfInBounds_toArray, List.set_cons_zero, List.set_cons_succ]
  refine Last.take_ (i := 12) (N := some 27) (v := .int .i64 (n1 : Int)) #[true, true, true, true, true, true, true, true, true, true, true, true, true, false, false, false] (by simp only [List.getElem?_toArray, List.getElem?_cons_zero, List.getElem?_cons_succ]; rfl) rfl (by kernel_rfl) (by exact fun _ _ _ h => h) (Or.inl ⟨by rfl, fun W hW => by first | rfl | (try dsimp only at hW); go_simp⟩) hS rfl ?_
  simp only [Act.put, List.setIfInBounds_toArray, List.set_cons_zero, List.set_cons_succ]
  refine Last.take_ (i := 15) (N := some 30) (v := .int .i64 0) #[true, true, true, true, true, true, true, true, true, true, true, true, true, false, false, true] (by simp only [List.getElem?_toArray, List.getElem?_cons_zero, List.getElem?_cons_succ]; rfl) rfl (by kernel_rfl) (by exact fun _ _ _ h => h) (Or.inl ⟨by rfl, fun W hW => by first | rfl | (try dsimp only at hW); go_simp⟩) hS rfl ?_
  simp only [Act.put, List.setIfInBounds_toArray, List.set_cons_zero, List.set_cons_succ]
  refine Last.one_ (i := 13) (N := some 28) #[true, true, true, true, true, true, true, true, true, true, true, true, true, true, false, true] (by simp only [List.getElem?_toArray, List.getElem?_cons_zero, List.getElem?_cons_succ]; rfl) rfl (by kernel_rfl) (by decide) (fun K hK => ?_)
  go_simp
  obtain ⟨pz, hpz⟩ : ∃ p, w.heap.size = p := ⟨_, rfl⟩
  obtain ⟨wz, hwz⟩ : ∃ W, (w.alloc (.cells #[.int .i64 D.next, .int .i64 D.top, .int .i64 (n1 : Int)] 3)).drew = W := ⟨_, rfl⟩
  have Zz : Hid (Ext Non w wz) := by rw [← hwz]; exact ((Ext.refl Non w).alloc _).drew
  have KZ : Hid (wz.heap[pz]? = some (.cells #[.int .i64 D.next, .int .i64 D.top, .int .i64 (n1 : Int)] 3 (0, 0))) := by rw [← hwz, ← hpz]; exact blk_new w _
  rw [hwz, hpz]
  clear hwz hpz
  refine hK.out _ _ (fdS3 (Zz.out.obj HB.out (fun e => e))) (fun hS => ?_)
  try simp only [Act.put, List.setIfInBounds_toArray, List.set_cons_zero, List.set_cons_succ]
  refine Last.take_ (i := 14) (N := some 29) (v := .int .i64 3) #[true, true, true, true, true, true, true, true, true, true, true, true, true, true, true, true] (by simp only [List.getElem?_toArray, List.getElem?_cons_zero, List.getElem?_cons_succ]; rfl) rfl (by kernel_rfl) (by exact fun _ _ _ h => h) (Or.inl ⟨by rfl, fun W hW => by first | rfl | (try dsimp only at hW); go_simp⟩) hS rfl ?_
  simp only [Act.put, List.setIfInBounds_toArray, List.set_cons_zero, List.set_cons_succ]
  refine Last.done_ (by kernel_rfl) ?_
  have HIL : Hid (Rd Kd.i64 wz (fun _ => True) (.slice (some ⟨pz, 0, none⟩) 3 3) [D.next, D.top, (n1 : Int)]) := ints3 KZ.out
  clear b0 b2 b3 hS
  go_wp2_with fail
  go_loopw [1, 30] (fun s1 i wr => ∃ (j : Nat) (A3 : Option Addr) (n3 c3 : Nat), s1 = .slice A3 n3 c3 ∧ i = .int .i64 (j : Int) ∧ j ≤ 3 ∧ Hid (Ext Non wz wr) ∧ Hid (Rd Kd.u8 wr (fun _ => True) (.slice A3 n3 c3) (bs ++ ([D.next, D.top, (n1 : Int)].take j).flatMap numI))) (fun _ i _ => 3 - (intOf i).toNat)
  case atStart => exact ⟨0, _, _, _, rfl, rfl, by omega, Ext.refl _ _, by show Rd _ _ _ _ _; simpa using HBS.out.ext0 Zz.out⟩
  case round =>
    obtain ⟨j, A3, n3, c3, rfl, rfl, hj, HE, HR3⟩ := hrel
    by_cases hlt : j < 3
    · obtain ⟨x, hx⟩ : ∃ x, [D.next, D.top, (n1 : Int)][j]? = some x := ⟨_, List.getElem?_eq_getElem (by simpa using hlt)⟩
      obtain ⟨gl, off, hA, _, hgl, hc⟩ := (HIL.out.ext0 HE.out).flat_at hx
      simp only [Option.some.injEq, Addr.mk.injEq, and_true] at hA
      obtain ⟨rfl, rfl⟩ := hA
      have d0 := hc 0 _ rfl
      simp only [Nat.add_zero, Nat.mul_one, Nat.zero_add] at d0
      obtain ⟨z0, z1⟩ := HRI.out x (List.mem_of_getElem? hx)
      have HXX := Lib.hid hx
      have HLJ : Hid ((bs ++ ([D.next, D.top, (n1 : Int)].take j).flatMap numI).length ≤ 1000100) := by
        have h1 := nums_le ([D.next, D.top, (n1 : Int)].take j) (fun y hy => (HRI.out y (List.mem_of_mem_take hy)).2)
        have h2 := hbl
        rw [List.length_take] at h1
        show (bs ++ ([D.next, D.top, (n1 : Int)].take j).flatMap numI).length ≤ _
        rw [List.length_append]
        omega
      clear hc hx
      go_wp2_with fail
      refine (NumberR_calls HR3.out x z0 z1 (by have := HLJ.out; omega) (fun _ _ => trivial)).mono ?_
      rintro e' w2 ⟨v', rfl, ho, he⟩
      obtain ⟨A4, n4, c4, rfl⟩ : ∃ A n c, v' = .slice A n c := by obtain ⟨A6, c6, h6, _, _⟩ := ho.slice; exact ⟨_, _, _, h6⟩
      have E2 : Hid (Ext Non wz w2) := HE.out.trans0 he
      have R2 : Hid (Rd Kd.u8 w2 (fun _ => True) (.slice A4 n4 c4) (bs ++ ([D.next, D.top, (n1 : Int)].take (j + 1)).flatMap numI)) := by
        have := ho.rd
        show Rd _ _ _ _ _
        rw [List.take_succ_eq_append_getElem (by simpa using hlt), (List.getElem?_eq_some_iff.1 HXX.out).2, List.flatMap_append, List.flatMap_singleton, ← List.append_assoc]
        exact this
      clear ho he
      go_wp2_with fail
      go_roundw
      case rel => exact ⟨j + 1, A4, n4, c4, rfl, by go_num, by omega, E2.out, R2.out⟩
      case measure => simp [intOf]; omega
    · obtain rfl : j = 3 := by omega
      have HRL : Hid (Rd Kd.u8 wr (fun _ => True) (.slice A3 n3 c3) (bs ++ [D.next, D.top, (n1 : Int)].flatMap numI)) := by
        have := HR3.out
        rw [List.take_of_length_le (by simp)] at this
        exact this
      clear HR3 hlt
      have EZ : Hid (Ext Non w wr) := Zz.out.trans0 HE.out
      have b0 := blk_cell (EZ.out.obj HB.out (fun e => e)) 0
      have RH : Hid (Rd Kd.u8 wr (fun _ => True) (.slice A3 n3 c3) (bs ++ hdB D)) := by rw [hdB_eq HN1.out]; exact HRL.out
      clear HE HRL
      go_wp2_with fail
      go_loopw [1, 43] (fun s1 i wr => ∃ (j : Nat) (A3 : Option Addr) (n3 c3 : Nat), s1 = .slice A3 n3 c3 ∧ i = .int .i64 (j : Int) ∧ j ≤ n1 ∧ Hid (Ext Non w wr) ∧ Hid (Rd Kd.u8 wr (fun _ => True) (.slice A3 n3 c3) (bs ++ hdB D ++ (D.evs.take j).flatMap evB))) (fun _ i _ => n1 - (intOf i).toNat)
      case atStart => exact ⟨0, _, _, _, rfl, rfl, by omega, EZ.out, by show Rd _ _ _ _ _; simpa using RH.out⟩
      case round =>
        obtain ⟨j, G0, l0, d0, rfl, rfl, hj, HE, HR3⟩ := hrel
        by_cases hlt : j < n1
        · obtain ⟨e, he⟩ : ∃ e, D.evs[j]? = some e := ⟨_, List.getElem?_eq_getElem (by have := HN1.out; omega)⟩
          obtain ⟨ga, offa, rfl, hga, hgla, a0, a1, a2, a3, a4, a5⟩ := ev_at (H1.out.ext0 HE.out) he
          have HX := Lib.hid he
          have hmem : e ∈ D.evs := List.mem_of_getElem? he
          have HPE : Hid (0 ≤ e.pos ∧ e.pos ≤ 9223372036854775807) := ⟨by have := HG.out.pos e hmem; omega, by have := HG.out.fine.ev.top e hmem; have := HG.out.fine.good.top; omega⟩
          have HSE := Lib.hid (HG.out.siz e hmem)
          obtain ⟨cur, hcur⟩ : ∃ cur, bs ++ hdB D ++ (D.evs.take j).flatMap evB = cur := ⟨_, rfl⟩
          have HLG0 : Hid (cur.length ≤ 10000000) := by
            have h1 := HLH.out
            have h2 := HLE.out j
            show _ ≤ _
            rw [← hcur, List.length_append, List.length_append]
            omega
          rw [hcur] at HR3
          have HCU := Lib.hid hcur
          clear he hga hmem hcur
          obtain ⟨q, hq⟩ : ∃ q, wr.heap.size = q := ⟨_, rfl⟩
          obtain ⟨y0, hy0⟩ : ∃ W, wr.alloc (.cells #[.int .i64 e.pos, .string e.key, .bool e.had, .string e.old, .bool e.has, .string e.now] 43) = W := ⟨_, rfl⟩
          have X0 : Ext Non wr y0 := by rw [← hy0]; exact (Ext.refl _ _).alloc _
          have BQ0 : Hid (y0.heap[q]? = some (.cells #[.int .i64 e.pos, .string e.key, .bool e.had, .string e.old, .bool e.has, .string e.now] 43 (0, 0))) := by rw [← hy0, ← hq]; exact blk_new wr _
          have EY0 : Hid (Ext Non w y0) := HE.out.trans0 X0
          have RG0 : Hid (Rd Kd.u8 y0 (fun _ => True) (.slice G0 l0 d0) cur) := HR3.out.ext0 X0
          clear X0
          go_wp2_with fail
          clear hy0 hq a0 a1 a2 a3 a4 a5
          refine Last.start_ (S := fun W => W.cell? ⟨q, 0, none⟩ = some (.int .i64 e.pos) ∧ W.cell? ⟨q, 1, none⟩ = some (.string e.key) ∧ W.cell? ⟨q, 2, none⟩ = some (.bool e.had) ∧ W.cell? ⟨q, 3, none⟩ = some (.string e.old) ∧ W.cell? ⟨q, 4, none⟩ = some (.bool e.has) ∧ W.cell? ⟨q, 5, none⟩ = some (.string e.now)) (ds := []) #[false, false, false, false, false, false, false, false] (by kernel_rfl) (by rfl) (by rfl) (evS6 ((Ext.refl Non y0).drew.obj BQ0.out (fun e => e))) (fun hS => ?_)
          refine Last.take_ (i := 0) (N := some 47) (v := .slice G0 l0 d0) #[true, false, false, false, false, false, false, false] (by simp only [List.getElem?_toArray, List.getElem?_cons_zero]; rfl) rfl (by kernel_rfl) (by exact fun _ _ _ h => h) (Or.inl ⟨by rfl, fun W hW => by first | rfl | (try dsimp only at hW); go_simp⟩) hS rfl ?_
          simp only [Act.put, List.setIfInBounds_toArray, List.set_cons_zero, List.set_cons_succ]
          refine Last.take_ (i := 1) (N := some 48) (v := .pointer (some ⟨q, 0, none⟩)) #[true, true, false, false, false, false, false, false] (by simp only [List.getElem?_toArray, List.getElem?_cons_zero, List.getElem?_cons_succ]; rfl) rfl (by kernel_rfl) (by exact fun _ _ _ h => h) (Or.inl ⟨by rfl, fun W hW => by first | rfl | (try dsimp only at hW); go_simp⟩) hS rfl ?_
          simp only [Act.put, List.setIfInBounds_toArray, List.set_cons_zero, List.set_cons_succ]
          refine Last.take_ (i := 2) (N := some 49) (v := .int .i64 e.pos) #[true, true, true, false, false, false, false, false] (by simp only [List.getElem?_toArray, List.getElem?_cons_zero, List.getElem?_cons_succ]; rfl) rfl (by kernel_rfl) (by exact fun _ _ _ h => h) (Or.inl ⟨by rfl, fun W hW => by first | rfl | (try dsimp only at hW); go_simp⟩) hS rfl ?_
          simp only [Act.put, List.setIfInBounds_toArray, List.set_cons_zero, List.set_cons_succ]
          refine Last.take_ (i := 4) (N := some 51) (v := .pointer (some ⟨q, 1, none⟩)) #[true, true, true, false, true, false, false, false] (by simp only [List.getElem?_toArray, List.getElem?_cons_zero, List.getElem?_cons_succ]; rfl) rfl (by kernel_rfl) (by exact fun _ _ _ h => h) (Or.inl ⟨by rfl, fun W hW => by first | rfl | (try dsimp only at hW); go_simp⟩) hS rfl ?_
          simp only [Act.put, List.setIfInBounds_toArray, List.set_cons_zero, List.set_cons_succ]
          refine Last.take_ (i := 5) (N := some 52) (v := .string e.key) #[true, true, true, false, true, true, false, false] (by simp only [List.getElem?_toArray, List.getElem?_cons_zero, List.getElem?_cons_succ]; rfl) rfl (by kernel_rfl) (by exact fun _ _ _ h => h) (Or.inl ⟨by rfl, fun W hW => by first | rfl | (try dsimp only at hW); go_simp⟩) hS rfl ?_
          simp only [Act.put, List.setIfInBounds_toArray, List.set_cons_zero, List.set_cons_succ]
          refine Last.one_ (i := 3) (N := some 50) #[true, true, true, true, true, true, false, false] (by simp only [List.getElem?_toArray, List.getElem?_cons_zero, List.getElem?_cons_succ]; rfl) rfl (by kernel_rfl) (by decide) (fun K hK => ?_)
          refine Last.goes_ Try.func68 (by kernel_rfl) rfl #[.slice G0 l0 d0, .int .i64 e.pos] (by rfl) rfl rfl (by simp [Act.eval]) ?_
          refine (NumberR_calls (RG0.out.ext0 (Ext.refl _ _).drew) e.pos (by have := HPE.out; omega) HPE.out.2 (by have := HLG0.out; omega) (fun _ _ => trivial)).mono ?_
          rintro e' x0 ⟨v', rfl, ho, he⟩
          obtain ⟨Ax, nx, cx, rfl⟩ : ∃ A n c, v' = .slice A n c := by obtain ⟨A6, c6, h6, _, _⟩ := ho.slice; exact ⟨_, _, _, h6⟩
          have Y0 : Hid (Ext Non y0 x0) := (Ext.refl Non y0).drew.trans0 he
          have OX0 : Hid (Rd Kd.u8 x0 (fun _ => True) (.slice Ax nx cx) (cur ++ numB e.pos.toNat)) := ho.rd
          have hnb : (numB e.pos.toNat).length ≤ 9 := numB_le (by have := HPE.out; omega)
          have HNB := Lib.hid hnb
          clear ho he hnb
          refine ⟨_, rfl, ?_⟩
          refine hK.out _ _ (evS6 (Y0.out.obj BQ0.out (fun e => e))) (fun hS => ?_)
          try simp only [Act.put, List.setIfInBounds_toArray, List.set_cons_zero, List.set_cons_succ]
          refine Last.one_ (i := 6) (N := some 53) #[true, true, true, true, true, true, true, false] (by simp only [List.getElem?_toArray, List.getElem?_cons_zero, List.getElem?_cons_succ]; rfl) rfl (by kernel_rfl) (by decide) (fun K hK => ?_)
          refine Last.goes_ Try.func69 (by kernel_rfl) rfl #[.slice Ax nx cx, .string e.key] (by rfl) rfl rfl (by simp [Act.eval]) ?_
          refine (TextR_calls OX0.out e.key (by have := HNB.out; have := HLG0.out; rw [List.length_append]; omega) (by have := HSE.out; omega) (fun _ _ => trivial)).mono ?_
          rintro e' y1 ⟨v', rfl, ho, he⟩
          obtain ⟨G1, l1, d1, rfl⟩ : ∃ A n c, v' = .slice A n c := by obtain ⟨A6, c6, h6, _, _⟩ := ho.slice; exact ⟨_, _, _, h6⟩
          have EY1 : Hid (Ext Non w y1) := EY0.out.trans0 (Y0.out.trans0 he)
          have RG1 : Hid (Rd Kd.u8 y1 (fun _ => True) (.slice G1 l1 d1) (evB1 cur e)) := ho.rd
          have BQ1 : Hid (y1.heap[q]? = some (.cells #[.int .i64 e.pos, .string e.key, .bool e.had, .string e.old, .bool e.has, .string e.now] 43 (0, 0))) := (Y0.out.trans0 he).obj BQ0.out (fun e => e)
          have HLG1 : Hid ((evB1 cur e).length ≤ 10040000) := by
            have h0 := HLG0.out
            have h1 := HNB.out
            have h2 := HSE.out
            have h3 : (numB e.key.size).length ≤ 9 := numB_le (by omega)
            show (cur ++ numB e.pos.toNat ++ numB e.key.size ++ e.key.data.toList).length ≤ _
            rw [List.length_append, List.length_append, List.length_append, size_list]
            omega
          clear ho he HNB
          refine ⟨_, rfl, ?_⟩
          refine hK.out _ _ (evS6 BQ1.out) (fun hS => ?_)
          try simp only [Act.put, List.setIfInBounds_toArray, List.set_cons_zero, List.set_cons_succ]
          refine Last.take_ (i := 7) (N := some 1) (v := .slice G1 l1 d1) #[true, true, true, true, true, true, true, true] (by simp only [List.getElem?_toArray, List.getElem?_cons_zero, List.getElem?_cons_succ]; rfl) rfl (by kernel_rfl) (by exact fun _ _ _ h => h) (Or.inl ⟨by rfl, fun W hW => by first | rfl | (try dsimp only at hW); go_simp⟩) hS rfl ?_
          simp only [Act.put, List.setIfInBounds_toArray, List.set_cons_zero, List.set_cons_succ]
          refine Last.done_ (by kernel_rfl) ?_
          go_wp2_with fail
          refine Last.start_ (S := fun W => W.cell? ⟨q, 0, none⟩ = some (.int .i64 e.pos) ∧ W.cell? ⟨q, 1, none⟩ = some (.string e.key) ∧ W.cell? ⟨q, 2, none⟩ = some (.bool e.had) ∧ W.cell? ⟨q, 3, none⟩ = some (.string e.old) ∧ W.cell? ⟨q, 4, none⟩ = some (.bool e.has) ∧ W.cell? ⟨q, 5, none⟩ = some (.string e.now)) (ds := []) #[false, false, false, false, false, false, false, false] (by kernel_rfl) (by rfl) (by rfl) (evS6 ((Ext.refl Non y1).drew.obj BQ1.out (fun e => e))) (fun hS => ?_)
          refine Last.take_ (i := 0) (N := some 54) (v := .slice G1 l1 d1) #[true, false, false, false, false, false, false, false] (by simp only [List.getElem?_toArray, List.getElem?_cons_zero]; rfl) rfl (by kernel_rfl) (by exact fun _ _ _ h => h) (Or.inl ⟨by rfl, fun W hW => by first | rfl | (try dsimp only at hW); go_simp⟩) hS rfl ?_
          simp only [Act.put, List.setIfInBounds_toArray, List.set_cons_zero, List.set_cons_succ]
          refine Last.take_ (i := 1) (N := some 55) (v := .pointer (some ⟨q, 2, none⟩)) #[true, true, false, false, false, false, false, false] (by simp only [List.getElem?_toArray, List.getElem?_cons_zero, List.getElem?_cons_succ]; rfl) rfl (by kernel_rfl) (by exact fun _ _ _ h => h) (Or.inl ⟨by rfl, fun W hW => by first | rfl | (try dsimp only at hW); go_simp⟩) hS rfl ?_
          simp only [Act.put, List.setIfInBounds_toArray, List.set_cons_zero, List.set_cons_succ]
          refine Last.take_ (i := 2) (N := some 56) (v := .bool e.had) #[true, true, true, false, false, false, false, false] (by simp only [List.getElem?_toArray, List.getElem?_cons_zero, List.getElem?_cons_succ]; rfl) rfl (by kernel_rfl) (by exact fun _ _ _ h => h) (Or.inl ⟨by rfl, fun W hW => by first | rfl | (try dsimp only at hW); go_simp⟩) hS rfl ?_
          simp only [Act.put, List.setIfInBounds_toArray, List.set_cons_zero, List.set_cons_succ]
          refine Last.take_ (i := 4) (N := some 58) (v := .pointer (some ⟨q, 3, none⟩)) #[true, true, true, false, true, false, false, false] (by simp only [List.getElem?_toArray, List.getElem?_cons_zero, List.getElem?_cons_succ]; rfl) rfl (by kernel_rfl) (by exact fun _ _ _ h => h) (Or.inl ⟨by rfl, fun W hW => by first | rfl | (try dsimp only at hW); go_simp⟩) hS rfl ?_
          simp only [Act.put, List.setIfInBounds_toArray, List.set_cons_zero, List.set_cons_succ]
          refine Last.take_ (i := 5) (N := some 59) (v := .string e.old) #[true, true, true, false, true, true, false, false] (by simp only [List.getElem?_toArray, List.getElem?_cons_zero, List.getElem?_cons_succ]; rfl) rfl (by kernel_rfl) (by exact fun _ _ _ h => h) (Or.inl ⟨by rfl, fun W hW => by first | rfl | (try dsimp only at hW); go_simp⟩) hS rfl ?_
          simp only [Act.put, List.setIfInBounds_toArray, List.set_cons_zero, List.set_cons_succ]
          refine Last.one_ (i := 3) (N := some 57) #[true, true, true, true, true, true, false, false] (by simp only [List.getElem?_toArray, List.getElem?_cons_zero, List.getElem?_cons_succ]; rfl) rfl (by kernel_rfl) (by decide) (fun K hK => ?_)
          refine Last.goes_ Try.func70 (by kernel_rfl) rfl #[.slice G1 l1 d1, .bool e.had] (by rfl) rfl rfl (by simp [Act.eval]) ?_
          refine (FlagR_calls (RG1.out.ext0 (Ext.refl _ _).drew) e.had (by have := HLG1.out; omega) (fun _ _ => trivial)).mono ?_
          rintro e' x1 ⟨v', rfl, ho, he⟩
          obtain ⟨Ax, nx, cx, rfl⟩ : ∃ A n c, v' = .slice A n c := by obtain ⟨A6, c6, h6, _, _⟩ := ho.slice; exact ⟨_, _, _, h6⟩
          have Y1 : Hid (Ext Non y1 x1) := (Ext.refl Non y1).drew.trans0 he
          have OX1 : Hid (Rd Kd.u8 x1 (fun _ => True) (.slice Ax nx cx) (evB1 cur e ++ numB (flagN e.had))) := ho.rd
          have hnb : (numB (flagN e.had)).length ≤ 9 := numB_le (by unfold flagN; split <;> omega)
          have HNB := Lib.hid hnb
          clear ho he hnb
          refine ⟨_, rfl, ?_⟩
          refine hK.out _ _ (evS6 (Y1.out.obj BQ1.out (fun e => e))) (fun hS => ?_)
          try simp only [Act.put, List.setIfInBounds_toArray, List.set_cons_zero, List.set_cons_succ]
          refine Last.one_ (i := 6) (N := some 60) #[true, true, true, true, true, true, true, false] (by simp only [List.getElem?_toArray, List.getElem?_cons_zero, List.getElem?_cons_succ]; rfl) rfl (by kernel_rfl) (by decide) (fun K hK => ?_)
          refine Last.goes_ Try.func69 (by kernel_rfl) rfl #[.slice Ax nx cx, .string e.old] (by rfl) rfl rfl (by simp [Act.eval]) ?_
          refine (TextR_calls OX1.out e.old (by have := HNB.out; have := HLG1.out; rw [List.length_append]; omega) (by have := HSE.out; omega) (fun _ _ => trivial)).mono ?_
          rintro e' y2 ⟨v', rfl, ho, he⟩
          obtain ⟨G2, l2, d2, rfl⟩ : ∃ A n c, v' = .slice A n c := by obtain ⟨A6, c6, h6, _, _⟩ := ho.slice; exact ⟨_, _, _, h6⟩
          have EY2 : Hid (Ext Non w y2) := EY1.out.trans0 (Y1.out.trans0 he)
          have RG2 : Hid (Rd Kd.u8 y2 (fun _ => True) (.slice G2 l2 d2) (evB2 cur e)) := ho.rd
          have BQ2 : Hid (y2.heap[q]? = some (.cells #[.int .i64 e.pos, .string e.key, .bool e.had, .string e.old, .bool e.has, .string e.now] 43 (0, 0))) := (Y1.out.trans0 he).obj BQ1.out (fun e => e)
          have HLG2 : Hid ((evB2 cur e).length ≤ 10080000) := by
            have h0 := HLG1.out
            have h1 := HNB.out
            have h2 := HSE.out
            have h3 : (numB e.old.size).length ≤ 9 := numB_le (by omega)
            show (evB1 cur e ++ numB (flagN e.had) ++ numB e.old.size ++ e.old.data.toList).length ≤ _
            rw [List.length_append, List.length_append, List.length_append, size_list]
            omega
          clear ho he HNB
          refine ⟨_, rfl, ?_⟩
          refine hK.out _ _ (evS6 BQ2.out) (fun hS => ?_)
          try simp only [Act.put, List.setIfInBounds_toArray, List.set_cons_zero, List.set_cons_succ]
          refine Last.take_ (i := 7) (N := some 1) (v := .slice G2 l2 d2) #[true, true, true, true, true, true, true, true] (by simp only [List.getElem?_toArray, List.getElem?_cons_zero, List.getElem?_cons_succ]; rfl) rfl (by kernel_rfl) (by exact fun _ _ _ h => h) (Or.inl ⟨by rfl, fun W hW => by first | rfl | (try dsimp only at hW); go_simp⟩) hS rfl ?_
          simp only [Act.put, List.setIfInBounds_toArray, List.set_cons_zero, List.set_cons_succ]
          refine Last.done_ (by kernel_rfl) ?_
          go_wp2_with fail
          refine Last.start_ (S := fun W => W.cell? ⟨q, 0, none⟩ = some (.int .i64 e.pos) ∧ W.cell? ⟨q, 1, none⟩ = some (.string e.key) ∧ W.cell? ⟨q, 2, none⟩ = some (.bool e.had) ∧ W.cell? ⟨q, 3, none⟩ = some (.string e.old) ∧ W.cell? ⟨q, 4, none⟩ = some (.bool e.has) ∧ W.cell? ⟨q, 5, none⟩ = some (.string e.now)) (ds := []) #[false, false, false, false, false, false, false, false] (by kernel_rfl) (by rfl) (by rfl) (evS6 ((Ext.refl Non y2).drew.obj BQ2.out (fun e => e))) (fun hS => ?_)
          refine Last.take_ (i := 0) (N := some 61) (v := .slice G2 l2 d2) #[true, false, false, false, false, false, false, false] (by simp only [List.getElem?_toArray, List.getElem?_cons_zero]; rfl) rfl (by kernel_rfl) (by exact fun _ _ _ h => h) (Or.inl ⟨by rfl, fun W hW => by first | rfl | (try dsimp only at hW); go_simp⟩) hS rfl ?_
          simp only [Act.put, List.setIfInBounds_toArray, List.set_cons_zero, List.set_cons_succ]
          refine Last.take_ (i := 1) (N := some 62) (v := .pointer (some ⟨q, 4, none⟩)) #[true, true, false, false, false, false, false, false] (by simp only [List.getElem?_toArray, List.getElem?_cons_zero, List.getElem?_cons_succ]; rfl) rfl (by kernel_rfl) (by exact fun _ _ _ h => h) (Or.inl ⟨by rfl, fun W hW => by first | rfl | (try dsimp only at hW); go_simp⟩) hS rfl ?_
          simp only [Act.put, List.setIfInBounds_toArray, List.set_cons_zero, List.set_cons_succ]
          refine Last.take_ (i := 2) (N := some 63) (v := .bool e.has) #[true, true, true, false, false, false, false, false] (by simp only [List.getElem?_toArray, List.getElem?_cons_zero, List.getElem?_cons_succ]; rfl) rfl (by kernel_rfl) (by exact fun _ _ _ h => h) (Or.inl ⟨by rfl, fun W hW => by first | rfl | (try dsimp only at hW); go_simp⟩) hS rfl ?_
          simp only [Act.put, List.setIfInBounds_toArray, List.set_cons_zero, List.set_cons_succ]
          refine Last.take_ (i := 4) (N := some 65) (v := .pointer (some ⟨q, 5, none⟩)) #[true, true, true, false, true, false, false, false] (by simp only [List.getElem?_toArray, List.getElem?_cons_zero, List.getElem?_cons_succ]; rfl) rfl (by kernel_rfl) (by exact fun _ _ _ h => h) (Or.inl ⟨by rfl, fun W hW => by first | rfl | (try dsimp only at hW); go_simp⟩) hS rfl ?_
          simp only [Act.put, List.setIfInBounds_toArray, List.set_cons_zero, List.set_cons_succ]
          refine Last.take_ (i := 5) (N := some 66) (v := .string e.now) #[true, true, true, false, true, true, false, false] (by simp only [List.getElem?_toArray, List.getElem?_cons_zero, List.getElem?_cons_succ]; rfl) rfl (by kernel_rfl) (by exact fun _ _ _ h => h) (Or.inl ⟨by rfl, fun W hW => by first | rfl | (try dsimp only at hW); go_simp⟩) hS rfl ?_
          simp only [Act.put, List.setIfInBounds_toArray, List.set_cons_zero, List.set_cons_succ]
          refine Last.one_ (i := 3) (N := some 64) #[true, true, true, true, true, true, false, false] (by simp only [List.getElem?_toArray, List.getElem?_cons_zero, List.getElem?_cons_succ]; rfl) rfl (by kernel_rfl) (by decide) (fun K hK => ?_)
          refine Last.goes_ Try.func70 (by kernel_rfl) rfl #[.slice G2 l2 d2, .bool e.has] (by rfl) rfl rfl (by simp [Act.eval]) ?_
          refine (FlagR_calls (RG2.out.ext0 (Ext.refl _ _).drew) e.has (by have := HLG2.out; omega) (fun _ _ => trivial)).mono ?_
          rintro e' x2 ⟨v', rfl, ho, he⟩
          obtain ⟨Ax, nx, cx, rfl⟩ : ∃ A n c, v' = .slice A n c := by obtain ⟨A6, c6, h6, _, _⟩ := ho.slice; exact ⟨_, _, _, h6⟩
          have Y2 : Hid (Ext Non y2 x2) := (Ext.refl Non y2).drew.trans0 he
          have OX2 : Hid (Rd Kd.u8 x2 (fun _ => True) (.slice Ax nx cx) (evB2 cur e ++ numB (flagN e.has))) := ho.rd
          have hnb : (numB (flagN e.has)).length ≤ 9 := numB_le (by unfold flagN; split <;> omega)
          have HNB := Lib.hid hnb
          clear ho he hnb
          refine ⟨_, rfl, ?_⟩
          refine hK.out _ _ (evS6 (Y2.out.obj BQ2.out (fun e => e))) (fun hS => ?_)
          try simp only [Act.put, List.setIfInBounds_toArray, List.set_cons_zero, List.set_cons_succ]
          refine Last.one_ (i := 6) (N := some 67) #[true, true, true, true, true, true, true, false] (by simp only [List.getElem?_toArray, List.getElem?_cons_zero, List.getElem?_cons_succ]; rfl) rfl (by kernel_rfl) (by decide) (fun K hK => ?_)
          refine Last.goes_ Try.func69 (by kernel_rfl) rfl #[.slice Ax nx cx, .string e.now] (by rfl) rfl rfl (by simp [Act.eval]) ?_
          refine (TextR_calls OX2.out e.now (by have := HNB.out; have := HLG2.out; rw [List.length_append]; omega) (by have := HSE.out; omega) (fun _ _ => trivial)).mono ?_
          rintro e' y3 ⟨v', rfl, ho, he⟩
          obtain ⟨G3, l3, d3, rfl⟩ : ∃ A n c, v' = .slice A n c := by obtain ⟨A6, c6, h6, _, _⟩ := ho.slice; exact ⟨_, _, _, h6⟩
          have EY3 : Hid (Ext Non w y3) := EY2.out.trans0 (Y2.out.trans0 he)
          have RG3 : Hid (Rd Kd.u8 y3 (fun _ => True) (.slice G3 l3 d3) (evB3 cur e)) := ho.rd
          have BQ3 : Hid (y3.heap[q]? = some (.cells #[.int .i64 e.pos, .string e.key, .bool e.had, .string e.old, .bool e.has, .string e.now] 43 (0, 0))) := (Y2.out.trans0 he).obj BQ2.out (fun e => e)
          have HLG3 : Hid ((evB3 cur e).length ≤ 10120000) := by
            have h0 := HLG2.out
            have h1 := HNB.out
            have h2 := HSE.out
            have h3 : (numB e.now.size).length ≤ 9 := numB_le (by omega)
            show (evB2 cur e ++ numB (flagN e.has) ++ numB e.now.size ++ e.now.data.toList).length ≤ _
            rw [List.length_append, List.length_append, List.length_append, size_list]
            omega
          clear ho he HNB
          refine ⟨_, rfl, ?_⟩
          refine hK.out _ _ (evS6 BQ3.out) (fun hS => ?_)
          try simp only [Act.put, List.setIfInBounds_toArray, List.set_cons_zero, List.set_cons_succ]
          refine Last.take_ (i := 7) (N := some 1) (v := .slice G3 l3 d3) #[true, true, true, true, true, true, true, true] (by simp only [List.getElem?_toArray, List.getElem?_cons_zero, List.getElem?_cons_succ]; rfl) rfl (by kernel_rfl) (by exact fun _ _ _ h => h) (Or.inl ⟨by rfl, fun W hW => by first | rfl | (try dsimp only at hW); go_simp⟩) hS rfl ?_
          simp only [Act.put, List.setIfInBounds_toArray, List.set_cons_zero, List.set_cons_succ]
          refine Last.done_ (by kernel_rfl) ?_
          have R4 : Hid (Rd Kd.u8 y3 (fun _ => True) (.slice G3 l3 d3) (bs ++ hdB D ++ (D.evs.take (j + 1)).flatMap evB)) := by
            have := RG3.out
            rw [evB_eq] at this
            show Rd _ _ _ _ _
            rw [List.take_succ_eq_append_getElem (by rw [← HN1.out]; exact hlt), (List.getElem?_eq_some_iff.1 HX.out).2, List.flatMap_append, List.flatMap_singleton, ← List.append_assoc, HCU.out]
            exact this
          go_wp2_with fail
          go_roundw
          case rel => exact ⟨j + 1, G3, l3, d3, rfl, by go_num, by omega, EY3.out, R4.out⟩
          case measure => simp [intOf]; omega
        · obtain rfl : j = n1 := by omega
          have HRE : Hid (Rd Kd.u8 wr (fun _ => True) (.slice G0 l0 d0) (bs ++ hdB D ++ D.evs.flatMap evB)) := by
            have := HR3.out
            rw [List.take_of_length_le (by rw [← HN1.out]; exact Nat.le_refl _)] at this
            exact this
          have HLC : Hid ((bs ++ hdB D ++ D.evs.flatMap evB).length ≤ 4300000) := by
            have h1 := HLH.out
            have h2 := HLE.out D.evs.length
            rw [List.take_length] at h2
            show (bs ++ hdB D ++ D.evs.flatMap evB).length ≤ _
            rw [List.length_append, List.length_append]
            omega
          have r1 := blk_cell (HE.out.obj HB.out (fun e => e)) 1
          clear HR3
          go_wp2_with fail
          refine (NumberR_calls HRE.out (n2 : Int) (by omega) (by omega) (by have := HLC.out; omega) (fun _ _ => trivial)).mono ?_
          rintro e' w2 ⟨v', rfl, ho, hee⟩
          obtain ⟨A4, n4, c4, rfl⟩ : ∃ A n c, v' = .slice A n c := by obtain ⟨A6, c6, h6, _, _⟩ := ho.slice; exact ⟨_, _, _, h6⟩
          have E2 : Hid (Ext Non w w2) := HE.out.trans0 hee
          obtain ⟨hd, hhd⟩ : ∃ hd, bs ++ hdB D ++ D.evs.flatMap evB ++ numB D.subs.length = hd := ⟨_, rfl⟩
          have O2 : Hid (Rd Kd.u8 w2 (fun _ => True) (.slice A4 n4 c4) hd) := by
            rw [← hhd]
            have := ho.rd
            rw [Int.toNat_natCast, HN2.out] at this
            exact this
          have HHD := Lib.hid hhd
          have HLD : Hid (hd.length ≤ 5000000) := by
            have h1 := HLC.out
            have h2 : (numB D.subs.length).length ≤ 9 := numB_le (by have := HN2.out; omega)
            rw [← hhd, List.length_append]
            show _ ≤ _
            omega
          have r1 := blk_cell (E2.out.obj HB.out (fun e => e)) 1
          clear ho hee hhd
          go_wp2_with fail
          go_loopw [1, 81] (fun s1 i wr => ∃ (j : Nat) (A3 : Option Addr) (n3 c3 : Nat), s1 = .slice A3 n3 c3 ∧ i = .int .i64 (j : Int) ∧ j ≤ n2 ∧ Hid (Ext Non w wr) ∧ Hid (Rd Kd.u8 wr (fun _ => True) (.slice A3 n3 c3) (hd ++ (D.subs.take j).flatMap (sbB n))) ∧ Hid ((hd ++ (D.subs.take j).flatMap (sbB n)).length ≤ 5000000 + 50500000 * j)) (fun _ i _ => n2 - (intOf i).toNat)
          case atStart => exact ⟨0, A4, n4, c4, rfl, rfl, by omega, E2.out, by show Rd _ _ _ _ _; simpa using O2.out, by have := HLD.out; show _ ≤ _; simpa using this⟩
          case round =>
            obtain ⟨i, A3, n3, c3, rfl, rfl, hj, HE, HO3, HLB⟩ := hrel
            obtain ⟨wo, hwo⟩ : ∃ wo, wo = wr := ⟨_, rfl⟩
            subst hwo
            by_cases hlt : i < n2
            · obtain ⟨s, hs⟩ : ∃ s, D.subs[i]? = some s := ⟨_, List.getElem?_eq_getElem (by have := HN2.out; omega)⟩
              obtain ⟨ga, offa, B, bl, bd, rfl, hga, hgla, a0, a1, a2, a3, a4, a5, a6, a7, ar⟩ := sb_at (H2.out.ext0 HE.out) hs
              have HX := Lib.hid hs
              have hmem : s ∈ D.subs := List.mem_of_getElem? hs
              have HRG := Lib.hid (HG.out.rng s hmem)
              have HOL := Lib.hid (HG.out.fine.good.okL s hmem)
              have HLP := Lib.hid (put_small HG.out.fine.good s hmem)
              have HAR := Lib.hid ar
              have hjl : Hid (i < 4) := by show _ < _; omega
              obtain ⟨cur, hcur⟩ : ∃ cur, hd ++ (D.subs.take i).flatMap (sbB n) = cur := ⟨_, rfl⟩
              rw [hcur] at HO3 HLB
              have HCU := Lib.hid hcur
              clear hs hga ar hmem hcur
              obtain ⟨q, hq⟩ : ∃ q, wo.heap.size = q := ⟨_, rfl⟩
              obtain ⟨w3, hw3⟩ : ∃ w2, wo.alloc (.cells #[.int .i64 s.id, .int .i64 s.fr, .int .i64 s.at_, .int .i64 s.q.op, .string s.q.key, .string s.q.val, .slice B bl bd, .bool s.gone] 64) = w2 := ⟨_, rfl⟩
              have X3 : Hid (Ext Non wo w3) := by rw [← hw3]; exact (Ext.refl _ _).alloc _
              have BQ3 : Hid (w3.heap[q]? = some (.cells #[.int .i64 s.id, .int .i64 s.fr, .int .i64 s.at_, .int .i64 s.q.op, .string s.q.key, .string s.q.val, .slice B bl bd, .bool s.gone] 64 (0, 0))) := by rw [← hw3, ← hq]; exact blk_new wo _
              obtain ⟨d0, d1, d2, d3, d4, d5, d6, d7⟩ := sbS8 BQ3.out
              obtain ⟨pz2, hpz⟩ : ∃ p, w3.heap.size = p := ⟨_, rfl⟩
              obtain ⟨wy, hwy⟩ : ∃ W, w3.alloc (.cells #[.int .i64 s.id, .int .i64 s.fr, .int .i64 s.at_] 3) = W := ⟨_, rfl⟩
              have Xy : Hid (Ext Non w3 wy) := by rw [← hwy]; exact (Ext.refl Non w3).alloc _
              have KY : Hid (wy.heap[pz2]? = some (.cells #[.int .i64 s.id, .int .i64 s.fr, .int .i64 s.at_] 3 (0, 0))) := by rw [← hwy, ← hpz]; exact blk_new w3 _
              have HIL : Hid (Rd Kd.i64 wy (fun _ => True) (.slice (some ⟨pz2, 0, none⟩) 3 3) [s.id, s.fr, s.at_]) := ints3 KY.out
              have HO4 : Hid (Rd Kd.u8 wy (fun _ => True) (.slice A3 n3 c3) cur) := HO3.out.ext0 (X3.out.trans0 Xy.out)
              have BQy : Hid (wy.heap[q]? = some (.cells #[.int .i64 s.id, .int .i64 s.fr, .int .i64 s.at_, .int .i64 s.q.op, .string s.q.key, .string s.q.val, .slice B bl bd, .bool s.gone] 64 (0, 0))) := Xy.out.obj BQ3.out (fun e => e)
              go_wp2_with fail
              clear hw3 hq hpz hwy a0 a1 a2 a3 a4 a5 a6 a7 d0 d1 d2 d3 d4 d5 d6 d7
              go_loopw [1, 93] (fun s1 i wr => ∃ (j : Nat) (A3 : Option Addr) (n3 c3 : Nat), s1 = .slice A3 n3 c3 ∧ i = .int .i64 (j : Int) ∧ j ≤ 3 ∧ Hid (Ext Non wy wr) ∧ Hid (Rd Kd.u8 wr (fun _ => True) (.slice A3 n3 c3) (cur ++ ([s.id, s.fr, s.at_].take j).flatMap numI))) (fun _ i _ => 3 - (intOf i).toNat)
              case atStart => exact ⟨0, _, _, _, rfl, rfl, by omega, Ext.refl _ _, by show Rd _ _ _ _ _; simpa using HO4.out⟩
              case round =>
                obtain ⟨j, A3, n3, c3, rfl, rfl, hj, HE, HR3⟩ := hrel
                by_cases hlt : j < 3
                · obtain ⟨x, hx⟩ : ∃ x, [s.id, s.fr, s.at_][j]? = some x := ⟨_, List.getElem?_eq_getElem (by simpa using hlt)⟩
                  obtain ⟨gl, off, hA, _, hgl, hc⟩ := (HIL.out.ext0 HE.out).flat_at hx
                  simp only [Option.some.injEq, Addr.mk.injEq, and_true] at hA
                  obtain ⟨rfl, rfl⟩ := hA
                  have d0 := hc 0 _ rfl
                  simp only [Nat.add_zero, Nat.mul_one, Nat.zero_add] at d0
                  obtain ⟨z0, z1⟩ := HRG.out x (List.mem_of_getElem? hx)
                  have HXX := Lib.hid hx
                  have HLJ : Hid ((cur ++ ([s.id, s.fr, s.at_].take j).flatMap numI).length ≤ 5000000 + 50500000 * i + 100) := by
                    have h1 := nums_le ([s.id, s.fr, s.at_].take j) (fun y hy => (HRG.out y (List.mem_of_mem_take hy)).2)
                    have h2 := HLB.out
                    rw [List.length_take] at h1
                    show (cur ++ ([s.id, s.fr, s.at_].take j).flatMap numI).length ≤ _
                    rw [List.length_append]
                    omega
                  clear hc hx
                  go_wp2_with fail
                  refine (NumberR_calls HR3.out x z0 z1 (by have := HLJ.out; omega) (fun _ _ => trivial)).mono ?_
                  rintro e' w2 ⟨v', rfl, ho, he⟩
                  obtain ⟨A4, n4, c4, rfl⟩ : ∃ A n c, v' = .slice A n c := by obtain ⟨A6, c6, h6, _, _⟩ := ho.slice; exact ⟨_, _, _, h6⟩
                  have E2 : Hid (Ext Non wy w2) := HE.out.trans0 he
                  have R2 : Hid (Rd Kd.u8 w2 (fun _ => True) (.slice A4 n4 c4) (cur ++ ([s.id, s.fr, s.at_].take (j + 1)).flatMap numI)) := by
                    have := ho.rd
                    show Rd _ _ _ _ _
                    rw [List.take_succ_eq_append_getElem (by simpa using hlt), (List.getElem?_eq_some_iff.1 HXX.out).2, List.flatMap_append, List.flatMap_singleton, ← List.append_assoc]
                    exact this
                  clear ho he
                  go_wp2_with fail
                  go_roundw
                  case rel => exact ⟨j + 1, A4, n4, c4, rfl, by go_num, by omega, E2.out, R2.out⟩
                  case measure => simp [intOf]; omega
                · obtain rfl : j = 3 := by omega
                  have HRL : Hid (Rd Kd.u8 wr (fun _ => True) (.slice A3 n3 c3) (cur ++ [s.id, s.fr, s.at_].flatMap numI)) := by
                    have := HR3.out
                    rw [List.take_of_length_le (by simp)] at this
                    exact this
                  clear HR3 hlt
                  have BQ4 : Hid (wr.heap[q]? = some (.cells #[.int .i64 s.id, .int .i64 s.fr, .int .i64 s.at_, .int .i64 s.q.op, .string s.q.key, .string s.q.val, .slice B bl bd, .bool s.gone] 64 (0, 0))) := HE.out.obj BQy.out (fun e => e)
                  have X4 : Hid (Ext Non wo wr) := (X3.out.trans0 Xy.out).trans0 HE.out
                  obtain ⟨d0, d1, d2, d3, d4, d5, d6, d7⟩ := sbS8 BQ4.out
                  have HL5 : Hid (([s.id, s.fr, s.at_].flatMap numI).length ≤ 27) := nums_le _ (fun x hx => (HRG.out x hx).2)
                  go_wp2_with fail
                  refine (RPut_calls (n := n) (f := s.q) (ok := ok) ⟨_, rfl, HAR.out.ext0 X4.out⟩ HOL.out).mono ?_
                  rintro e' w4 ⟨A8, m8, d8, rfl, ho, hee⟩
                  have O8 : Hid (Own Kd.u8 5 w4 wr.heap.size (fun k => wr.heap.size ≤ k) (.slice A8 m8 d8) (putOut (n + 1) s.q)) := ho
                  have R4 : Hid (Rd Kd.u8 w4 (fun _ => True) (.slice A3 n3 c3) (cur ++ [s.id, s.fr, s.at_].flatMap numI)) := HRL.out.ext0 hee
                  have X5 : Hid (Ext Non wo w4) := X4.out.trans0 hee
                  have e7 := blk_cell (hee.obj BQ4.out (fun e => e)) 7
                  clear ho hee d0 d1 d2 d3 d4 d5 d6 d7
                  go_wp2_with fail
                  refine (FlagR_calls R4.out s.gone (by have := HLB.out; have := HL5.out; rw [List.length_append]; have := hjl.out; omega) (fun _ _ => trivial)).mono ?_
                  rintro e' w6 ⟨v', rfl, ho, he⟩
                  obtain ⟨Ay, ny, cy, rfl⟩ : ∃ A n c, v' = .slice A n c := by obtain ⟨A6, c6, h6, _, _⟩ := ho.slice; exact ⟨_, _, _, h6⟩
                  have X6 : Hid (Ext Non wo w6) := X5.out.trans0 he
                  have O6 : Hid (Own Kd.u8 5 w6 w4.heap.size (fun _ => True) (.slice Ay ny cy) (cur ++ [s.id, s.fr, s.at_].flatMap numI ++ numB (flagN s.gone))) := ho
                  have HL6 : Hid ((numB (flagN s.gone)).length ≤ 9) := numB_le (by unfold flagN; split <;> omega)
                  have hs46 : w4.heap.size ≤ w6.heap.size := he.size
                  have hs04 : wo.heap.size ≤ w4.heap.size := X5.out.size
                  have O86 : Hid (Rd Kd.u8 w6 (fun k => k < w4.heap.size) (.slice A8 m8 d8) (putOut (n + 1) s.q)) := (O8.out.rd.bound.ext0 he).mono (fun k hk => hk.2)
                  have hM6 : ∀ k, some k = (Value.slice Ay ny cy).ownBlock → w4.heap.size ≤ k ∧ k < w6.heap.size := fun k h => O6.out.base_le k h.symm
                  have hlen : (cur ++ [s.id, s.fr, s.at_].flatMap numI ++ numB (flagN s.gone)).length + (putOut (n + 1) s.q).length ≤ 5000000 + 50500000 * (i + 1) := by
                    have h1 := HLB.out
                    have h2 := HL5.out
                    have h3 := HL6.out
                    have h4 := HLP.out
                    rw [List.length_append, List.length_append]
                    omega
                  have HLN := Lib.hid hlen
                  clear ho he e7 hlen
                  go_wp2_with (first
                    | (at_builtin
                       refine wpList_app Kd.u8 (ok := fun _ => True) (v := .slice Ay ny cy) (vx := .slice A8 m8 d8) (xs := cur ++ [s.id, s.fr, s.at_].flatMap numI ++ numB (flagN s.gone)) (ys := putOut (n + 1) s.q) w4.heap.size rfl _ _ 70 5 _ 1 rfl Try.underlying70 info5 rfl (by decide) (by simp [Act.eval]) (by simp [Act.eval]) O6.out (O86.out.mono (fun k hk => ⟨trivial, fun h => by have := hM6 _ h; omega⟩)) (fun _ _ => trivial) (room_ok HLN.out hjl.out).1 (room_ok HLN.out hjl.out).2 hs46 ?_
                       intro v' w7 hown hext hblk)
                    | fail)
                  obtain ⟨A7, n7, c7, rfl⟩ : ∃ A n c, v' = .slice A n c := by obtain ⟨A6, c6, h6, _, _⟩ := hown.slice; exact ⟨_, _, _, h6⟩
                  have EW : Hid (Ext Non w w7) := (‹Hid (Ext Non w wo)›.out.trans0 X6.out).trans hext (fun k hk h => by have := hM6 _ h; have := ‹Hid (Ext Non w wo)›.out.size; omega)
                  have OW : Hid (Rd Kd.u8 w7 (fun _ => True) (.slice A7 n7 c7) (hd ++ (D.subs.take (i + 1)).flatMap (sbB n))) := by
                    have h1 := hown.rd
                    show Rd _ _ _ _ _
                    rw [List.take_succ_eq_append_getElem (by rw [← HN2.out]; assumption), (List.getElem?_eq_some_iff.1 HX.out).2, List.flatMap_append, List.flatMap_singleton, ← List.append_assoc, HCU.out, sbB, ← List.append_assoc, ← List.append_assoc]
                    exact h1
                  have HLW : Hid ((hd ++ (D.subs.take (i + 1)).flatMap (sbB n)).length ≤ 5000000 + 50500000 * (i + 1)) := by
                    have h1 := HLN.out
                    show (hd ++ (D.subs.take (i + 1)).flatMap (sbB n)).length ≤ _
                    rw [List.take_succ_eq_append_getElem (by rw [← HN2.out]; assumption), (List.getElem?_eq_some_iff.1 HX.out).2, List.flatMap_append, List.flatMap_singleton, ← List.append_assoc, HCU.out, sbB, ← List.append_assoc, ← List.append_assoc, List.length_append]
                    exact h1
                  clear hown hext hblk
                  go_roundw
                  case rel => exact ⟨i + 1, A7, n7, c7, rfl, by go_num, by omega, EW.out, OW.out, HLW.out⟩
                  case measure => simp [intOf]; omega
            · obtain rfl : i = n2 := by omega
              have hO : Hid (Rd Kd.u8 wo (fun _ => True) (.slice A3 n3 c3) (bs ++ encD n D)) := by
                have := HO3.out
                rw [List.take_of_length_le (by rw [← HN2.out]; exact Nat.le_refl _), ← HHD.out] at this
                show Rd _ _ _ _ _
                simpa [encD, List.append_assoc] using this
              go_wp2_with fail
              go_ret
              exact ⟨_, rfl, hO.out, HE.out⟩
end Go.Proofs.Ytdjfijdnhfmeeaa
