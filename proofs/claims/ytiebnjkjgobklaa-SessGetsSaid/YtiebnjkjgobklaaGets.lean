/- SessGets. -/
import Derived.Test.YtiebnjkjgobklaaG2
import Derived.Test.YtiebnjkjgobklaaRefused
namespace Go.Proofs.Ytiebnjkjgobklaa
open Go.RowKit Go.TM

set_option maxHeartbeats 8000000 in
set_option maxRecDepth 100000 in
theorem gets_calls {w : World} {ok : Nat → Prop} {A : Option Addr} {n c : Nat} {bs : List UInt8} (H : Rd Kd.u8 w ok (.slice A n c) bs) : Calls Try.prog 9 #[.slice A n c] w fun e w' => e = .returned (.bool true) ∧ Ext Non w w' := by
  have HH : Hid (Rd Kd.u8 w (fun k => k < w.heap.size) (.slice A n c) bs) := H.bound.mono (fun k hk => hk.2)
  have hn : n = bs.length := by obtain ⟨_, _, he, _, _⟩ := H.slice; simp only [Value.slice.injEq] at he; exact he.2.1
  have HN := Lib.hid hn
  clear H hn
  by_cases hlong : (n : Int) > 8192
  · go_enter Try.func9, Try.ntmps9
    go_wp2_with fail
    refine (awake_calls _).mono ?_
    rintro e w1 ⟨rfl, he⟩
    have E1 := Lib.hid he
    clear he
    go_wp2_with fail
    go_ret
    exact ⟨rfl, E1.out⟩
  have hn1 : (n : Int) ≤ 8192 := by omega
  clear hlong
  go_enter Try.func9, Try.ntmps9
  go_wp2_with fail
  refine (Read_calls HH.out (by have := HN.out; omega)).mono ?_
  rintro e w1 ⟨g, rfl, hg0, hg1, h1, h2⟩
  have D1 := Lib.hid h1
  have E1 := Lib.hid h2
  obtain ⟨r, hr⟩ : ∃ r, r = w1.heap.size := ⟨_, rfl⟩
  obtain ⟨w2, hw2⟩ : ∃ w2, w1.alloc (.cells #[.slice A n c, .int .i64 0, .int .i64 0] 63) = w2 := ⟨_, rfl⟩
  have hb2 : w2.heap[r]? = some (.cells #[.slice A n c, .int .i64 0, .int .i64 0] 63 (0, 0)) := by rw [← hw2, hr]; exact heap_alloc_new _ _
  have he2 : Ext Non w1 w2 := by rw [← hw2]; exact (Ext.refl Non w1).alloc _
  have hz2 : w2.heap.size = r + 1 := by rw [← hw2, hr]; simp
  have D2 := Lib.hid (D1.out.ext he2)
  have E2 := Lib.hid (E1.out.trans0 he2)
  have RR2 : Hid (RrAt w2 (fun k => k < w.heap.size) r bs 0 0) := ⟨_, hb2, HH.out.ext0 E2.out⟩
  have HW2 := Lib.hid hw2
  have HRE := Lib.hid hr
  have hgr : g < r := by omega
  have HZ2 := Lib.hid hz2
  clear h1 h2 hb2 he2 hw2 hr hz2
  go_wp2_with fail
  rw [← HRE.out, HW2.out]
  go_wp2_with fail
  refine (Get_calls D2.out (by omega) (fun k hk => by have := HZ2.out; omega) (by have := HZ2.out; omega)).mono ?_
  rintro e w3 ⟨hres, h1, h2⟩
  have D3 := Lib.hid h1
  have F3 := Lib.hid h2
  have RR3 := Lib.hid (RR2.out.far h2 (fun e => by have e1 : r = g := e; omega) (fun k hk _ e => by have e1 : k = g := e; omega))
  have E3 := Lib.hid (E2.out.trans h2 (fun i hi e => by have e1 : i = g := e; omega))
  have HEN := Lib.hid (ends bs)
  clear h1 h2
  rcases hres with ⟨hp, rfl⟩ | ⟨hp, q, rfl, hq0, hq1, hT⟩
  · have hrF : rOk bs = false := by
      rcases HEN.out with h | h
      · exact h.2
      · rw [hp] at h; cases h.1
    go_wp2_with fail
    refine (Take_calls RR3.out (by omega) (fun k hk => by have := E3.out.size; omega) (by have := F3.out.size; have := HZ2.out; omega)).mono ?_
    rintro e w4 ⟨hres, h1, h2⟩
    have E4 := Lib.hid (E3.out.trans h2 (fun i hi e => by have e1 : i = r := e; omega))
    clear h1 h2
    rcases hres with ⟨-, rfl⟩ | ⟨hx, -⟩
    · go_wp2_with fail
      refine (awake_calls _).mono ?_
      rintro e w5 ⟨rfl, he⟩
      have E5 := Lib.hid (E4.out.trans0 he)
      clear he
      go_wp2_with fail
      go_ret
      exact ⟨rfl, E5.out⟩
    · rw [hrF] at hx
      cases hx
  · have hend : rOk bs = true ∧ pTab bs = rTab bs ∧ (pEnd bs).at' = (rEnd bs).at' ∧ (pEnd bs).err = 0 ∧ (rEnd bs).err = 0 ∧ Good (pTab bs).seats (pTab bs).last ∧ Vals (pTab bs).seats ∧ bs.take (pEnd bs).at' = putB (pTab bs) := by
      rcases HEN.out with h | h
      · rw [hp] at h; cases h.1
      · exact h.2
    obtain ⟨hrT, hTab, hAt, hpe, hre, hGood, hVals, hBytes⟩ := hend
    have T3 := Lib.hid hT
    have HQ0 := Lib.hid hq0
    have HPL : Hid ((pEnd bs).at' ≤ bs.length) := (pAt_le bs _).1
    have G0 := Lib.hid hGood
    have V0 := Lib.hid hVals
    have HBY := Lib.hid hBytes
    have HTB := Lib.hid hTab
    have HAT := Lib.hid hAt
    have HRT := Lib.hid hrT
    clear HEN hT hpe hre hGood hVals hBytes hTab hAt hp hrT hq0
    go_wp2_with fail
    refine (Take_calls RR3.out (by omega) (fun k hk => by have := E3.out.size; omega) (by have := F3.out.size; have := HZ2.out; omega)).mono ?_
    rintro e w4 ⟨hres, h1, h2⟩
    rcases hres with ⟨hx, -⟩ | ⟨-, q2, rfl, hq2, hq3, hT2⟩
    · rw [HRT.out] at hx
      cases hx
    rw [← HTB.out] at hT2
    rw [← HAT.out] at h1
    have T4 := Lib.hid (T3.out.only h2 (by have := HQ0.out; have := HZ2.out; omega) (by have := HQ0.out; have := HZ2.out; omega))
    have D4 := Lib.hid (D3.out.far h2 (fun e => by have e1 : g = r := e; omega) (fun k hk _ e => by have e1 : k = r := e; omega))
    have RR4 := Lib.hid h1
    have E4 := Lib.hid (E3.out.trans h2 (fun i hi e => by have e1 : i = r := e; omega))
    have U4 := Lib.hid hT2
    obtain ⟨ap, hap⟩ : ∃ ap, (pEnd bs).at' = ap := ⟨_, rfl⟩
    obtain ⟨T, hT⟩ : ∃ T, pTab bs = T := ⟨_, rfl⟩
    obtain ⟨er, her⟩ : ∃ er, (pEnd bs).err = er := ⟨_, rfl⟩
    obtain ⟨er2, her2⟩ : ∃ er2, (rEnd bs).err = er2 := ⟨_, rfl⟩
    rw [hap] at D4 RR4 HPL HBY
    rw [hT] at T4 U4 G0 V0 HBY
    rw [her] at D4
    rw [her2] at RR4
    have hbne : bs ≠ [] := by
      rintro rfl
      have := HBY.out
      unfold putB at this
      have h2 := congrArg List.length this
      simp [numI, numB] at h2
    obtain ⟨gs, off, hA⟩ := rr_some HH.out hbne
    have few := G0.out.few
    obtain ⟨vs, hbs, hrs⟩ := U4.out
    obtain ⟨As, cs, rfl, hcs, hms⟩ := hrs.slice
    have u1 := blk_cell hbs 1
    simp at u1
    have US := Lib.hid hrs
    have hap1 : (ap : Int) ≤ (n : Int) := by have := HPL.out; have := HN.out; omega
    obtain ⟨lf, hlf⟩ : ∃ lf : Int, lf = ((bs.length - ap : Nat) : Int) := ⟨_, rfl⟩
    have hlf2 : wrap64 ((n : Int) - lf) = (ap : Int) := by have := HPL.out; have := HN.out; unfold wrap64; omega
    have hlf3 : IntKind.i64.wrap ((n : Int) - lf) = (ap : Int) := by rw [Last.i64_w]; exact hlf2
    have hapc : ¬ c < ap := by obtain ⟨_, _, he, hcc, _⟩ := HH.out.slice; simp only [Value.slice.injEq] at he; have := he.2.2; have := HPL.out; omega
    have HLF := Lib.hid hlf
    have cvB : ∀ W, Ext Non w W → (convert 52 9 (.slice A ap c)).run Try.prog W = .ok (.string ⟨([] ++ putB T).toArray⟩) W := fun W hW => by
      have h1 := (HH.out.ext0 hW).take (k := ap) HPL.out
      rw [HBY.out] at h1
      exact conv_rd h1
    have HCV := Lib.hid cvB
    subst hA
    clear h1 h2 hT2 hap hT her her2 hbne hrs hbs hcs hms cvB hlf HBY HTB HAT HRT D3 RR3 T3 D2 RR2 D1
    go_upto_region 8 with fail
    refine Last.start_ (S := fun W => W.cell? ⟨q2, 1, none⟩ = some (.slice As T.seats.length cs)) (ds := []) #[false, false, false, false, false, false, false, false, false, false, false, false, false, false, false, false, false, false, false, false, false, false, false, false, false, false, false, false, false, false, false, false] (by kernel_rfl) (by rfl) (by rfl) (by go_simp) (fun hS => ?_)
    refine Last.take_ (i := 0) (N := some 44) (v := .pointer (some ⟨g, 0, none⟩)) #[true, false, false, false, false, false, false, false, false, false, false, false, false, false, false, false, false, false, false, false, false, false, false, false, false, false, false, false, false, false, false, false] (by simp only [List.getElem?_toArray, List.getElem?_cons_zero]; rfl) rfl (by kernel_rfl) (by exact fun _ _ _ h => h) (Or.inl ⟨by rfl, fun W hW => by first | rfl | (try dsimp only at hW); go_simp⟩) hS rfl ?_
    simp only [Act.put, List.setIfInBounds_toArray, List.set_cons_zero, List.set_cons_succ]
    refine Last.take_ (i := 2) (N := some 46) (v := .pointer (some ⟨r, 0, none⟩)) #[true, false, true, false, false, false, false, false, false, false, false, false, false, false, false, false, false, false, false, false, false, false, false, false, false, false, false, false, false, false, false, false] (by simp only [List.getElem?_toArray, List.getElem?_cons_zero, List.getElem?_cons_succ]; rfl) rfl (by kernel_rfl) (by exact fun _ _ _ h => h) (Or.inl ⟨by rfl, fun W hW => by first | rfl | (try dsimp only at hW); go_simp⟩) hS rfl ?_
    simp only [Act.put, List.setIfInBounds_toArray, List.set_cons_zero, List.set_cons_succ]
    have N4 : Hid (Ext Non w4 w4.drew) := (Ext.refl _ _).drew
    refine Last.one_ (i := 1) (N := some 45) #[true, true, true, false, false, false, false, false, false, false, false, false, false, false, false, false, false, false, false, false, false, false, false, false, false, false, false, false, false, false, false, false] (by simp only [List.getElem?_toArray, List.getElem?_cons_zero, List.getElem?_cons_succ]; rfl) rfl (by kernel_rfl) (by decide) (fun K hK => ?_)
    refine Last.goes_ Try.func32 (by kernel_rfl) rfl #[.pointer (some ⟨g, 0, none⟩)] (by rfl) rfl rfl (by simp [Act.eval]) ?_
    refine (Left_calls (D4.out.ext N4.out) HPL.out).mono ?_
    rw [← HLF.out]
    rintro e w5 ⟨rfl, he⟩
    have N5 := Lib.hid (N4.out.trans0 he)
    clear he
    refine ⟨_, rfl, ?_⟩
    refine hK.out _ _ (N5.out.cell u1 (fun e => e)) (fun hS => ?_)
    try simp only [Act.put, List.setIfInBounds_toArray, List.set_cons_zero, List.set_cons_succ]
    refine Last.one_ (i := 3) (N := some 47) #[true, true, true, true, false, false, false, false, false, false, false, false, false, false, false, false, false, false, false, false, false, false, false, false, false, false, false, false, false, false, false, false] (by simp only [List.getElem?_toArray, List.getElem?_cons_zero, List.getElem?_cons_succ]; rfl) rfl (by kernel_rfl) (by decide) (fun K hK => ?_)
    refine Last.goes_ Try.func33 (by kernel_rfl) rfl #[.pointer (some ⟨r, 0, none⟩)] (by rfl) rfl rfl (by simp [Act.eval]) ?_
    refine (RrLeft_calls (RR4.out.ext N5.out) HPL.out).mono ?_
    rw [← HLF.out]
    rintro e w6 ⟨rfl, he⟩
    have N6 := Lib.hid (N5.out.trans0 he)
    clear he
    refine ⟨_, rfl, ?_⟩
    refine hK.out _ _ (N6.out.cell u1 (fun e => e)) (fun hS => ?_)
    try simp only [Act.put, List.setIfInBounds_toArray, List.set_cons_zero, List.set_cons_succ]
    refine Last.take_ (i := 4) (N := some 48) (v := .bool true) #[true, true, true, true, true, false, false, false, false, false, false, false, false, false, false, false, false, false, false, false, false, false, false, false, false, false, false, false, false, false, false, false] (by simp only [List.getElem?_toArray, List.getElem?_cons_zero, List.getElem?_cons_succ]; rfl) rfl (by kernel_rfl) (by exact fun _ _ _ h => h) (Or.inl ⟨by rfl, fun W hW => by first | rfl | (try dsimp only at hW); go_simp⟩) hS rfl ?_
    simp only [Act.put, List.setIfInBounds_toArray, List.set_cons_zero, List.set_cons_succ]
    refine Last.take_ (i := 5) (N := some 49) (v := .bool true) #[true, true, true, true, true, true, false, false, false, false, false, false, false, false, false, false, false, false, false, false, false, false, false, false, false, false, false, false, false, false, false, false] (by simp only [List.getElem?_toArray, List.getElem?_cons_zero, List.getElem?_cons_succ]; rfl) rfl (by kernel_rfl) (by exact fun _ _ _ h => h) (Or.inl ⟨by rfl, fun W hW => by first | rfl | (try dsimp only at hW); go_simp⟩) hS rfl ?_
    simp only [Act.put, List.setIfInBounds_toArray, List.set_cons_zero, List.set_cons_succ]
    refine Last.take_ (i := 6) (N := some 50) (v := .pointer (some ⟨q, 0, none⟩)) #[true, true, true, true, true, true, true, false, false, false, false, false, false, false, false, false, false, false, false, false, false, false, false, false, false, false, false, false, false, false, false, false] (by simp only [List.getElem?_toArray, List.getElem?_cons_zero, List.getElem?_cons_succ]; rfl) rfl (by kernel_rfl) (by exact fun _ _ _ h => h) (Or.inl ⟨by rfl, fun W hW => by first | rfl | (try dsimp only at hW); go_simp⟩) hS rfl ?_
    simp only [Act.put, List.setIfInBounds_toArray, List.set_cons_zero, List.set_cons_succ]
    refine Last.take_ (i := 8) (N := some 52) (v := .pointer (some ⟨q2, 0, none⟩)) #[true, true, true, true, true, true, true, false, true, false, false, false, false, false, false, false, false, false, false, false, false, false, false, false, false, false, false, false, false, false, false, false] (by simp only [List.getElem?_toArray, List.getElem?_cons_zero, List.getElem?_cons_succ]; rfl) rfl (by kernel_rfl) (by exact fun _ _ _ h => h) (Or.inl ⟨by rfl, fun W hW => by first | rfl | (try dsimp only at hW); go_simp⟩) hS rfl ?_
    simp only [Act.put, List.setIfInBounds_toArray, List.set_cons_zero, List.set_cons_succ]
    refine Last.take_ (i := 9) (N := some 53) (v := .pointer (some ⟨q2, 0, none⟩)) #[true, true, true, true, true, true, true, false, true, true, false, false, false, false, false, false, false, false, false, false, false, false, false, false, false, false, false, false, false, false, false, false] (by simp only [List.getElem?_toArray, List.getElem?_cons_zero, List.getElem?_cons_succ]; rfl) rfl (by kernel_rfl) (by exact fun _ _ _ h => h) (Or.inl ⟨by rfl, fun W hW => by first | rfl | (try dsimp only at hW); go_simp⟩) hS rfl ?_
    simp only [Act.put, List.setIfInBounds_toArray, List.set_cons_zero, List.set_cons_succ]
    refine Last.take_ (i := 10) (N := some 54) (v := .pointer (some ⟨q2, 1, none⟩)) #[true, true, true, true, true, true, true, false, true, true, true, false, false, false, false, false, false, false, false, false, false, false, false, false, false, false, false, false, false, false, false, false] (by simp only [List.getElem?_toArray, List.getElem?_cons_zero, List.getElem?_cons_succ]; rfl) rfl (by kernel_rfl) (by exact fun _ _ _ h => h) (Or.inl ⟨by rfl, fun W hW => by first | rfl | (try dsimp only at hW); go_simp⟩) hS rfl ?_
    simp only [Act.put, List.setIfInBounds_toArray, List.set_cons_zero, List.set_cons_succ]
    refine Last.take_ (i := 11) (N := some 55) (v := .slice As T.seats.length cs) #[true, true, true, true, true, true, true, false, true, true, true, true, false, false, false, false, false, false, false, false, false, false, false, false, false, false, false, false, false, false, false, false] (by simp only [List.getElem?_toArray, List.getElem?_cons_zero, List.getElem?_cons_succ]; rfl) rfl (by kernel_rfl) (by exact fun _ _ _ h => h) (Or.inl ⟨by rfl, fun W hW => by first | rfl | (try dsimp only at hW); go_simp⟩) hS rfl ?_
    simp only [Act.put, List.setIfInBounds_toArray, List.set_cons_zero, List.set_cons_succ]
    refine Last.one_ (i := 7) (N := some 51) #[true, true, true, true, true, true, true, true, true, true, true, true, false, false, false, false, false, false, false, false, false, false, false, false, false, false, false, false, false, false, false, false] (by simp only [List.getElem?_toArray, List.getElem?_cons_zero, List.getElem?_cons_succ]; rfl) rfl (by kernel_rfl) (by decide) (fun K hK => ?_)
    refine Last.goes_ Try.func23 (by kernel_rfl) rfl #[.pointer (some ⟨q, 0, none⟩)] (by rfl) rfl rfl (by simp [Act.eval]) ?_
    refine (List_calls (ok := fun _ => True) (t := T) (g := q) (by obtain ⟨v, hb, hr⟩ := T4.out.ext N6.out; exact ⟨v, hb, hr.mono (fun _ _ => trivial)⟩) few (fun _ _ => trivial)).mono ?_
    rintro e w7 ⟨v7, rfl, h3, h4⟩
    obtain ⟨A7, c7, rfl, hc7, hm7⟩ := h3.slice
    have O7 := Lib.hid h3
    have N7 := Lib.hid (N6.out.trans0 h4)
    clear h3 h4 hc7 hm7
    refine ⟨_, rfl, ?_⟩
    refine hK.out _ _ (N7.out.cell u1 (fun e => e)) (fun hS => ?_)
    try simp only [Act.put, List.setIfInBounds_toArray, List.set_cons_zero, List.set_cons_succ]
    refine Last.one_ (i := 12) (N := some 56) #[true, true, true, true, true, true, true, true, true, true, true, true, true, false, false, false, false, false, false, false, false, false, false, false, false, false, false, false, false, false, false, false] (by simp only [List.getElem?_toArray, List.getElem?_cons_zero, List.getElem?_cons_succ]; rfl) rfl (by kernel_rfl) (by decide) (fun K hK => ?_)
    refine Last.goes_ Try.func24 (by kernel_rfl) rfl #[.slice A7 T.seats.length c7, .slice As T.seats.length cs] (by rfl) rfl rfl (by simp [Act.eval]) ?_
    refine (Same_eq O7.out.rd (US.out.ext0 N7.out) few).mono ?_
    rintro e w8 ⟨rfl, h4⟩
    have N8 := Lib.hid (N7.out.trans0 h4)
    clear h4
    refine ⟨_, rfl, ?_⟩
    refine hK.out _ _ (N8.out.cell u1 (fun e => e)) (fun hS => ?_)
    try simp only [Act.put, List.setIfInBounds_toArray, List.set_cons_zero, List.set_cons_succ]
    refine Last.take_ (i := 13) (N := some 57) (v := .bool true) #[true, true, true, true, true, true, true, true, true, true, true, true, true, true, false, false, false, false, false, false, false, false, false, false, false, false, false, false, false, false, false, false] (by simp only [List.getElem?_toArray, List.getElem?_cons_zero, List.getElem?_cons_succ]; rfl) rfl (by kernel_rfl) (by exact fun _ _ _ h => h) (Or.inl ⟨by rfl, fun W hW => by first | rfl | (try dsimp only at hW); go_simp⟩) hS rfl ?_
    simp only [Act.put, List.setIfInBounds_toArray, List.set_cons_zero, List.set_cons_succ]
    refine Last.take_ (i := 14) (N := some 58) (v := .bool true) #[true, true, true, true, true, true, true, true, true, true, true, true, true, true, true, false, false, false, false, false, false, false, false, false, false, false, false, false, false, false, false, false] (by simp only [List.getElem?_toArray, List.getElem?_cons_zero, List.getElem?_cons_succ]; rfl) rfl (by kernel_rfl) (by exact fun _ _ _ h => h) (Or.inl ⟨by rfl, fun W hW => by first | rfl | (try dsimp only at hW); go_simp⟩) hS rfl ?_
    simp only [Act.put, List.setIfInBounds_toArray, List.set_cons_zero, List.set_cons_succ]
    refine Last.take_ (i := 15) (N := some 59) (v := .pointer (some ⟨q, 0, none⟩)) #[true, true, true, true, true, true, true, true, true, true, true, true, true, true, true, true, false, false, false, false, false, false, false, false, false, false, false, false, false, false, false, false] (by simp only [List.getElem?_toArray, List.getElem?_cons_zero, List.getElem?_cons_succ]; rfl) rfl (by kernel_rfl) (by exact fun _ _ _ h => h) (Or.inl ⟨by rfl, fun W hW => by first | rfl | (try dsimp only at hW); go_simp⟩) hS rfl ?_
    simp only [Act.put, List.setIfInBounds_toArray, List.set_cons_zero, List.set_cons_succ]
    refine Last.take_ (i := 18) (N := some 62) (v := .slice (some ⟨gs, off, none⟩) n c) #[true, true, true, true, true, true, true, true, true, true, true, true, true, true, true, true, false, false, true, false, false, false, false, false, false, false, false, false, false, false, false, false] (by simp only [List.getElem?_toArray, List.getElem?_cons_zero, List.getElem?_cons_succ]; rfl) rfl (by kernel_rfl) (by exact fun _ _ _ h => h) (Or.inl ⟨by rfl, fun W hW => by first | rfl | (try dsimp only at hW); go_simp⟩) hS rfl ?_
    simp only [Act.put, List.setIfInBounds_toArray, List.set_cons_zero, List.set_cons_succ]
    refine Last.take_ (i := 19) (N := some 63) (v := .slice (some ⟨gs, off, none⟩) n c) #[true, true, true, true, true, true, true, true, true, true, true, true, true, true, true, true, false, false, true, true, false, false, false, false, false, false, false, false, false, false, false, false] (by simp only [List.getElem?_toArray, List.getElem?_cons_zero, List.getElem?_cons_succ]; rfl) rfl (by kernel_rfl) (by exact fun _ _ _ h => h) (Or.inl ⟨by rfl, fun W hW => by first | rfl | (try dsimp only at hW); go_simp⟩) hS rfl ?_
    simp only [Act.put, List.setIfInBounds_toArray, List.set_cons_zero, List.set_cons_succ]
    refine Last.take_ (i := 20) (N := some 64) (v := .int .i64 (n : Int)) #[true, true, true, true, true, true, true, true, true, true, true, true, true, true, true, true, false, false, true, true, true, false, false, false, false, false, false, false, false, false, false, false] (by simp only [List.getElem?_toArray, List.getElem?_cons_zero, List.getElem?_cons_succ]; rfl) rfl (by kernel_rfl) (by exact fun _ _ _ h => h) (Or.inl ⟨by rfl, fun W hW => by first | rfl | (try dsimp only at hW); go_simp⟩) hS rfl ?_
    simp only [Act.put, List.setIfInBounds_toArray, List.set_cons_zero, List.set_cons_succ]
    refine Last.take_ (i := 21) (N := some 65) (v := .pointer (some ⟨g, 0, none⟩)) #[true, true, true, true, true, true, true, true, true, true, true, true, true, true, true, true, false, false, true, true, true, true, false, false, false, false, false, false, false, false, false, false] (by simp only [List.getElem?_toArray, List.getElem?_cons_zero, List.getElem?_cons_succ]; rfl) rfl (by kernel_rfl) (by exact fun _ _ _ h => h) (Or.inl ⟨by rfl, fun W hW => by first | rfl | (try dsimp only at hW); go_simp⟩) hS rfl ?_
    simp only [Act.put, List.setIfInBounds_toArray, List.set_cons_zero, List.set_cons_succ]
    refine Last.one_ (i := 16) (N := some 60) #[true, true, true, true, true, true, true, true, true, true, true, true, true, true, true, true, true, false, true, true, true, true, false, false, false, false, false, false, false, false, false, false] (by simp only [List.getElem?_toArray, List.getElem?_cons_zero, List.getElem?_cons_succ]; rfl) rfl (by kernel_rfl) (by decide) (fun K hK => ?_)
    refine Last.goes_ Try.func27 (by kernel_rfl) rfl #[.pointer (some ⟨q, 0, none⟩), .slice none 0 0] (by rfl) rfl rfl (by simp [Act.eval]) ?_
    refine (Put_calls (ok := fun _ => True) (t := T) (g := q) (bs := []) (by obtain ⟨v, hb, hr⟩ := T4.out.ext N8.out; exact ⟨v, hb, hr.mono (fun _ _ => trivial)⟩) G0.out V0.out (Rd.nil _ _ _) (by simp) (fun _ _ => trivial)).mono ?_
    rintro e w9 ⟨v9, rfl, h3, h4⟩
    obtain ⟨A9, n9, c9, rfl, hn9⟩ := rd_abs8 h3
    have cv9 := conv_rd h3
    have R9 := Lib.hid h3
    have N9 := Lib.hid (N8.out.trans0 h4)
    clear h3 h4 hn9
    refine ⟨_, rfl, ?_⟩
    refine hK.out _ _ (N9.out.cell u1 (fun e => e)) (fun hS => ?_)
    try simp only [Act.put, List.setIfInBounds_toArray, List.set_cons_zero, List.set_cons_succ]
    refine strong_ (S2 := fun W => (convert 52 9 (.slice A9 n9 c9)).run Try.prog W = .ok (.string ⟨([] ++ putB T).toArray⟩) W ∧ W.cell? ⟨q2, 1, none⟩ = some (.slice As T.seats.length cs)) ⟨cv9, N9.out.cell u1 (fun e => e)⟩ (fun _ h => h.2) ?_
    clear hS
    have hS := And.intro cv9 (N9.out.cell u1 (fun e => e))
    refine Last.take_ (i := 17) (N := some 61) (v := .string ⟨([] ++ putB T).toArray⟩) #[true, true, true, true, true, true, true, true, true, true, true, true, true, true, true, true, true, true, true, true, true, true, false, false, false, false, false, false, false, false, false, false] (by simp only [List.getElem?_toArray, List.getElem?_cons_zero, List.getElem?_cons_succ]; rfl) rfl (by kernel_rfl) (by exact fun _ _ _ h => h) (Or.inl ⟨by rfl, fun W hW => by have hW := hW.1; first | exact hW | rfl | go_simp⟩) hS rfl ?_
    simp only [Act.put, List.setIfInBounds_toArray, List.set_cons_zero, List.set_cons_succ]
    refine Last.one_ (i := 22) (N := some 66) #[true, true, true, true, true, true, true, true, true, true, true, true, true, true, true, true, true, true, true, true, true, true, true, false, false, false, false, false, false, false, false, false] (by simp only [List.getElem?_toArray, List.getElem?_cons_zero, List.getElem?_cons_succ]; rfl) rfl (by kernel_rfl) (by decide) (fun K hK => ?_)
    refine Last.goes_ Try.func32 (by kernel_rfl) rfl #[.pointer (some ⟨g, 0, none⟩)] (by rfl) rfl rfl (by simp [Act.eval]) ?_
    refine (Left_calls (D4.out.ext N9.out) HPL.out).mono ?_
    rw [← HLF.out]
    rintro e w10 ⟨rfl, he⟩
    have N10 := Lib.hid (N9.out.trans0 he)
    have cv9 := conv_rd (R9.out.ext0 he)
    have R10 := Lib.hid (R9.out.ext0 he)
    have cvA := HCV.out _ (E4.out.trans0 N10.out)
    clear he
    refine ⟨_, rfl, ?_⟩
    refine hK.out _ _ (⟨cv9, N10.out.cell u1 (fun e => e)⟩) (fun hS => ?_)
    try simp only [Act.put, List.setIfInBounds_toArray, List.set_cons_zero, List.set_cons_succ]
    refine strong_ (S2 := fun W => (convert 52 9 (.slice (some ⟨gs, off, none⟩) ap c)).run Try.prog W = .ok (.string ⟨([] ++ putB T).toArray⟩) W ∧ (convert 52 9 (.slice A9 n9 c9)).run Try.prog W = .ok (.string ⟨([] ++ putB T).toArray⟩) W ∧ W.cell? ⟨q2, 1, none⟩ = some (.slice As T.seats.length cs)) ⟨cvA, cv9, N10.out.cell u1 (fun e => e)⟩ (fun _ h => h.2) ?_
    clear hS
    have hS := And.intro cvA (And.intro cv9 (N10.out.cell u1 (fun e => e)))
    refine Last.take_ (i := 23) (N := some 67) (v := .int .i64 (ap : Int)) #[true, true, true, true, true, true, true, true, true, true, true, true, true, true, true, true, true, true, true, true, true, true, true, true, false, false, false, false, false, false, false, false] (by simp only [List.getElem?_toArray, List.getElem?_cons_zero, List.getElem?_cons_succ]; rfl) rfl (by kernel_rfl) (by exact fun _ _ _ h => h) (Or.inl ⟨by rfl, fun W hW => by first | (go_simp; done) | (go_simp; exact hlf3)⟩) hS rfl ?_
    simp only [Act.put, List.setIfInBounds_toArray, List.set_cons_zero, List.set_cons_succ]
    refine Last.take_ (i := 24) (N := some 68) (v := .slice (some ⟨gs, off, none⟩) ap c) #[true, true, true, true, true, true, true, true, true, true, true, true, true, true, true, true, true, true, true, true, true, true, true, true, true, false, false, false, false, false, false, false] (by simp only [List.getElem?_toArray, List.getElem?_cons_zero, List.getElem?_cons_succ]; rfl) rfl (by kernel_rfl) (by exact fun _ _ _ h => h) (Or.inl ⟨by rfl, fun W hW => by first | rfl | (try dsimp only at hW); go_simp⟩) hS rfl ?_
    simp only [Act.put, List.setIfInBounds_toArray, List.set_cons_zero, List.set_cons_succ]
    refine Last.take_ (i := 25) (N := some 69) (v := .string ⟨([] ++ putB T).toArray⟩) #[true, true, true, true, true, true, true, true, true, true, true, true, true, true, true, true, true, true, true, true, true, true, true, true, true, true, false, false, false, false, false, false] (by simp only [List.getElem?_toArray, List.getElem?_cons_zero, List.getElem?_cons_succ]; rfl) rfl (by kernel_rfl) (by exact fun _ _ _ h => h) (Or.inl ⟨by rfl, fun W hW => by have hW := hW.1; first | exact hW | rfl | go_simp⟩) hS rfl ?_
    simp only [Act.put, List.setIfInBounds_toArray, List.set_cons_zero, List.set_cons_succ]
    refine Last.take_ (i := 26) (N := some 70) (v := .bool true) #[true, true, true, true, true, true, true, true, true, true, true, true, true, true, true, true, true, true, true, true, true, true, true, true, true, true, true, false, false, false, false, false] (by simp only [List.getElem?_toArray, List.getElem?_cons_zero, List.getElem?_cons_succ]; rfl) rfl (by kernel_rfl) (by exact fun _ _ _ h => h) (Or.inl ⟨by rfl, fun W hW => by first | rfl | (try dsimp only at hW); go_simp⟩) hS rfl ?_
    simp only [Act.put, List.setIfInBounds_toArray, List.set_cons_zero, List.set_cons_succ]
    refine Last.take_ (i := 27) (N := some 71) (v := .bool true) #[true, true, true, true, true, true, true, true, true, true, true, true, true, true, true, true, true, true, true, true, true, true, true, true, true, true, true, true, false, false, false, false] (by simp only [List.getElem?_toArray, List.getElem?_cons_zero, List.getElem?_cons_succ]; rfl) rfl (by kernel_rfl) (by exact fun _ _ _ h => h) (Or.inl ⟨by rfl, fun W hW => by first | rfl | (try dsimp only at hW); go_simp⟩) hS rfl ?_
    simp only [Act.put, List.setIfInBounds_toArray, List.set_cons_zero, List.set_cons_succ]
    refine Last.take_ (i := 28) (N := some 72) (v := .bool true) #[true, true, true, true, true, true, true, true, true, true, true, true, true, true, true, true, true, true, true, true, true, true, true, true, true, true, true, true, true, false, false, false] (by simp only [List.getElem?_toArray, List.getElem?_cons_zero, List.getElem?_cons_succ]; rfl) rfl (by kernel_rfl) (by exact fun _ _ _ h => h) (Or.inl ⟨by rfl, fun W hW => by first | rfl | (try dsimp only at hW); go_simp⟩) hS rfl ?_
    simp only [Act.put, List.setIfInBounds_toArray, List.set_cons_zero, List.set_cons_succ]
    refine Last.one_ (i := 29) (N := some 73) #[true, true, true, true, true, true, true, true, true, true, true, true, true, true, true, true, true, true, true, true, true, true, true, true, true, true, true, true, true, true, false, false] (by simp only [List.getElem?_toArray, List.getElem?_cons_zero, List.getElem?_cons_succ]; rfl) rfl (by kernel_rfl) (by decide) (fun K hK => ?_)
    refine Last.goes_ Try.func11 (by kernel_rfl) rfl #[] (by rfl) rfl rfl (by simp) ?_
    refine (awake_calls _).mono ?_
    rintro e w11 ⟨rfl, h4⟩
    have N11 := Lib.hid (N10.out.trans0 h4)
    have E9 := Lib.hid (E4.out.trans0 N11.out)
    have cv9 := conv_rd (R10.out.ext0 h4)
    have cvA := HCV.out _ E9.out
    clear h4
    refine ⟨_, rfl, ?_⟩
    refine hK.out _ _ ⟨cvA, cv9, N11.out.cell u1 (fun e => e)⟩ (fun hS => ?_)
    try simp only [Act.put, List.setIfInBounds_toArray, List.set_cons_zero, List.set_cons_succ]
    refine Last.take_ (i := 30) (N := some 74) (v := .bool true) #[true, true, true, true, true, true, true, true, true, true, true, true, true, true, true, true, true, true, true, true, true, true, true, true, true, true, true, true, true, true, true, false] (by simp only [List.getElem?_toArray, List.getElem?_cons_zero, List.getElem?_cons_succ]; rfl) rfl (by kernel_rfl) (by exact fun _ _ _ h => h) (Or.inl ⟨by rfl, fun W hW => by first | rfl | (try dsimp only at hW); go_simp⟩) hS rfl ?_
    simp only [Act.put, List.setIfInBounds_toArray, List.set_cons_zero, List.set_cons_succ]
    refine Last.take_ (i := 31) (N := some 2) (v := .bool true) #[true, true, true, true, true, true, true, true, true, true, true, true, true, true, true, true, true, true, true, true, true, true, true, true, true, true, true, true, true, true, true, true] (by simp only [List.getElem?_toArray, List.getElem?_cons_zero, List.getElem?_cons_succ]; rfl) rfl (by kernel_rfl) (by exact fun _ _ _ h => h) (Or.inl ⟨by rfl, fun W hW => by first | rfl | (try dsimp only at hW); go_simp⟩) hS rfl ?_
    simp only [Act.put, List.setIfInBounds_toArray, List.set_cons_zero, List.set_cons_succ]
    refine Last.done_ (by kernel_rfl) ?_
    go_wp2_with fail
    go_ret
    exact ⟨rfl, E9.out⟩
end Go.Proofs.Ytiebnjkjgobklaa
