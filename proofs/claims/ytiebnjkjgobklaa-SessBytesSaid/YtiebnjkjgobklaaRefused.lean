/- Sessions: SessRefused. -/
import Derived.Test.YtiebnjkjgobklaaB8
import Derived.Test.YtiebnjkjgobklaaNobody
import Derived.Test.YtiebnjkjgobklaaL
namespace Go.Proofs.Ytiebnjkjgobklaa
open Go.RowKit Go.TM

theorem strong_ {P : Program} {ops : Array Oper} {Q : Exit → Act → World → Prop} {md : Region.Mode} {S1 S2 : World → Prop} : ∀ {fuel : Nat} {l : Array Bool} {a : Act} {w : World}, S2 w → (∀ w, S2 w → S1 w) → Last.wpAnyLast P md ops Q S2 [] fuel l a w → Last.wpAnyLast P md ops Q S1 [] fuel l a w
  | 0, _, _, _, _, _, h => h
  | _ + 1, _, _, _, hS, himp, h => ⟨h.1, fun i hi => wpOp_mono (fun _ _ h' => ⟨fun _ _ => himp _ (h'.1 (by simp) hS), strong_ (h'.1 (by simp) hS) himp h'.2⟩) (h.2 i hi)⟩
theorem own_abs8 {w : World} {base : Nat} {ok : Nat → Prop} {v : Value} {xs : List UInt8} (h : Own Kd.u8 5 w base ok v xs) : ∃ A n c, v = .slice A n c ∧ n = xs.length := by
  obtain ⟨A, c, h1, _, _⟩ := h.slice
  exact ⟨A, _, c, h1, rfl⟩
theorem rd_abs8 {w : World} {ok : Nat → Prop} {v : Value} {xs : List UInt8} (h : Rd Kd.u8 w ok v xs) : ∃ A n c, v = .slice A n c ∧ n = xs.length := by
  obtain ⟨A, c, h1, _, _⟩ := h.slice
  exact ⟨A, _, c, h1, rfl⟩
set_option maxHeartbeats 4000000 in
set_option maxRecDepth 100000 in
theorem refused_calls {w : World} {ok : Nat → Prop} {A : Option Addr} {c : Nat} {l : List Do} (H : Rd doK w ok (.slice A l.length c) l) (hl : ∀ k ∈ l, k.ok) (x : Do) (hx : x.ok) :
    Calls Try.prog 8 #[.slice A l.length c, .agg #[.int .i64 x.op, .int .i64 x.ses, .int .i64 x.seq, .int .i64 x.err, .int .i64 x.n]] w fun e w' => e = .returned (.bool true) ∧ Ext Non w w' := by
  have HH := Lib.hid H
  have HL := Lib.hid hl
  have HX := Lib.hid hx
  clear H hl hx
  go_enter Try.func8, Try.ntmps8
  go_wp2_with (first | (go_at_call 11; refine (awake_calls _).mono ?_; rintro e w1 ⟨rfl, he⟩; have HE := Lib.hid (((Ext.refl Non w).alloc _).trans0 he); clear he) | fail)
  · go_ret
    exact ⟨rfl, HE.out⟩
  refine (made_calls (HH.out.ext0 ((Ext.refl Non w).alloc _)) HL.out).mono ?_
  rintro e w1 ⟨g, rfl, hg0, hg1, hT, hE⟩
  have b3 := hE.obj (heap_alloc_new w _) (fun e => e)
  have T1 := Lib.hid hT
  have E1 : Hid (Ext Non w w1) := ((Ext.refl Non w).alloc _).trans0 hE
  have B1 := Lib.hid b3
  simp at hg0
  clear hT hE b3
  go_wp2_with fail
  refine (made_calls (HH.out.ext0 E1.out) HL.out).mono ?_
  rintro e w2 ⟨r, rfl, hr0, hr1, hT, hE⟩
  have b3 := hE.obj B1.out (fun e => e)
  have e0 := blk_cell b3 0
  have e1 := blk_cell b3 1
  have e2 := blk_cell b3 2
  have e3 := blk_cell b3 3
  have e4 := blk_cell b3 4
  have hl3 := blk_lt b3
  simp at e0 e1 e2 e3 e4
  have T2 := Lib.hid (T1.out.ext hE)
  have R2 := Lib.hid hT
  have E2 := Lib.hid (E1.out.trans0 hE)
  have z2 := hE.size
  clear hT hE b3
  have hG := Lib.hid (Good.run l HL.out)
  have hV := Lib.hid (Vals.run l HL.out)
  go_wp2_with fail
  refine (does_calls (ok := Mine (w.alloc (.cells #[.int .i64 x.op, .int .i64 x.ses, .int .i64 x.seq, .int .i64 x.err, .int .i64 x.n] 27)).heap.size g) T2.out hG.out x HX.out (fun k hk => ⟨by simp; omega, by omega⟩) (fun h => h.2 rfl)).mono ?_
  rintro e w3 ⟨rfl, h3, h4⟩
  have f0 := h4.cell (p := ⟨w.heap.size, 0, none⟩) e0 (by show ¬ (w.heap.size = g); omega)
  have R3 := Lib.hid (R2.out.only h4 (fun h => by have := h.1; omega) (by omega))
  have T3 := Lib.hid h3
  have E3 : Hid (Ext Non w w3) := E2.out.trans h4 (fun i hi e => by
    have e' : i = g := e
    omega)
  have z3 := h4.size
  clear h3 h4 e0 e1 e2 e3 e4
  by_cases hc : (step (run l) x).1 = 0 ∧ x.kind ≠ 3
  · have h1 : ((step (run l) x).1 == 0) = true := by simpa using hc.1
    have h2 : (x.kind != 3) = true := by simpa using hc.2
    unfold Do.kind at h2
    clear hc
    go_wp2_with (first | (go_at_call 11; refine (awake_calls _).mono ?_; rintro e w4 ⟨rfl, he⟩; have HE := Lib.hid he; clear he) | fail)
    go_ret
    exact ⟨rfl, E3.out.trans0 HE.out⟩
  · have hs : (step (run l) x).2 = run l := step_same (by
      by_cases h : (step (run l) x).1 = 0
      · exact .inr (Classical.byContradiction fun h3 => hc ⟨h, h3⟩)
      · exact .inl h)
    have T4 : Hid (TabAt w3 (Mine (w.alloc (.cells #[.int .i64 x.op, .int .i64 x.ses, .int .i64 x.seq, .int .i64 x.err, .int .i64 x.n] 27)).heap.size g) g (run l)) := by rw [← hs]; exact T3.out
    have h12 : ((step (run l) x).1 == 0) = false ∨ (((step (run l) x).1 == 0) = true ∧ (x.kind != 3) = false) := by
      by_cases h : (step (run l) x).1 = 0
      · exact .inr ⟨by simpa using h, by simpa using Classical.byContradiction fun h3 => hc ⟨h, h3⟩⟩
      · exact .inl (by simpa using h)
    clear hc hs T3
    unfold Do.kind at h12
    rcases h12 with h1 | ⟨h1, h2⟩
    all_goals
      go_wp2_with fail
      have few := hG.out.few
      have nil8 : Hid (Rd Kd.u8 w3.drew (fun _ => True) (.slice none ([] : List UInt8).length 0) []) := Rd.nil _ _ _
      have D3 : Hid (Ext Non w3 w3.drew) := Ext.drew (Ext.refl _ _)
      refine Last.start_ (S := fun _ => True) (ds := []) #[false, false, false, false, false, false, false, false, false, false, false, false, false, false, false, false, false, false] (by kernel_rfl) (by rfl) (by rfl) trivial (fun hS => ?_)
      refine Last.take_ (i := 0) (N := some 26) (v := .pointer (some ⟨g, 0, none⟩)) #[true, false, false, false, false, false, false, false, false, false, false, false, false, false, false, false, false, false] (by simp only [List.getElem?_toArray, List.getElem?_cons_zero]; rfl) rfl (by kernel_rfl) (by exact fun _ _ _ h => h) (Or.inl ⟨by rfl, fun W hW => by first | rfl | (try dsimp only at hW); go_simp⟩) hS rfl ?_
      simp only [Act.put, List.setIfInBounds_toArray, List.set_cons_zero, List.set_cons_succ]
      refine Last.take_ (i := 2) (N := some 28) (v := .pointer (some ⟨r, 0, none⟩)) #[true, false, true, false, false, false, false, false, false, false, false, false, false, false, false, false, false, false] (by simp only [List.getElem?_toArray, List.getElem?_cons_zero, List.getElem?_cons_succ]; rfl) rfl (by kernel_rfl) (by exact fun _ _ _ h => h) (Or.inl ⟨by rfl, fun W hW => by first | rfl | (try dsimp only at hW); go_simp⟩) hS rfl ?_
      simp only [Act.put, List.setIfInBounds_toArray, List.set_cons_zero, List.set_cons_succ]
      refine Last.one_ (i := 1) (N := some 27) #[true, true, true, false, false, false, false, false, false, false, false, false, false, false, false, false, false, false] (by simp only [List.getElem?_toArray, List.getElem?_cons_zero, List.getElem?_cons_succ]; rfl) rfl (by kernel_rfl) (by decide) (fun K hK => ?_)
      refine Last.goes_ Try.func23 (by kernel_rfl) rfl #[.pointer (some ⟨g, 0, none⟩)] (by rfl) rfl rfl (by simp [Act.eval]) ?_
      refine (List_calls (ok := fun _ => True) (t := run l) (g := g) (by obtain ⟨v, hb, hr⟩ := T4.out.ext D3.out; exact ⟨v, hb, hr.mono (fun _ _ => trivial)⟩) few (fun _ _ => trivial)).mono ?_
      rintro e w4 ⟨v4, rfl, h3, h4⟩
      obtain ⟨A4, c4, rfl, hc4, hm4⟩ := h3.slice
      have O4 := Lib.hid h3
      have E4 : Hid (Ext Non w3 w4) := D3.out.trans0 h4
      clear h3 h4 hc4 hm4
      refine ⟨_, rfl, ?_⟩
      refine hK.out _ _ trivial (fun hS => ?_)
      try simp only [Act.put, List.setIfInBounds_toArray, List.set_cons_zero, List.set_cons_succ]
      refine Last.one_ (i := 3) (N := some 29) #[true, true, true, true, false, false, false, false, false, false, false, false, false, false, false, false, false, false] (by simp only [List.getElem?_toArray, List.getElem?_cons_zero, List.getElem?_cons_succ]; rfl) rfl (by kernel_rfl) (by decide) (fun K hK => ?_)
      refine Last.goes_ Try.func23 (by kernel_rfl) rfl #[.pointer (some ⟨r, 0, none⟩)] (by rfl) rfl rfl (by simp [Act.eval]) ?_
      refine (List_calls (ok := fun _ => True) (t := run l) (g := r) (by obtain ⟨v, hb, hr⟩ := R3.out.ext E4.out; exact ⟨v, hb, hr.mono (fun _ _ => trivial)⟩) few (fun _ _ => trivial)).mono ?_
      rintro e w5 ⟨v5, rfl, h3, h4⟩
      obtain ⟨A5, c5, rfl, hc5, hm5⟩ := h3.slice
      have O5 := Lib.hid h3
      have O4' := Lib.hid (O4.out.ext0 h4)
      have E5 : Hid (Ext Non w3 w5) := E4.out.trans0 h4
      clear h3 h4 hc5 hm5
      refine ⟨_, rfl, ?_⟩
      refine hK.out _ _ trivial (fun hS => ?_)
      try simp only [Act.put, List.setIfInBounds_toArray, List.set_cons_zero, List.set_cons_succ]
      refine Last.one_ (i := 4) (N := some 30) #[true, true, true, true, true, false, false, false, false, false, false, false, false, false, false, false, false, false] (by simp only [List.getElem?_toArray, List.getElem?_cons_zero, List.getElem?_cons_succ]; rfl) rfl (by kernel_rfl) (by decide) (fun K hK => ?_)
      refine Last.goes_ Try.func28 (by kernel_rfl) rfl #[.slice A4 (run l).seats.length c4, .slice A5 (run l).seats.length c5] (by rfl) rfl rfl (by simp [Act.eval]) ?_
      refine (Equal_eq O4'.out.rd O5.out.rd few).mono ?_
      rintro e w6 ⟨rfl, h4⟩
      have E6 : Hid (Ext Non w3 w6) := E5.out.trans0 h4
      clear h4
      refine ⟨_, rfl, ?_⟩
      refine hK.out _ _ trivial (fun hS => ?_)
      try simp only [Act.put, List.setIfInBounds_toArray, List.set_cons_zero, List.set_cons_succ]
      refine Last.take_ (i := 5) (N := some 31) (v := .bool true) #[true, true, true, true, true, true, false, false, false, false, false, false, false, false, false, false, false, false] (by simp only [List.getElem?_toArray, List.getElem?_cons_zero, List.getElem?_cons_succ]; rfl) rfl (by kernel_rfl) (by exact fun _ _ _ h => h) (Or.inl ⟨by rfl, fun W hW => by first | rfl | (try dsimp only at hW); go_simp⟩) hS rfl ?_
      simp only [Act.put, List.setIfInBounds_toArray, List.set_cons_zero, List.set_cons_succ]
      refine Last.take_ (i := 6) (N := some 32) (v := .pointer (some ⟨g, 0, none⟩)) #[true, true, true, true, true, true, true, false, false, false, false, false, false, false, false, false, false, false] (by simp only [List.getElem?_toArray, List.getElem?_cons_zero, List.getElem?_cons_succ]; rfl) rfl (by kernel_rfl) (by exact fun _ _ _ h => h) (Or.inl ⟨by rfl, fun W hW => by first | rfl | (try dsimp only at hW); go_simp⟩) hS rfl ?_
      simp only [Act.put, List.setIfInBounds_toArray, List.set_cons_zero, List.set_cons_succ]
      refine Last.take_ (i := 9) (N := some 35) (v := .pointer (some ⟨r, 0, none⟩)) #[true, true, true, true, true, true, true, false, false, true, false, false, false, false, false, false, false, false] (by simp only [List.getElem?_toArray, List.getElem?_cons_zero, List.getElem?_cons_succ]; rfl) rfl (by kernel_rfl) (by exact fun _ _ _ h => h) (Or.inl ⟨by rfl, fun W hW => by first | rfl | (try dsimp only at hW); go_simp⟩) hS rfl ?_
      simp only [Act.put, List.setIfInBounds_toArray, List.set_cons_zero, List.set_cons_succ]
      refine Last.one_ (i := 7) (N := some 33) #[true, true, true, true, true, true, true, true, false, true, false, false, false, false, false, false, false, false] (by simp only [List.getElem?_toArray, List.getElem?_cons_zero, List.getElem?_cons_succ]; rfl) rfl (by kernel_rfl) (by decide) (fun K hK => ?_)
      refine Last.goes_ Try.func27 (by kernel_rfl) rfl #[.pointer (some ⟨g, 0, none⟩), .slice none 0 0] (by rfl) rfl rfl (by simp [Act.eval]) ?_
      refine (Put_calls (ok := fun _ => True) (t := run l) (g := g) (bs := []) (by obtain ⟨v, hb, hr⟩ := T4.out.ext E6.out; exact ⟨v, hb, hr.mono (fun _ _ => trivial)⟩) hG.out hV.out (Rd.nil _ _ _) (by simp) (fun _ _ => trivial)).mono ?_
      rintro e w7 ⟨v7, rfl, h3, h4⟩
      obtain ⟨A7, n7, c7, rfl, hn7⟩ := rd_abs8 h3
      have cv7 := conv_rd h3
      have R7 := Lib.hid h3
      have E7 : Hid (Ext Non w3 w7) := E6.out.trans0 h4
      clear h3 h4 hn7
      refine ⟨_, rfl, ?_⟩
      refine hK.out _ _ trivial (fun hS => ?_)
      refine strong_ (S2 := fun W => (convert 52 9 (.slice A7 n7 c7)).run Try.prog W = .ok (.string ⟨([] ++ putB (run l)).toArray⟩) W) cv7 (fun _ _ => trivial) ?_
      clear hS
      have hS := cv7
      try simp only [Act.put, List.setIfInBounds_toArray, List.set_cons_zero, List.set_cons_succ]
      refine Last.take_ (i := 8) (N := some 34) (v := .string ⟨([] ++ putB (run l)).toArray⟩) #[true, true, true, true, true, true, true, true, true, true, false, false, false, false, false, false, false, false] (by simp only [List.getElem?_toArray, List.getElem?_cons_zero, List.getElem?_cons_succ]; rfl) rfl (by kernel_rfl) (by exact fun _ _ _ h => h) (Or.inl ⟨by rfl, fun W hW => by first | rfl | (try dsimp only at hW); go_simp⟩) hS rfl ?_
      simp only [Act.put, List.setIfInBounds_toArray, List.set_cons_zero, List.set_cons_succ]
      refine Last.one_ (i := 10) (N := some 36) #[true, true, true, true, true, true, true, true, true, true, true, false, false, false, false, false, false, false] (by simp only [List.getElem?_toArray, List.getElem?_cons_zero, List.getElem?_cons_succ]; rfl) rfl (by kernel_rfl) (by decide) (fun K hK => ?_)
      refine Last.goes_ Try.func27 (by kernel_rfl) rfl #[.pointer (some ⟨r, 0, none⟩), .slice none 0 0] (by rfl) rfl rfl (by simp [Act.eval]) ?_
      refine (Put_calls (ok := fun _ => True) (t := run l) (g := r) (bs := []) (by obtain ⟨v, hb, hr⟩ := R3.out.ext E7.out; exact ⟨v, hb, hr.mono (fun _ _ => trivial)⟩) hG.out hV.out (Rd.nil _ _ _) (by simp) (fun _ _ => trivial)).mono ?_
      rintro e w8 ⟨v8, rfl, h3, h4⟩
      obtain ⟨A8, n8, c8, rfl, hn8⟩ := rd_abs8 h3
      have cv7 := conv_rd (R7.out.ext0 h4)
      have cv8 := conv_rd h3
      have R8 := Lib.hid h3
      have R7' := Lib.hid (R7.out.ext0 h4)
      have E8 : Hid (Ext Non w3 w8) := E7.out.trans0 h4
      clear h3 h4 hn8
      refine ⟨_, rfl, ?_⟩
      refine hK.out _ _ cv7 (fun hS => ?_)
      refine strong_ (S2 := fun W => (convert 52 9 (.slice A7 n7 c7)).run Try.prog W = .ok (.string ⟨([] ++ putB (run l)).toArray⟩) W ∧ (convert 52 9 (.slice A8 n8 c8)).run Try.prog W = .ok (.string ⟨([] ++ putB (run l)).toArray⟩) W) ⟨cv7, cv8⟩ (fun _ h => h.1) ?_
      clear hS
      have hS := And.intro cv7 cv8
      try simp only [Act.put, List.setIfInBounds_toArray, List.set_cons_zero, List.set_cons_succ]
      refine Last.take_ (i := 11) (N := some 37) (v := .string ⟨([] ++ putB (run l)).toArray⟩) #[true, true, true, true, true, true, true, true, true, true, true, true, false, false, false, false, false, false] (by simp only [List.getElem?_toArray, List.getElem?_cons_zero, List.getElem?_cons_succ]; rfl) rfl (by kernel_rfl) (by exact fun _ _ _ h => h) (Or.inl ⟨by rfl, fun W hW => by first | rfl | (try dsimp only at hW); go_simp⟩) hS rfl ?_
      simp only [Act.put, List.setIfInBounds_toArray, List.set_cons_zero, List.set_cons_succ]
      refine Last.take_ (i := 12) (N := some 38) (v := .bool true) #[true, true, true, true, true, true, true, true, true, true, true, true, true, false, false, false, false, false] (by simp only [List.getElem?_toArray, List.getElem?_cons_zero, List.getElem?_cons_succ]; rfl) rfl (by kernel_rfl) (by exact fun _ _ _ h => h) (Or.inl ⟨by rfl, fun W hW => by first | rfl | (try dsimp only at hW); go_simp⟩) hS rfl ?_
      simp only [Act.put, List.setIfInBounds_toArray, List.set_cons_zero, List.set_cons_succ]
      refine Last.take_ (i := 13) (N := some 39) (v := .bool true) #[true, true, true, true, true, true, true, true, true, true, true, true, true, true, false, false, false, false] (by simp only [List.getElem?_toArray, List.getElem?_cons_zero, List.getElem?_cons_succ]; rfl) rfl (by kernel_rfl) (by exact fun _ _ _ h => h) (Or.inl ⟨by rfl, fun W hW => by first | rfl | (try dsimp only at hW); go_simp⟩) hS rfl ?_
      simp only [Act.put, List.setIfInBounds_toArray, List.set_cons_zero, List.set_cons_succ]
      refine Last.take_ (i := 14) (N := some 40) (v := .bool true) #[true, true, true, true, true, true, true, true, true, true, true, true, true, true, true, false, false, false] (by simp only [List.getElem?_toArray, List.getElem?_cons_zero, List.getElem?_cons_succ]; rfl) rfl (by kernel_rfl) (by exact fun _ _ _ h => h) (Or.inl ⟨by rfl, fun W hW => by first | rfl | (try dsimp only at hW); go_simp⟩) hS rfl ?_
      simp only [Act.put, List.setIfInBounds_toArray, List.set_cons_zero, List.set_cons_succ]
      refine Last.one_ (i := 15) (N := some 41) #[true, true, true, true, true, true, true, true, true, true, true, true, true, true, true, true, false, false] (by simp only [List.getElem?_toArray, List.getElem?_cons_zero, List.getElem?_cons_succ]; rfl) rfl (by kernel_rfl) (by decide) (fun K hK => ?_)
      refine Last.goes_ Try.func11 (by kernel_rfl) rfl #[] (by rfl) rfl rfl (by simp) ?_
      refine (awake_calls _).mono ?_
      rintro e w9 ⟨rfl, h4⟩
      have E9 : Hid (Ext Non w3 w9) := E8.out.trans0 h4
      have cv7 := conv_rd (R7'.out.ext0 h4)
      have cv8 := conv_rd (R8.out.ext0 h4)
      clear h4
      refine ⟨_, rfl, ?_⟩
      refine hK.out _ _ ⟨cv7, cv8⟩ (fun hS => ?_)
      try simp only [Act.put, List.setIfInBounds_toArray, List.set_cons_zero, List.set_cons_succ]
      refine Last.take_ (i := 16) (N := some 42) (v := .bool true) #[true, true, true, true, true, true, true, true, true, true, true, true, true, true, true, true, true, false] (by simp only [List.getElem?_toArray, List.getElem?_cons_zero, List.getElem?_cons_succ]; rfl) rfl (by kernel_rfl) (by exact fun _ _ _ h => h) (Or.inl ⟨by rfl, fun W hW => by first | rfl | (try dsimp only at hW); go_simp⟩) hS rfl ?_
      simp only [Act.put, List.setIfInBounds_toArray, List.set_cons_zero, List.set_cons_succ]
      refine Last.take_ (i := 17) (N := some 4) (v := .bool true) #[true, true, true, true, true, true, true, true, true, true, true, true, true, true, true, true, true, true] (by simp only [List.getElem?_toArray, List.getElem?_cons_zero, List.getElem?_cons_succ]; rfl) rfl (by kernel_rfl) (by exact fun _ _ _ h => h) (Or.inl ⟨by rfl, fun W hW => by first | rfl | (try dsimp only at hW); go_simp⟩) hS rfl ?_
      simp only [Act.put, List.setIfInBounds_toArray, List.set_cons_zero, List.set_cons_succ]
      refine Last.done_ (by kernel_rfl) ?_
      go_wp2_with fail
      go_ret
      exact ⟨rfl, E3.out.trans0 E9.out⟩
end Go.Proofs.Ytiebnjkjgobklaa
