/- Add. -/
import Derived.Test.YtdjfijdnhfmeeaaR1
import Derived.Test.YtdjfijdnhfmeeaaQ5
namespace Go.Proofs.Ytdjfijdnhfmeeaa
open Go.RowKit Go.TM
theorem addS {w2 W : World} {g q : Nat} {se ss : Value} {nx tp : Int} {a0 a1 a2 a3 : Value} {t : TypeId} (he : Ext Non w2 W) (hb : FdB w2 g se ss nx tp) (hq : w2.heap[q]? = some (.cells #[a0, a1, a2, a3] t (0, 0))) :
    W.cell? ⟨g, 1, none⟩ = some ss ∧ W.cell? ⟨g, 2, none⟩ = some (.int .i64 nx) ∧ W.cell? ⟨g, 3, none⟩ = some (.int .i64 tp) ∧ W.cell? ⟨q, 0, none⟩ = some a0 ∧ W.cell? ⟨q, 1, none⟩ = some a1 ∧ W.cell? ⟨q, 2, none⟩ = some a2 ∧ W.cell? ⟨q, 3, none⟩ = some a3 := by
  have b := he.obj hb (fun e => e)
  have c := he.obj hq (fun e => e)
  exact ⟨blk_cell b 1, blk_cell b 2, blk_cell b 3, blk_cell c 0, blk_cell c 1, blk_cell c 2, blk_cell c 3⟩
def addR (n : Nat) (D : Fdr) (q : Flt) : (Int × Int) × Fdr :=
  if checkE (n + 1) q ≠ 0 then ((0, checkE (n + 1) q), D) else if 4 ≤ D.subs.length then ((0, 7), D) else if 1099511627776 ≤ D.next then ((0, 5), D)
  else ((D.next, 0), { D with subs := D.subs ++ [⟨D.next, D.top, D.top, q, false⟩], next := D.next + 1 })
set_option maxRecDepth 100000 in
set_option maxHeartbeats 8000000 in
theorem Add_calls {w : World} {n g : Nat} {ok okX : Nat → Prop} {D : Fdr} (h : Fd n ok w g D) (hn0 : 0 < D.next) (hs : D.subs.length ≤ 1000) (hf : Fresh ok w) {f : Flt} {x : Value} (hx : FV n w okX x f) (hok : okF (n + 1) f) (hk : okK (n + 1) f) :
    Calls Try.prog 15 #[.pointer (some ⟨g, 0, none⟩), x] w (FdPost n ok g (addR n D f).2 (.tuple #[.int .i64 (addR n D f).1.1, .int .i64 (addR n D f).1.2]) w) := by
  have HF := Lib.hid h
  have FF := Lib.hid hf
  have VX := Lib.hid hx
  obtain ⟨v, rfl, hr⟩ := hx
  obtain ⟨op, key, val, kids⟩ := f
  obtain ⟨A, m, c, rfl, -⟩ := rd_abs hr
  clear hr
  show Calls Try.prog 15 #[.pointer (some ⟨g, 0, none⟩), .agg #[.int .i64 op, .string key, .string val, .slice A m c]] w _
  have HOF := Lib.hid hok
  have HOK := Lib.hid hk
  have HS := Lib.hid hs
  obtain ⟨A1, n1, c1, A2, n2, c2, hb, h1, h2, h3⟩ := h
  have hn2 : n2 = D.subs.length := by
    obtain ⟨_, _, hs, _, _⟩ := h2.slice
    simp only [Value.slice.injEq] at hs
    exact hs.2.1
  have HN2 := Lib.hid hn2
  have HB := Lib.hid hb
  have H1 := Lib.hid h1
  have H2 := Lib.hid h2
  have H3 := Lib.hid h3
  have hgl := blk_lt hb
  obtain ⟨q, hq⟩ : ∃ q, w.heap.size = q := ⟨_, rfl⟩
  obtain ⟨w1, hw1⟩ : ∃ w1, w.alloc (.cells #[.int .i64 op, .string key, .string val, .slice A m c] 24) = w1 := ⟨_, rfl⟩
  have E1 : Hid (Ext Non w w1) := by rw [← hw1]; exact (Ext.refl _ _).alloc _
  have BQ1 : Hid (w1.heap[q]? = some (.cells #[.int .i64 op, .string key, .string val, .slice A m c] 24 (0, 0))) := by rw [← hw1, ← hq]; exact blk_new w _
  have BG1 : Hid (FdB w1 g (.slice A1 n1 c1) (.slice A2 n2 c2) D.next D.top) := E1.out.obj HB.out (fun e => e)
  have HD := Lib.hid (dead_live BG1.out (by omega))
  have k0 := blk_cell BQ1.out 0
  have k1 := blk_cell BQ1.out 1
  have k2 := blk_cell BQ1.out 2
  have k3 := blk_cell BQ1.out 3
  have hql := blk_lt BQ1.out
  clear hf hok hk hs hb h1 h2 h3 hn2
  by_cases ca : checkE (n + 1) (.mk op key val kids) = 0
  · have HC : Hid (Calls Try.prog 35 #[.agg #[.int .i64 op, .string key, .string val, .slice A m c]] w1 fun e w' => e = .returned (.int .i64 0) ∧ Ext Non w1 w') := by
      have := Check_calls (VX.out.ext0 E1.out) HOF.out
      rw [ca] at this
      exact this
    by_cases cb : 4 ≤ n2
    · have HT : Hid (addR n D (.mk op key val kids) = ((0, 7), D)) := (if_neg (fun h => h ca)).trans (if_pos (by rw [← HN2.out]; exact cb))
      clear ca
      go_enter Try.func15, Try.ntmps15
      go_wp2_with fail
      refine HD.out.mono ?_
      rintro e w5 ⟨rfl, rfl⟩
      go_wp2_with fail
      refine HC.out.mono ?_
      rintro e w2 ⟨rfl, he⟩
      have b1 : w2.cell? ⟨g, 1, none⟩ = _ := blk_cell (he.obj BG1.out (fun e => e)) 1
      have EW : Hid (Ext Non w w2) := E1.out.trans0 he
      clear he
      go_wp2_with fail
      go_ret2
      rw [HT.out]
      exact ⟨rfl, HF.out.ext0 EW.out, EW.out.of0⟩
    · by_cases cc : 1099511627776 ≤ D.next
      · have HT : Hid (addR n D (.mk op key val kids) = ((0, 5), D)) := (if_neg (fun h => h ca)).trans ((if_neg (by rw [← HN2.out]; exact cb)).trans (if_pos cc))
        clear ca
        go_enter Try.func15, Try.ntmps15
        go_wp2_with fail
        refine HD.out.mono ?_
        rintro e w5 ⟨rfl, rfl⟩
        go_wp2_with fail
        refine HC.out.mono ?_
        rintro e w2 ⟨rfl, he⟩
        have b1 : w2.cell? ⟨g, 1, none⟩ = _ := blk_cell (he.obj BG1.out (fun e => e)) 1
        have b2 : w2.cell? ⟨g, 2, none⟩ = _ := blk_cell (he.obj BG1.out (fun e => e)) 2
        have EW : Hid (Ext Non w w2) := E1.out.trans0 he
        clear he
        go_wp2_with fail
        go_ret2
        rw [HT.out]
        exact ⟨rfl, HF.out.ext0 EW.out, EW.out.of0⟩
      · have HT : Hid (addR n D (.mk op key val kids) = ((D.next, 0), { D with subs := D.subs ++ [⟨D.next, D.top, D.top, .mk op key val kids, false⟩], next := D.next + 1 })) := (if_neg (fun h => h ca)).trans ((if_neg (by rw [← HN2.out]; exact cb)).trans (if_neg cc))
        clear ca
        go_enter Try.func15, Try.ntmps15
        go_wp2_with fail
        refine HD.out.mono ?_
        rintro e w5 ⟨rfl, rfl⟩
        go_wp2_with fail
        refine HC.out.mono ?_
        rintro e w2 ⟨rfl, he⟩
        have BG : Hid (FdB w2 g (.slice A1 n1 c1) (.slice A2 n2 c2) D.next D.top) := he.obj BG1.out (fun e => e)
        have BQ : Hid (w2.heap[q]? = some (.cells #[.int .i64 op, .string key, .string val, .slice A m c] 24 (0, 0))) := he.obj BQ1.out (fun e => e)
        have EW : Hid (Ext Non w w2) := E1.out.trans0 he
        have b1 := BG.out.c1
        have b2 := BG.out.c2
        have b3 := BG.out.c3
        clear he k0 k1 k2 k3
        have k0 := blk_cell BQ.out 0
        have k1 := blk_cell BQ.out 1
        have k2 := blk_cell BQ.out 2
        have k3 := blk_cell BQ.out 3
        go_wp2_with fail
        refine Last.start_ (S := fun W => W.cell? ⟨g, 1, none⟩ = some (.slice A2 n2 c2) ∧ W.cell? ⟨g, 2, none⟩ = some (.int .i64 D.next) ∧ W.cell? ⟨g, 3, none⟩ = some (.int .i64 D.top) ∧ W.cell? ⟨q, 0, none⟩ = some (.int .i64 op) ∧ W.cell? ⟨q, 1, none⟩ = some (.string key) ∧ W.cell? ⟨q, 2, none⟩ = some (.string val) ∧ W.cell? ⟨q, 3, none⟩ = some (.slice A m c)) (ds := [25]) #[false, false, false, false, false, false, false, false, false, false, false, false, false, false, false, false, false, false, false, false, false, false, false, false, false, false] (by kernel_rfl) (by rfl) (by rfl) (addS (Ext.refl Non w2).drew BG.out BQ.out) (fun hS => ?_)
        refine Last.take_ (i := 0) (N := some 27) (v := .pointer (some ⟨g, 0, none⟩)) #[true, false, false, false, false, false, false, false, false, false, false, false, false, false, false, false, false, false, false, false, false, false, false, false, false, false] (by simp only [List.getElem?_toArray, List.getElem?_cons_zero]; rfl) rfl (by kernel_rfl) (by exact fun _ _ _ h => h) (Or.inl ⟨by rfl, fun W hW => by first | rfl | (try dsimp only at hW); go_simp⟩) hS rfl ?_
        simp only [Act.put, List.setIfInBounds_toArray, List.set_cons_zero, List.set_cons_succ]
        refine Last.take_ (i := 1) (N := some 28) (v := .pointer (some ⟨g, 0, none⟩)) #[true, true, false, false, false, false, false, false, false, false, false, false, false, false, false, false, false, false, false, false, false, false, false, false, false, false] (by simp only [List.getElem?_toArray, List.getElem?_cons_zero, List.getElem?_cons_succ]; rfl) rfl (by kernel_rfl) (by exact fun _ _ _ h => h) (Or.inl ⟨by rfl, fun W hW => by first | rfl | (try dsimp only at hW); go_simp⟩) hS rfl ?_
        simp only [Act.put, List.setIfInBounds_toArray, List.set_cons_zero, List.set_cons_succ]
        refine Last.take_ (i := 2) (N := some 29) (v := .pointer (some ⟨g, 0, none⟩)) #[true, true, true, false, false, false, false, false, false, false, false, false, false, false, false, false, false, false, false, false, false, false, false, false, false, false] (by simp only [List.getElem?_toArray, List.getElem?_cons_zero, List.getElem?_cons_succ]; rfl) rfl (by kernel_rfl) (by exact fun _ _ _ h => h) (Or.inl ⟨by rfl, fun W hW => by first | rfl | (try dsimp only at hW); go_simp⟩) hS rfl ?_
        simp only [Act.put, List.setIfInBounds_toArray, List.set_cons_zero, List.set_cons_succ]
        refine Last.take_ (i := 3) (N := some 30) (v := .pointer (some ⟨g, 1, none⟩)) #[true, true, true, true, false, false, false, false, false, false, false, false, false, false, false, false, false, false, false, false, false, false, false, false, false, false] (by simp only [List.getElem?_toArray, List.getElem?_cons_zero, List.getElem?_cons_succ]; rfl) rfl (by kernel_rfl) (by exact fun _ _ _ h => h) (Or.inl ⟨by rfl, fun W hW => by first | rfl | (try dsimp only at hW); go_simp⟩) hS rfl ?_
        simp only [Act.put, List.setIfInBounds_toArray, List.set_cons_zero, List.set_cons_succ]
        refine Last.take_ (i := 4) (N := some 31) (v := .slice A2 n2 c2) #[true, true, true, true, true, false, false, false, false, false, false, false, false, false, false, false, false, false, false, false, false, false, false, false, false, false] (by simp only [List.getElem?_toArray, List.getElem?_cons_zero, List.getElem?_cons_succ]; rfl) rfl (by kernel_rfl) (by exact fun _ _ _ h => h) (Or.inl ⟨by rfl, fun W hW => by first | rfl | (try dsimp only at hW); go_simp⟩) hS rfl ?_
        simp only [Act.put, List.setIfInBounds_toArray, List.set_cons_zero, List.set_cons_succ]
        refine Last.take_ (i := 6) (N := some 33) (v := .pointer (some ⟨g, 0, none⟩)) #[true, true, true, true, true, false, true, false, false, false, false, false, false, false, false, false, false, false, false, false, false, false, false, false, false, false] (by simp only [List.getElem?_toArray, List.getElem?_cons_zero, List.getElem?_cons_succ]; rfl) rfl (by kernel_rfl) (by exact fun _ _ _ h => h) (Or.inl ⟨by rfl, fun W hW => by first | rfl | (try dsimp only at hW); go_simp⟩) hS rfl ?_
        simp only [Act.put, List.setIfInBounds_toArray, List.set_cons_zero, List.set_cons_succ]
        refine Last.take_ (i := 7) (N := some 34) (v := .pointer (some ⟨g, 0, none⟩)) #[true, true, true, true, true, false, true, true, false, false, false, false, false, false, false, false, false, false, false, false, false, false, false, false, false, false] (by simp only [List.getElem?_toArray, List.getElem?_cons_zero, List.getElem?_cons_succ]; rfl) rfl (by kernel_rfl) (by exact fun _ _ _ h => h) (Or.inl ⟨by rfl, fun W hW => by first | rfl | (try dsimp only at hW); go_simp⟩) hS rfl ?_
        simp only [Act.put, List.setIfInBounds_toArray, List.set_cons_zero, List.set_cons_succ]
        refine Last.take_ (i := 8) (N := some 35) (v := .pointer (some ⟨g, 2, none⟩)) #[true, true, true, true, true, false, true, true, true, false, false, false, false, false, false, false, false, false, false, false, false, false, false, false, false, false] (by simp only [List.getElem?_toArray, List.getElem?_cons_zero, List.getElem?_cons_succ]; rfl) rfl (by kernel_rfl) (by exact fun _ _ _ h => h) (Or.inl ⟨by rfl, fun W hW => by first | rfl | (try dsimp only at hW); go_simp⟩) hS rfl ?_
        simp only [Act.put, List.setIfInBounds_toArray, List.set_cons_zero, List.set_cons_succ]
        refine Last.take_ (i := 9) (N := some 36) (v := .int .i64 D.next) #[true, true, true, true, true, false, true, true, true, true, false, false, false, false, false, false, false, false, false, false, false, false, false, false, false, false] (by simp only [List.getElem?_toArray, List.getElem?_cons_zero, List.getElem?_cons_succ]; rfl) rfl (by kernel_rfl) (by exact fun _ _ _ h => h) (Or.inl ⟨by rfl, fun W hW => by first | rfl | (try dsimp only at hW); go_simp⟩) hS rfl ?_
        simp only [Act.put, List.setIfInBounds_toArray, List.set_cons_zero, List.set_cons_succ]
        refine Last.take_ (i := 10) (N := some 37) (v := .pointer (some ⟨g, 0, none⟩)) #[true, true, true, true, true, false, true, true, true, true, true, false, false, false, false, false, false, false, false, false, false, false, false, false, false, false] (by simp only [List.getElem?_toArray, List.getElem?_cons_zero, List.getElem?_cons_succ]; rfl) rfl (by kernel_rfl) (by exact fun _ _ _ h => h) (Or.inl ⟨by rfl, fun W hW => by first | rfl | (try dsimp only at hW); go_simp⟩) hS rfl ?_
        simp only [Act.put, List.setIfInBounds_toArray, List.set_cons_zero, List.set_cons_succ]
        refine Last.take_ (i := 11) (N := some 38) (v := .pointer (some ⟨g, 0, none⟩)) #[true, true, true, true, true, false, true, true, true, true, true, true, false, false, false, false, false, false, false, false, false, false, false, false, false, false] (by simp only [List.getElem?_toArray, List.getElem?_cons_zero, List.getElem?_cons_succ]; rfl) rfl (by kernel_rfl) (by exact fun _ _ _ h => h) (Or.inl ⟨by rfl, fun W hW => by first | rfl | (try dsimp only at hW); go_simp⟩) hS rfl ?_
        simp only [Act.put, List.setIfInBounds_toArray, List.set_cons_zero, List.set_cons_succ]
        refine Last.take_ (i := 12) (N := some 39) (v := .pointer (some ⟨g, 3, none⟩)) #[true, true, true, true, true, false, true, true, true, true, true, true, true, false, false, false, false, false, false, false, false, false, false, false, false, false] (by simp only [List.getElem?_toArray, List.getElem?_cons_zero, List.getElem?_cons_succ]; rfl) rfl (by kernel_rfl) (by exact fun _ _ _ h => h) (Or.inl ⟨by rfl, fun W hW => by first | rfl | (try dsimp only at hW); go_simp⟩) hS rfl ?_
        simp only [Act.put, List.setIfInBounds_toArray, List.set_cons_zero, List.set_cons_succ]
        refine Last.take_ (i := 13) (N := some 40) (v := .int .i64 D.top) #[true, true, true, true, true, false, true, true, true, true, true, true, true, true, false, false, false, false, false, false, false, false, false, false, false, false] (by simp only [List.getElem?_toArray, List.getElem?_cons_zero, List.getElem?_cons_succ]; rfl) rfl (by kernel_rfl) (by exact fun _ _ _ h => h) (Or.inl ⟨by rfl, fun W hW => by first | rfl | (try dsimp only at hW); go_simp⟩) hS rfl ?_
        simp only [Act.put, List.setIfInBounds_toArray, List.set_cons_zero, List.set_cons_succ]
        refine Last.take_ (i := 14) (N := some 41) (v := .pointer (some ⟨g, 0, none⟩)) #[true, true, true, true, true, false, true, true, true, true, true, true, true, true, true, false, false, false, false, false, false, false, false, false, false, false] (by simp only [List.getElem?_toArray, List.getElem?_cons_zero, List.getElem?_cons_succ]; rfl) rfl (by kernel_rfl) (by exact fun _ _ _ h => h) (Or.inl ⟨by rfl, fun W hW => by first | rfl | (try dsimp only at hW); go_simp⟩) hS rfl ?_
        simp only [Act.put, List.setIfInBounds_toArray, List.set_cons_zero, List.set_cons_succ]
        refine Last.take_ (i := 15) (N := some 42) (v := .pointer (some ⟨g, 0, none⟩)) #[true, true, true, true, true, false, true, true, true, true, true, true, true, true, true, true, false, false, false, false, false, false, false, false, false, false] (by simp only [List.getElem?_toArray, List.getElem?_cons_zero, List.getElem?_cons_succ]; rfl) rfl (by kernel_rfl) (by exact fun _ _ _ h => h) (Or.inl ⟨by rfl, fun W hW => by first | rfl | (try dsimp only at hW); go_simp⟩) hS rfl ?_
        simp only [Act.put, List.setIfInBounds_toArray, List.set_cons_zero, List.set_cons_succ]
        refine Last.take_ (i := 16) (N := some 43) (v := .pointer (some ⟨g, 3, none⟩)) #[true, true, true, true, true, false, true, true, true, true, true, true, true, true, true, true, true, false, false, false, false, false, false, false, false, false] (by simp only [List.getElem?_toArray, List.getElem?_cons_zero, List.getElem?_cons_succ]; rfl) rfl (by kernel_rfl) (by exact fun _ _ _ h => h) (Or.inl ⟨by rfl, fun W hW => by first | rfl | (try dsimp only at hW); go_simp⟩) hS rfl ?_
        simp only [Act.put, List.setIfInBounds_toArray, List.set_cons_zero, List.set_cons_succ]
        refine Last.take_ (i := 17) (N := some 44) (v := .int .i64 D.top) #[true, true, true, true, true, false, true, true, true, true, true, true, true, true, true, true, true, true, false, false, false, false, false, false, false, false] (by simp only [List.getElem?_toArray, List.getElem?_cons_zero, List.getElem?_cons_succ]; rfl) rfl (by kernel_rfl) (by exact fun _ _ _ h => h) (Or.inl ⟨by rfl, fun W hW => by first | rfl | (try dsimp only at hW); go_simp⟩) hS rfl ?_
        simp only [Act.put, List.setIfInBounds_toArray, List.set_cons_zero, List.set_cons_succ]
        refine Last.take_ (i := 18) (N := some 45) (v := .agg #[.int .i64 op, .string key, .string val, .slice A m c]) #[true, true, true, true, true, false, true, true, true, true, true, true, true, true, true, true, true, true, true, false, false, false, false, false, false, false] (by simp only [List.getElem?_toArray, List.getElem?_cons_zero, List.getElem?_cons_succ]; rfl) rfl (by kernel_rfl) (by exact fun _ _ _ h => h) (Or.inl ⟨by rfl, fun W hW => by first | rfl | (try dsimp only at hW); go_simp⟩) hS rfl ?_
        simp only [Act.put, List.setIfInBounds_toArray, List.set_cons_zero, List.set_cons_succ]
        refine Last.one_ (i := 5) (N := some 32) #[true, true, true, true, true, true, true, true, true, true, true, true, true, true, true, true, true, true, true, false, false, false, false, false, false, false] (by simp only [List.getElem?_toArray, List.getElem?_cons_zero, List.getElem?_cons_succ]; rfl) rfl (by kernel_rfl) (by decide) (fun K hK => ?_)
        refine Last.goes_ Try.func49 (by kernel_rfl) rfl #[.slice A2 n2 c2] (by rfl) rfl rfl (by simp [Act.eval]) ?_
        refine (CloneS_own (H2.out.ext0 EW.out.drew) HS.out (FF.out.ext EW.out.drew)).mono ?_
        rintro e w3 ⟨B3, m3, d3, rfl, ho, he⟩
        have E3 : Hid (Ext Non w2 w3) := (Ext.refl Non w2).drew.trans0 he
        have O3 := Lib.hid ho
        clear he ho
        refine ⟨_, rfl, ?_⟩
        refine hK.out _ _ (addS E3.out BG.out BQ.out) (fun hS => ?_)
        try simp only [Act.put, List.setIfInBounds_toArray, List.set_cons_zero, List.set_cons_succ]
        refine Last.one_ (i := 19) (N := some 46) #[true, true, true, true, true, true, true, true, true, true, true, true, true, true, true, true, true, true, true, true, false, false, false, false, false, false] (by simp only [List.getElem?_toArray, List.getElem?_cons_zero, List.getElem?_cons_succ]; rfl) rfl (by kernel_rfl) (by decide) (fun K hK => ?_)
        refine Last.goes_ Try.func50 (by kernel_rfl) rfl #[.agg #[.int .i64 op, .string key, .string val, .slice A m c]] (by rfl) rfl rfl (by simp [Act.eval]) ?_
        refine (copied_calls (VX.out.ext0 (EW.out.trans0 E3.out)) HOK.out).mono ?_
        rintro e w4 ⟨v4, rfl, hr, he⟩
        obtain ⟨A6, n6, c6, rfl, -⟩ := rd_abs hr
        have E4 : Hid (Ext Non w2 w4) := E3.out.trans0 he
        have HR4 := Lib.hid hr.bound
        have O4 := Lib.hid (O3.out.bound.ext0 he)
        have hs34 := he.size
        clear he hr
        refine ⟨.agg #[.int .i64 op, .string key, .string val, .slice A6 n6 c6], rfl, ?_⟩
        refine hK.out _ _ (addS E4.out BG.out BQ.out) (fun hS => ?_)
        try simp only [Act.put, List.setIfInBounds_toArray, List.set_cons_zero, List.set_cons_succ]
        refine Last.take_ (i := 20) (N := some 47) (v := .agg #[.int .i64 D.next, .int .i64 D.top, .int .i64 D.top, .int .i64 op, .string key, .string val, .slice A6 n6 c6, .bool false]) #[true, true, true, true, true, true, true, true, true, true, true, true, true, true, true, true, true, true, true, true, true, false, false, false, false, false] (by simp only [List.getElem?_toArray, List.getElem?_cons_zero, List.getElem?_cons_succ]; rfl) rfl (by kernel_rfl) (by exact fun _ _ _ h => h) (Or.inl ⟨by rfl, fun W hW => by first | rfl | (try dsimp only at hW); go_simp⟩) hS rfl ?_
        simp only [Act.put, List.setIfInBounds_toArray, List.set_cons_zero, List.set_cons_succ]
        refine Last.one_ (i := 21) (N := some 48) #[true, true, true, true, true, true, true, true, true, true, true, true, true, true, true, true, true, true, true, true, true, true, false, false, false, false] (by simp only [List.getElem?_toArray, List.getElem?_cons_zero, List.getElem?_cons_succ]; rfl) rfl (by kernel_rfl) (by decide) (fun K hK => ?_)
        go_simp
        refine hK.out _ _ (addS (E4.out.alloc _) BG.out BQ.out) (fun hS => ?_)
        try simp only [Act.put, List.setIfInBounds_toArray, List.set_cons_zero, List.set_cons_succ]
        refine Last.one_ (i := 22) (N := some 49) #[true, true, true, true, true, true, true, true, true, true, true, true, true, true, true, true, true, true, true, true, true, true, true, false, false, false] (by simp only [List.getElem?_toArray, List.getElem?_cons_zero, List.getElem?_cons_succ]; rfl) rfl (by kernel_rfl) (by decide) (fun K hK => ?_)
        have hM3 : ∀ k, some k = (Value.slice B3 m3 d3).ownBlock → w2.heap.size ≤ k ∧ k < w3.heap.size := fun k h => (O3.out.base_le k h.symm)
        have hs4 : w2.heap.size ≤ w4.heap.size := E4.out.size
        have hs3 : w2.heap.size ≤ w3.heap.size := E3.out.size
        have hsW := EW.out.size
        refine step_app (sbK n) (ok := ok) (v := .slice B3 m3 d3) (vx := .slice (some ⟨w4.heap.size, 0, none⟩) 1 1) (xs := D.subs) (ys := [⟨D.next, D.top, D.top, .mk op key val kids, false⟩]) w2.heap.size (by rfl) _ _ 53 64 _ 96 (by rfl) Try.underlying53 (info64 n) rfl (by show 0 < 8; decide) (by simp [Act.eval]) (by simp [Act.eval]) ((O4.out.ext0 ((Ext.refl Non w4).alloc _)).mono (fun _ hk => hk.1)) ?_ ?_ ?_ ?_ ?_ ?_
        · refine Rd.lit_at (cs := [.int .i64 D.next, .int .i64 D.top, .int .i64 D.top, .int .i64 op, .string key, .string val, .slice A6 n6 c6, .bool false]) (e := 64) (fr := (0, 0)) (blk_new w4 _) ⟨_, rfl, ?_⟩ ⟨FF.out _ (by omega), fun h => by have := hM3 _ h; omega⟩
          exact (HR4.out.ext0 ((Ext.refl Non w4).alloc _)).mono (fun k hk => ⟨FF.out k (by have := hk.1; omega), fun h => by have := hM3 _ h; have := hk.1; omega⟩)
        · intro k hk
          have hk' : w4.heap.size + 1 ≤ k := by simpa using hk
          exact FF.out k (by omega)
        · have := HS.out; simp only [List.length_singleton]; omega
        · have := HS.out; simp only [List.length_singleton]; omega
        · simp; omega
        intro v' w5 hown hext hblk
        obtain ⟨A7, n7, c7, rfl⟩ : ∃ A n c, v' = .slice A n c := by obtain ⟨A6, c6, h6, _, _⟩ := hown.slice; exact ⟨_, _, _, h6⟩
        have E5 : Hid (Ext Non w2 w5) := E4.out.trans (Ext.trans ((Ext.refl _ _).alloc _) hext (fun _ _ e => e)) (fun k hk h => by have := hM3 _ h; omega)
        have O5 := Lib.hid hown
        have g1 : w5.cell? ⟨g, 1, none⟩ = _ := blk_cell (E5.out.obj BG.out (fun e => e)) 1
        have z1 : w5.frozen? ⟨g, 1, none⟩ = false := blk_frozen (E5.out.obj BG.out (fun e => e)) 1
        have hg5 := blk_lt (E5.out.obj BG.out (fun e => e))
        clear hown hext hblk
        refine hK.out _ _ (addS E5.out BG.out BQ.out) (fun hS => ?_)
        try simp only [Act.put, List.setIfInBounds_toArray, List.set_cons_zero, List.set_cons_succ]
        refine Last.take_ (i := 23) (N := some 50) (v := .pointer (some ⟨g, 0, none⟩)) #[true, true, true, true, true, true, true, true, true, true, true, true, true, true, true, true, true, true, true, true, true, true, true, true, false, false] (by simp only [List.getElem?_toArray, List.getElem?_cons_zero, List.getElem?_cons_succ]; rfl) rfl (by kernel_rfl) (by exact fun _ _ _ h => h) (Or.inl ⟨by rfl, fun W hW => by first | rfl | (try dsimp only at hW); go_simp⟩) hS rfl ?_
        simp only [Act.put, List.setIfInBounds_toArray, List.set_cons_zero, List.set_cons_succ]
        refine Last.take_ (i := 24) (N := some 51) (v := .pointer (some ⟨g, 1, none⟩)) #[true, true, true, true, true, true, true, true, true, true, true, true, true, true, true, true, true, true, true, true, true, true, true, true, true, false] (by simp only [List.getElem?_toArray, List.getElem?_cons_zero, List.getElem?_cons_succ]; rfl) rfl (by kernel_rfl) (by exact fun _ _ _ h => h) (Or.inl ⟨by rfl, fun W hW => by first | rfl | (try dsimp only at hW); go_simp⟩) hS rfl ?_
        simp only [Act.put, List.setIfInBounds_toArray, List.set_cons_zero, List.set_cons_succ]
        refine Last.last_ (i := 25) (N := none) #[true, true, true, true, true, true, true, true, true, true, true, true, true, true, true, true, true, true, true, true, true, true, true, true, true, true] (by simp only [List.getElem?_toArray, List.getElem?_cons_zero, List.getElem?_cons_succ]; rfl) rfl (by kernel_rfl) (by decide) (fun K hK => ?_)
        go_simp
        refine hK.out _ _ ?_
        try simp only [Act.put, List.setIfInBounds_toArray, List.set_cons_zero, List.set_cons_succ]
        refine Last.done_ (by kernel_rfl) ?_
        have B5 : FdB w5 g _ _ _ _ := E5.out.obj BG.out (fun e => e)
        have B6 : FdB (w5.setCell ⟨g, 1, none⟩ (.slice A7 n7 c7)) g _ _ _ _ := blk_set B5 1 _
        have y2 := B6.c2
        have yz := B6.fz 2
        have F5 : Fd n ok w5 g D := HF.out.ext0 (EW.out.trans0 E5.out)
        have F6 := F5.setSubs O5.out.rd
        have F7 := Lib.hid (F6.setNext (D.next + 1))
        have E7 : Hid (Ext (Only g) w ((w5.setCell ⟨g, 1, none⟩ (.slice A7 n7 c7)).setCell ⟨g, 2, none⟩ (.int .i64 (D.next + 1)))) := ((EW.out.trans0 E5.out).of0.trans (og_set w5 g 1 _) (fun _ _ h => h)).trans (og_set _ g 2 _) (fun _ _ h => h)
        clear B5 B6 F5 F6
        go_wp2_with fail
        go_ret2
        rw [HT.out]
        exact ⟨rfl, F7.out, E7.out⟩
  · have HT : Hid (addR n D (.mk op key val kids) = ((0, checkE (n + 1) (.mk op key val kids)), D)) := if_pos ca
    have HC : Hid (Calls Try.prog 35 #[.agg #[.int .i64 op, .string key, .string val, .slice A m c]] w1 fun e w' => e = .returned (.int .i64 (checkE (n + 1) (.mk op key val kids))) ∧ Ext Non w1 w') := Check_calls (VX.out.ext0 E1.out) HOF.out
    obtain ⟨cv, hcv⟩ : ∃ cv, checkE (n + 1) (.mk op key val kids) = cv := ⟨_, rfl⟩
    rw [hcv] at HT HC ca
    have ev : (cv == 0) = false := beq_eq_false_iff_ne.2 ca
    clear hcv
    go_enter Try.func15, Try.ntmps15
    go_wp2_with fail
    refine HD.out.mono ?_
    rintro e w5 ⟨rfl, rfl⟩
    go_wp2_with fail
    refine HC.out.mono ?_
    rintro e w2 ⟨rfl, he⟩
    have EW : Hid (Ext Non w w2) := E1.out.trans0 he
    clear he
    go_wp2_with fail
    go_ret2
    rw [HT.out]
    exact ⟨rfl, HF.out.ext0 EW.out, EW.out.of0⟩
end Go.Proofs.Ytdjfijdnhfmeeaa
