/- The document's Add. -/
import Derived.Test.YtdjfijdnhfmeeaaTB
import Derived.Test.YtdjfijdnhfmeeaaI
namespace Go.Proofs.Ytdjfijdnhfmeeaa
open Go.RowKit Go.TM
theorem raddS {w2 W : World} {g q : Nat} {se ss : Value} {nx tp : Int} {a0 a1 a2 a3 : Value} {t : TypeId} (he : Ext Non w2 W) (hb : RfB w2 g se ss nx tp) (hq : w2.heap[q]? = some (.cells #[a0, a1, a2, a3] t (0, 0))) :
    W.cell? ⟨g, 1, none⟩ = some ss ∧ W.cell? ⟨g, 2, none⟩ = some (.int .i64 nx) ∧ W.cell? ⟨g, 3, none⟩ = some (.int .i64 tp) ∧ W.cell? ⟨q, 0, none⟩ = some a0 ∧ W.cell? ⟨q, 1, none⟩ = some a1 ∧ W.cell? ⟨q, 2, none⟩ = some a2 ∧ W.cell? ⟨q, 3, none⟩ = some a3 := by
  have b := he.obj hb (fun e => e)
  have c := he.obj hq (fun e => e)
  exact ⟨blk_cell b 1, blk_cell b 2, blk_cell b 3, blk_cell c 0, blk_cell c 1, blk_cell c 2, blk_cell c 3⟩
/-- What the three operations that make memory leave. -/
def raddSp (n : Nat) (ok : Nat → Prop) (base : Nat) (l : List Sb) (cs : List Value) : Nat → Value → World → Prop
  | 1, v, W => ∃ b, v = .slice (some ⟨b, 0, none⟩) 0 0 ∧ base ≤ b ∧ W.heap[b]? = some (.cells #[] 64 (0, 0))
  | 6, v, W => Own (sbK n) 64 W base ok v l
  | 21, v, W => ∃ b, v = .slice (some ⟨b, 0, none⟩) 1 1 ∧ base ≤ b ∧ W.heap[b]? = some (.cells cs.toArray 64 (0, 0))
  | _, _, _ => False
def raddPr (i j : Nat) (u v : Value) : Prop := (j = 21 → u.ownBlock ≠ v.ownBlock) ∧ (i = 21 → v.ownBlock ≠ u.ownBlock)
theorem raddSp_mono (n : Nat) (ok : Nat → Prop) (base : Nat) (l : List Sb) (cs : List Value) : ∀ j v w w', Ext Non w w' → raddSp n ok base l cs j v w → raddSp n ok base l cs j v w' := by
  intro j v w w' he h
  unfold raddSp at h ⊢
  split at h
  · obtain ⟨b, h1, h2, h3⟩ := h
    exact ⟨b, h1, h2, he.obj h3 (fun e => e)⟩
  · exact h.ext0 he
  · obtain ⟨b, h1, h2, h3⟩ := h
    exact ⟨b, h1, h2, he.obj h3 (fun e => e)⟩
  · exact h
theorem raddSp_lt {n : Nat} {ok : Nat → Prop} {base : Nat} {l : List Sb} {cs : List Value} {j : Nat} {v : Value} {w : World} (h : raddSp n ok base l cs j v w) : ∀ k, v.ownBlock = some k → k < w.heap.size := by
  intro k hk
  unfold raddSp at h
  split at h
  · obtain ⟨b, rfl, h2, h3⟩ := h
    cases hk
    exact blk_lt h3
  · exact (h.base_le k hk).2
  · obtain ⟨b, rfl, h2, h3⟩ := h
    cases hk
    exact blk_lt h3
  · exact h.elim
theorem raddPr_new {n : Nat} {ok : Nat → Prop} {base : Nat} {l : List Sb} {cs : List Value} {i : Nat} {q : Nat × Nat} {W : World} {u : Value} {m c : Nat} (_hi : i = 1 ∨ i = 21) (h : raddSp n ok base l cs q.1 u W) :
    raddPr i q.1 (.slice (some ⟨W.heap.size, 0, none⟩) m c) u ∧ raddPr q.1 i u (.slice (some ⟨W.heap.size, 0, none⟩) m c) := by
  have hne : u.ownBlock ≠ some W.heap.size := fun e => by
    have := raddSp_lt h _ e
    omega
  exact ⟨⟨fun _ e => hne e.symm, fun _ e => hne e⟩, ⟨fun _ e => hne e, fun _ e => hne e.symm⟩⟩
theorem raddPr_app {n : Nat} {ok : Nat → Prop} {base : Nat} {l : List Sb} {cs : List Value} {q : Nat × Nat} {W : World} {t u v : Value} {b : Nat} (h : raddSp n ok base l cs q.1 u W) (hp : q.1 = 21 → raddPr 1 q.1 t u) (ht : t.ownBlock = some b)
    (hv : v.ownBlock = some b ∨ ∃ k, v.ownBlock = some k ∧ W.heap.size ≤ k) : raddPr 6 q.1 v u ∧ raddPr q.1 6 u v := by
  have key : q.1 = 21 → v.ownBlock ≠ u.ownBlock := fun h21 e => by
    rcases hv with hv | ⟨k, hv, hk⟩
    · exact (hp h21).1 h21 (by rw [ht, ← hv, e])
    · have := raddSp_lt h k (by rw [← e, hv])
      omega
  exact ⟨⟨key, fun h => by cases h⟩, ⟨fun h => (by cases h), fun h e => key h e⟩⟩
set_option maxRecDepth 100000 in
set_option maxHeartbeats 16000000 in
theorem RAdd_calls {w : World} {n g : Nat} {ok okX : Nat → Prop} {D : Fdr} (h : Rf n ok w g D) (hgd : Good n D) (hf : Fresh ok w) {f : Flt} {x : Value} (hx : FV n w okX x f) (hox : ∀ k, okX k → ok k) (hok : okL (n + 1) f) :
    Calls Try.prog 22 #[.pointer (some ⟨g, 0, none⟩), x] w (RfPost n ok g (addR n D f).2 (.tuple #[.int .i64 (addR n D f).1.1, .int .i64 (addR n D f).1.2]) w) := by
  have hs : D.subs.length ≤ 4 := hgd.subs
  have hnx : D.next ≤ 1099511627776 := hgd.next.2
  have hn0 : 1 ≤ D.next := hgd.next.1
  clear hgd
  have HF := Lib.hid h
  have FF := Lib.hid hf
  have VX := Lib.hid hx
  obtain ⟨v, rfl, hr⟩ := hx
  obtain ⟨op, key, val, kids⟩ := f
  obtain ⟨A, m, c, rfl, -⟩ := rd_abs hr
  have KX : Hid (Rd (fltK n) w (fun k => okX k ∧ k < w.heap.size) (.slice A m c) kids) := hr.bound
  have HOKX := Lib.hid hox
  clear hr hox
  show Calls Try.prog 22 #[.pointer (some ⟨g, 0, none⟩), .agg #[.int .i64 op, .string key, .string val, .slice A m c]] w _
  have HOL := Lib.hid hok
  have HS := Lib.hid hs
  obtain ⟨A1, n1, c1, A2, n2, c2, hb, h1, h2, h3⟩ := h
  have hn2 : n2 = D.subs.length := by
    obtain ⟨_, _, hs, _, _⟩ := h2.slice
    simp only [Value.slice.injEq] at hs
    exact hs.2.1
  have HN2 := Lib.hid hn2
  have hn2l : (n2 : Int) ≤ 4 := by omega
  have HB := Lib.hid hb
  have H2 := Lib.hid h2
  have hgl := blk_lt hb
  obtain ⟨q, hq⟩ : ∃ q, w.heap.size = q := ⟨_, rfl⟩
  obtain ⟨w1, hw1⟩ : ∃ w1, w.alloc (.cells #[.int .i64 op, .string key, .string val, .slice A m c] 24) = w1 := ⟨_, rfl⟩
  have E1 : Hid (Ext Non w w1) := by rw [← hw1]; exact (Ext.refl _ _).alloc _
  have BQ1 : Hid (w1.heap[q]? = some (.cells #[.int .i64 op, .string key, .string val, .slice A m c] 24 (0, 0))) := by rw [← hw1, ← hq]; exact blk_new w _
  have BG1 : Hid (RfB w1 g (.slice A1 n1 c1) (.slice A2 n2 c2) D.next D.top) := E1.out.obj HB.out (fun e => e)
  have k0 := blk_cell BQ1.out 0
  have k1 := blk_cell BQ1.out 1
  have k2 := blk_cell BQ1.out 2
  have k3 := blk_cell BQ1.out 3
  have hql := blk_lt BQ1.out
  have HC0 : Hid (Calls Try.prog 20 #[.agg #[.int .i64 op, .string key, .string val, .slice A m c]] w1 fun e w' => e = .returned (.int .i64 (checkE (n + 1) (.mk op key val kids))) ∧ Ext Non w1 w') := RCheck_calls (VX.out.ext0 E1.out) HOL.out
  clear hf hok hs hb h1 h2 h3 hn2
  by_cases ca : checkE (n + 1) (.mk op key val kids) = 0
  · have HC : Hid (Calls Try.prog 20 #[.agg #[.int .i64 op, .string key, .string val, .slice A m c]] w1 fun e w' => e = .returned (.int .i64 0) ∧ Ext Non w1 w') := by
      have := HC0.out
      rw [ca] at this
      exact this
    by_cases cb : n2 = 4
    · have HT : Hid (addR n D (.mk op key val kids) = ((0, 7), D)) := (if_neg (fun h => h ca)).trans (if_pos (by rw [← HN2.out, cb]; exact Nat.le_refl _))
      subst cb
      clear ca
      go_enter Try.func22, Try.ntmps22
      go_wp2_with fail
      refine HC.out.mono ?_
      rintro e w2 ⟨rfl, he⟩
      have b1 : w2.cell? ⟨g, 1, none⟩ = _ := blk_cell (he.obj BG1.out (fun e => e)) 1
      have EW : Hid (Ext Non w w2) := E1.out.trans0 he
      clear he
      go_wp2_with fail
      go_ret2
      rw [HT.out]
      exact ⟨rfl, HF.out.ext0 EW.out, EW.out.of0⟩
    · have hbn : ((n2 : Int) == 4) = false := beq_eq_false_iff_ne.2 (by omega)
      have cb' : ¬ 4 ≤ D.subs.length := by rw [← HN2.out]; omega
      by_cases cc : D.next = 1099511627776
      · have HT : Hid (addR n D (.mk op key val kids) = ((0, 5), D)) := (if_neg (fun h => h ca)).trans ((if_neg cb').trans (if_pos (by omega)))
        have hcb : (D.next == 1099511627776) = true := beq_iff_eq.2 cc
        have HB1 : Hid (RfB w1 g (.slice A1 n1 c1) (.slice A2 n2 c2) D.next D.top) := BG1.out
        clear ca cc cb'
        go_enter Try.func22, Try.ntmps22
        go_wp2_with fail
        refine HC.out.mono ?_
        rintro e w2 ⟨rfl, he⟩
        have b1 : w2.cell? ⟨g, 1, none⟩ = _ := blk_cell (he.obj HB1.out (fun e => e)) 1
        have b2 : w2.cell? ⟨g, 2, none⟩ = _ := blk_cell (he.obj HB1.out (fun e => e)) 2
        have EW : Hid (Ext Non w w2) := E1.out.trans0 he
        clear he
        go_wp2_with fail
        go_ret2
        rw [HT.out]
        exact ⟨rfl, HF.out.ext0 EW.out, EW.out.of0⟩
      · have HT : Hid (addR n D (.mk op key val kids) = ((D.next, 0), { D with subs := D.subs ++ [⟨D.next, D.top, D.top, .mk op key val kids, false⟩], next := D.next + 1 })) := (if_neg (fun h => h ca)).trans ((if_neg cb').trans (if_neg (by omega)))
        have hcb : (D.next == 1099511627776) = false := beq_eq_false_iff_ne.2 cc
        clear ca cc cb'
        go_enter Try.func22, Try.ntmps22
        go_wp2_with fail
        refine HC.out.mono ?_
        rintro e w2 ⟨rfl, he⟩
        have BG : Hid (RfB w2 g (.slice A1 n1 c1) (.slice A2 n2 c2) D.next D.top) := he.obj BG1.out (fun e => e)
        have BQ : Hid (w2.heap[q]? = some (.cells #[.int .i64 op, .string key, .string val, .slice A m c] 24 (0, 0))) := he.obj BQ1.out (fun e => e)
        have EW : Hid (Ext Non w w2) := E1.out.trans0 he
        have b1 := blk_cell BG.out 1
        have b2 := blk_cell BG.out 2
        have b3 := blk_cell BG.out 3
        clear he k0 k1 k2 k3
        have k0 := blk_cell BQ.out 0
        have k1 := blk_cell BQ.out 1
        have k2 := blk_cell BQ.out 2
        have k3 := blk_cell BQ.out 3
        go_wp2_with fail
        refine Last.start_ (S := fun W => W.cell? ⟨g, 1, none⟩ = some (.slice A2 n2 c2) ∧ W.cell? ⟨g, 2, none⟩ = some (.int .i64 D.next) ∧ W.cell? ⟨g, 3, none⟩ = some (.int .i64 D.top) ∧ W.cell? ⟨q, 0, none⟩ = some (.int .i64 op) ∧ W.cell? ⟨q, 1, none⟩ = some (.string key) ∧ W.cell? ⟨q, 2, none⟩ = some (.string val) ∧ W.cell? ⟨q, 3, none⟩ = some (.slice A m c)) (ds := [25]) #[false, false, false, false, false, false, false, false, false, false, false, false, false, false, false, false, false, false, false, false, false, false, false, false, false, false] (by kernel_rfl) (by rfl) (by rfl) (raddS (Ext.refl Non w2).drew BG.out BQ.out) (fun hS => ?_)
        refine Last.take_ (i := 0) (N := some 23) (v := .pointer (some ⟨g, 0, none⟩)) #[true, false, false, false, false, false, false, false, false, false, false, false, false, false, false, false, false, false, false, false, false, false, false, false, false, false] (by simp only [List.getElem?_toArray, List.getElem?_cons_zero]; rfl) rfl (by kernel_rfl) (by exact fun _ _ _ h => h) (Or.inl ⟨by rfl, fun W hW => by first | rfl | (try dsimp only at hW); go_simp⟩) hS rfl ?_
        simp only [Act.put, List.setIfInBounds_toArray, List.set_cons_zero, List.set_cons_succ]
        refine Last.take_ (i := 2) (N := some 25) (v := .pointer (some ⟨g, 0, none⟩)) #[true, false, true, false, false, false, false, false, false, false, false, false, false, false, false, false, false, false, false, false, false, false, false, false, false, false] (by simp only [List.getElem?_toArray, List.getElem?_cons_zero, List.getElem?_cons_succ]; rfl) rfl (by kernel_rfl) (by exact fun _ _ _ h => h) (Or.inl ⟨by rfl, fun W hW => by first | rfl | (try dsimp only at hW); go_simp⟩) hS rfl ?_
        simp only [Act.put, List.setIfInBounds_toArray, List.set_cons_zero, List.set_cons_succ]
        refine Last.take_ (i := 3) (N := some 26) (v := .pointer (some ⟨g, 0, none⟩)) #[true, false, true, true, false, false, false, false, false, false, false, false, false, false, false, false, false, false, false, false, false, false, false, false, false, false] (by simp only [List.getElem?_toArray, List.getElem?_cons_zero, List.getElem?_cons_succ]; rfl) rfl (by kernel_rfl) (by exact fun _ _ _ h => h) (Or.inl ⟨by rfl, fun W hW => by first | rfl | (try dsimp only at hW); go_simp⟩) hS rfl ?_
        simp only [Act.put, List.setIfInBounds_toArray, List.set_cons_zero, List.set_cons_succ]
        refine Last.take_ (i := 4) (N := some 27) (v := .pointer (some ⟨g, 1, none⟩)) #[true, false, true, true, true, false, false, false, false, false, false, false, false, false, false, false, false, false, false, false, false, false, false, false, false, false] (by simp only [List.getElem?_toArray, List.getElem?_cons_zero, List.getElem?_cons_succ]; rfl) rfl (by kernel_rfl) (by exact fun _ _ _ h => h) (Or.inl ⟨by rfl, fun W hW => by first | rfl | (try dsimp only at hW); go_simp⟩) hS rfl ?_
        simp only [Act.put, List.setIfInBounds_toArray, List.set_cons_zero, List.set_cons_succ]
        refine Last.take_ (i := 5) (N := some 28) (v := .slice A2 n2 c2) #[true, false, true, true, true, true, false, false, false, false, false, false, false, false, false, false, false, false, false, false, false, false, false, false, false, false] (by simp only [List.getElem?_toArray, List.getElem?_cons_zero, List.getElem?_cons_succ]; rfl) rfl (by kernel_rfl) (by exact fun _ _ _ h => h) (Or.inl ⟨by rfl, fun W hW => by first | rfl | (try dsimp only at hW); go_simp⟩) hS rfl ?_
        simp only [Act.put, List.setIfInBounds_toArray, List.set_cons_zero, List.set_cons_succ]
        refine Last.take_ (i := 7) (N := some 30) (v := .pointer (some ⟨g, 0, none⟩)) #[true, false, true, true, true, true, false, true, false, false, false, false, false, false, false, false, false, false, false, false, false, false, false, false, false, false] (by simp only [List.getElem?_toArray, List.getElem?_cons_zero, List.getElem?_cons_succ]; rfl) rfl (by kernel_rfl) (by exact fun _ _ _ h => h) (Or.inl ⟨by rfl, fun W hW => by first | rfl | (try dsimp only at hW); go_simp⟩) hS rfl ?_
        simp only [Act.put, List.setIfInBounds_toArray, List.set_cons_zero, List.set_cons_succ]
        refine Last.take_ (i := 8) (N := some 31) (v := .pointer (some ⟨g, 0, none⟩)) #[true, false, true, true, true, true, false, true, true, false, false, false, false, false, false, false, false, false, false, false, false, false, false, false, false, false] (by simp only [List.getElem?_toArray, List.getElem?_cons_zero, List.getElem?_cons_succ]; rfl) rfl (by kernel_rfl) (by exact fun _ _ _ h => h) (Or.inl ⟨by rfl, fun W hW => by first | rfl | (try dsimp only at hW); go_simp⟩) hS rfl ?_
        simp only [Act.put, List.setIfInBounds_toArray, List.set_cons_zero, List.set_cons_succ]
        refine Last.take_ (i := 9) (N := some 32) (v := .pointer (some ⟨g, 2, none⟩)) #[true, false, true, true, true, true, false, true, true, true, false, false, false, false, false, false, false, false, false, false, false, false, false, false, false, false] (by simp only [List.getElem?_toArray, List.getElem?_cons_zero, List.getElem?_cons_succ]; rfl) rfl (by kernel_rfl) (by exact fun _ _ _ h => h) (Or.inl ⟨by rfl, fun W hW => by first | rfl | (try dsimp only at hW); go_simp⟩) hS rfl ?_
        simp only [Act.put, List.setIfInBounds_toArray, List.set_cons_zero, List.set_cons_succ]
        refine Last.take_ (i := 10) (N := some 33) (v := .int .i64 D.next) #[true, false, true, true, true, true, false, true, true, true, true, false, false, false, false, false, false, false, false, false, false, false, false, false, false, false] (by simp only [List.getElem?_toArray, List.getElem?_cons_zero, List.getElem?_cons_succ]; rfl) rfl (by kernel_rfl) (by exact fun _ _ _ h => h) (Or.inl ⟨by rfl, fun W hW => by first | rfl | (try dsimp only at hW); go_simp⟩) hS rfl ?_
        simp only [Act.put, List.setIfInBounds_toArray, List.set_cons_zero, List.set_cons_succ]
        refine Last.take_ (i := 11) (N := some 34) (v := .pointer (some ⟨g, 0, none⟩)) #[true, false, true, true, true, true, false, true, true, true, true, true, false, false, false, false, false, false, false, false, false, false, false, false, false, false] (by simp only [List.getElem?_toArray, List.getElem?_cons_zero, List.getElem?_cons_succ]; rfl) rfl (by kernel_rfl) (by exact fun _ _ _ h => h) (Or.inl ⟨by rfl, fun W hW => by first | rfl | (try dsimp only at hW); go_simp⟩) hS rfl ?_
        simp only [Act.put, List.setIfInBounds_toArray, List.set_cons_zero, List.set_cons_succ]
        refine Last.take_ (i := 12) (N := some 35) (v := .pointer (some ⟨g, 0, none⟩)) #[true, false, true, true, true, true, false, true, true, true, true, true, true, false, false, false, false, false, false, false, false, false, false, false, false, false] (by simp only [List.getElem?_toArray, List.getElem?_cons_zero, List.getElem?_cons_succ]; rfl) rfl (by kernel_rfl) (by exact fun _ _ _ h => h) (Or.inl ⟨by rfl, fun W hW => by first | rfl | (try dsimp only at hW); go_simp⟩) hS rfl ?_
        simp only [Act.put, List.setIfInBounds_toArray, List.set_cons_zero, List.set_cons_succ]
        refine Last.take_ (i := 13) (N := some 36) (v := .pointer (some ⟨g, 3, none⟩)) #[true, false, true, true, true, true, false, true, true, true, true, true, true, true, false, false, false, false, false, false, false, false, false, false, false, false] (by simp only [List.getElem?_toArray, List.getElem?_cons_zero, List.getElem?_cons_succ]; rfl) rfl (by kernel_rfl) (by exact fun _ _ _ h => h) (Or.inl ⟨by rfl, fun W hW => by first | rfl | (try dsimp only at hW); go_simp⟩) hS rfl ?_
        simp only [Act.put, List.setIfInBounds_toArray, List.set_cons_zero, List.set_cons_succ]
        refine Last.take_ (i := 14) (N := some 37) (v := .int .i64 D.top) #[true, false, true, true, true, true, false, true, true, true, true, true, true, true, true, false, false, false, false, false, false, false, false, false, false, false] (by simp only [List.getElem?_toArray, List.getElem?_cons_zero, List.getElem?_cons_succ]; rfl) rfl (by kernel_rfl) (by exact fun _ _ _ h => h) (Or.inl ⟨by rfl, fun W hW => by first | rfl | (try dsimp only at hW); go_simp⟩) hS rfl ?_
        simp only [Act.put, List.setIfInBounds_toArray, List.set_cons_zero, List.set_cons_succ]
        refine Last.take_ (i := 15) (N := some 38) (v := .pointer (some ⟨g, 0, none⟩)) #[true, false, true, true, true, true, false, true, true, true, true, true, true, true, true, true, false, false, false, false, false, false, false, false, false, false] (by simp only [List.getElem?_toArray, List.getElem?_cons_zero, List.getElem?_cons_succ]; rfl) rfl (by kernel_rfl) (by exact fun _ _ _ h => h) (Or.inl ⟨by rfl, fun W hW => by first | rfl | (try dsimp only at hW); go_simp⟩) hS rfl ?_
        simp only [Act.put, List.setIfInBounds_toArray, List.set_cons_zero, List.set_cons_succ]
        refine Last.take_ (i := 16) (N := some 39) (v := .pointer (some ⟨g, 0, none⟩)) #[true, false, true, true, true, true, false, true, true, true, true, true, true, true, true, true, true, false, false, false, false, false, false, false, false, false] (by simp only [List.getElem?_toArray, List.getElem?_cons_zero, List.getElem?_cons_succ]; rfl) rfl (by kernel_rfl) (by exact fun _ _ _ h => h) (Or.inl ⟨by rfl, fun W hW => by first | rfl | (try dsimp only at hW); go_simp⟩) hS rfl ?_
        simp only [Act.put, List.setIfInBounds_toArray, List.set_cons_zero, List.set_cons_succ]
        refine Last.take_ (i := 17) (N := some 40) (v := .pointer (some ⟨g, 3, none⟩)) #[true, false, true, true, true, true, false, true, true, true, true, true, true, true, true, true, true, true, false, false, false, false, false, false, false, false] (by simp only [List.getElem?_toArray, List.getElem?_cons_zero, List.getElem?_cons_succ]; rfl) rfl (by kernel_rfl) (by exact fun _ _ _ h => h) (Or.inl ⟨by rfl, fun W hW => by first | rfl | (try dsimp only at hW); go_simp⟩) hS rfl ?_
        simp only [Act.put, List.setIfInBounds_toArray, List.set_cons_zero, List.set_cons_succ]
        refine Last.take_ (i := 18) (N := some 41) (v := .int .i64 D.top) #[true, false, true, true, true, true, false, true, true, true, true, true, true, true, true, true, true, true, true, false, false, false, false, false, false, false] (by simp only [List.getElem?_toArray, List.getElem?_cons_zero, List.getElem?_cons_succ]; rfl) rfl (by kernel_rfl) (by exact fun _ _ _ h => h) (Or.inl ⟨by rfl, fun W hW => by first | rfl | (try dsimp only at hW); go_simp⟩) hS rfl ?_
        simp only [Act.put, List.setIfInBounds_toArray, List.set_cons_zero, List.set_cons_succ]
        refine Last.take_ (i := 19) (N := some 42) (v := .agg #[.int .i64 op, .string key, .string val, .slice A m c]) #[true, false, true, true, true, true, false, true, true, true, true, true, true, true, true, true, true, true, true, true, false, false, false, false, false, false] (by simp only [List.getElem?_toArray, List.getElem?_cons_zero, List.getElem?_cons_succ]; rfl) rfl (by kernel_rfl) (by exact fun _ _ _ h => h) (Or.inl ⟨by rfl, fun W hW => by first | rfl | (try dsimp only at hW); go_simp⟩) hS rfl ?_
        simp only [Act.put, List.setIfInBounds_toArray, List.set_cons_zero, List.set_cons_succ]
        refine Last.take_ (i := 20) (N := some 43) (v := .agg #[.int .i64 D.next, .int .i64 D.top, .int .i64 D.top, .int .i64 op, .string key, .string val, .slice A m c, .bool false]) #[true, false, true, true, true, true, false, true, true, true, true, true, true, true, true, true, true, true, true, true, true, false, false, false, false, false] (by simp only [List.getElem?_toArray, List.getElem?_cons_zero, List.getElem?_cons_succ]; rfl) rfl (by kernel_rfl) (by exact fun _ _ _ h => h) (Or.inl ⟨by rfl, fun W hW => by first | rfl | (try dsimp only at hW); go_simp⟩) hS rfl ?_
        simp only [Act.put, List.setIfInBounds_toArray, List.set_cons_zero, List.set_cons_succ]
        obtain ⟨w3, hw3⟩ : ∃ w3, w2.drew = w3 := ⟨_, rfl⟩
        have E3 : Hid (Ext Non w2 w3) := by rw [← hw3]; exact (Ext.refl Non w2).drew
        rw [hw3] at hS ⊢
        clear hw3
        refine Last.spec_ (f1 := 4) #[true, true, true, true, true, true, true, true, true, true, true, true, true, true, true, true, true, true, true, true, true, true, false, false, false, false] [(1, 24), (6, 29), (21, 44)] (raddSp n ok w2.heap.size D.subs [.int .i64 D.next, .int .i64 D.top, .int .i64 D.top, .int .i64 op, .string key, .string val, .slice A m c, .bool false]) raddPr rfl (by kernel_rfl) (raddSp_mono _ _ _ _ _) (fun X Y he h => ⟨he.cell h.1 (fun e => e), he.cell h.2.1 (fun e => e), he.cell h.2.2.1 (fun e => e), he.cell h.2.2.2.1 (fun e => e), he.cell h.2.2.2.2.1 (fun e => e), he.cell h.2.2.2.2.2.1 (fun e => e), he.cell h.2.2.2.2.2.2 (fun e => e)⟩) ?_ ?_
        · intro p hp o ho a W L he hkn K hK
          have hsz := he.size
          have hs23 := E3.out.size
          have hsw := EW.out.size
          rcases (by simpa using hp : p = (1, 24) ∨ p = (6, 29) ∨ p = (21, 44)) with rfl | rfl | rfl
          · obtain rfl := Option.some.inj (ho.symm.trans (by simp only [List.getElem?_toArray, List.getElem?_cons_zero, List.getElem?_cons_succ]; rfl))
            clear ho hp
            have HKN := Lib.hid hkn
            clear hkn
            refine Last.value_ (N := some 24) (by rfl) rfl (v := .slice (some ⟨W.heap.size, 0, none⟩) 0 0) (w1 := W.alloc (.cells #[] 64)) (by go_simp) ?_
            refine hK.out _ _ ((Ext.refl Non W).alloc _) ⟨_, rfl, by omega, blk_new W _⟩ (fun q hq => raddPr_new (by decide) (HKN.out.spec q hq))
          · obtain rfl := Option.some.inj (ho.symm.trans (by simp only [List.getElem?_toArray, List.getElem?_cons_zero, List.getElem?_cons_succ]; rfl))
            clear ho hp
            obtain ⟨b, hb1, hb2, hb3⟩ : raddSp n ok w2.heap.size D.subs [.int .i64 D.next, .int .i64 D.top, .int .i64 D.top, .int .i64 op, .string key, .string val, .slice A m c, .bool false] 1 (a.eval (.tmp 24)) W := hkn.spec (1, 24) (hkn.after ⟨1, .data⟩ (by simp) (by rfl) 24 (by simp))
            have hL1 : L (1, 24) := hkn.after ⟨1, .data⟩ (by simp) (by rfl) 24 (by simp)
            have h28 := hkn.same 28 (by simp)
            have hbl := blk_lt hb3
            refine step_app_empty (sbK n) (ok := ok) (vx := .slice A2 n2 c2) (ys := D.subs) w2.heap.size (by rfl) _ _ 53 64 _ 96 (by rfl) Try.underlying53 (info64 n) rfl (by show 0 < 8; decide) hb1 (h28.trans (by simp [Act.eval])) hb2 (FF.out _ (by omega)) hb3 ?_ (fun k hk => FF.out k (by omega)) (by have := HS.out; omega) (by have := HS.out; omega) (by omega) ?_
            · exact (H2.out.bound.ext0 (EW.out.trans0 (E3.out.trans0 he))).mono (fun k hk => ⟨hk.1, fun e => by have := hk.2; omega⟩)
            · intro v' W' hown hext hblk
              refine hK.out _ _ hext hown (fun q hq => raddPr_app (hkn.spec q hq) (fun h => hkn.pair (1, 24) q hL1 hq (fun e => by rw [← e] at h; cases h)) (by rw [hb1]; rfl) hblk)
          · obtain rfl := Option.some.inj (ho.symm.trans (by simp only [List.getElem?_toArray, List.getElem?_cons_zero, List.getElem?_cons_succ]; rfl))
            clear ho hp
            have h43 : a.eval (.tmp 43) = .agg #[.int .i64 D.next, .int .i64 D.top, .int .i64 D.top, .int .i64 op, .string key, .string val, .slice A m c, .bool false] := (hkn.same 43 (by simp)).trans (by simp [Act.eval])
            have h43' : a.tmps[43]?.getD undef = .agg #[.int .i64 D.next, .int .i64 D.top, .int .i64 D.top, .int .i64 op, .string key, .string val, .slice A m c, .bool false] := by simpa [Act.eval] using h43
            have HKN := Lib.hid hkn
            clear hkn h43
            refine Last.value_ (N := some 44) (by rfl) rfl (v := .slice (some ⟨W.heap.size, 0, none⟩) 1 1) (w1 := W.alloc (.cells [.int .i64 D.next, .int .i64 D.top, .int .i64 D.top, .int .i64 op, .string key, .string val, .slice A m c, .bool false].toArray 64)) (by go_simp) ?_
            refine hK.out _ _ ((Ext.refl Non W).alloc _) ⟨_, rfl, by omega, blk_new W _⟩ (fun q hq => raddPr_new (by decide) (HKN.out.spec q hq))
        intro vs W he hsp hpr
        have h6 : Own (sbK n) 64 W w2.heap.size ok (vs 6) D.subs := hsp (6, 29) (by simp)
        obtain ⟨b21, h21, h21b, h21c⟩ : raddSp n ok w2.heap.size D.subs [.int .i64 D.next, .int .i64 D.top, .int .i64 D.top, .int .i64 op, .string key, .string val, .slice A m c, .bool false] 21 (vs 21) W := hsp (21, 44) (by simp)
        have hne : (vs 6).ownBlock ≠ some b21 := by
          have := (hpr (6, 29) (by simp) (21, 44) (by simp) (by decide)).1 rfl
          rw [h21] at this
          exact this
        obtain ⟨v1, hv1⟩ : ∃ v1, vs 1 = v1 := ⟨_, rfl⟩
        obtain ⟨v6, hv6⟩ : ∃ v6, vs 6 = v6 := ⟨_, rfl⟩
        obtain ⟨v21, hv21⟩ : ∃ v21, vs 21 = v21 := ⟨_, rfl⟩
        rw [hv6] at h6 hne
        rw [hv21] at h21
        have E4 : Hid (Ext Non w2 W) := E3.out.trans0 he
        have hS : W.cell? ⟨g, 1, none⟩ = some (.slice A2 n2 c2) ∧ W.cell? ⟨g, 2, none⟩ = some (.int .i64 D.next) ∧ W.cell? ⟨g, 3, none⟩ = some (.int .i64 D.top) ∧ W.cell? ⟨q, 0, none⟩ = some (.int .i64 op) ∧ W.cell? ⟨q, 1, none⟩ = some (.string key) ∧ W.cell? ⟨q, 2, none⟩ = some (.string val) ∧ W.cell? ⟨q, 3, none⟩ = some (.slice A m c) := raddS E4.out BG.out BQ.out
        simp only [Last.fill, hv1, hv6, hv21, Act.put, List.setIfInBounds_toArray, List.set_cons_zero, List.set_cons_succ]
        subst h21
        have O6 := Lib.hid h6
        have B21 := Lib.hid h21c
        have HNE := Lib.hid hne
        have hb21 := blk_lt h21c
        have hs4 := E4.out.size
        have hsW := EW.out.size
        clear hsp hpr hv1 hv6 hv21 h6 h21c hne he
        refine Last.one_ (i := 22) (N := some 45) #[true, true, true, true, true, true, true, true, true, true, true, true, true, true, true, true, true, true, true, true, true, true, true, false, false, false] (by simp only [List.getElem?_toArray, List.getElem?_cons_zero, List.getElem?_cons_succ]; rfl) rfl (by kernel_rfl) (by decide) (fun K hK => ?_)
        have hM6 : ∀ k, some k = v6.ownBlock → w2.heap.size ≤ k ∧ k < W.heap.size := fun k h => O6.out.base_le k h.symm
        refine step_app (sbK n) (ok := ok) (v := v6) (vx := .slice (some ⟨b21, 0, none⟩) 1 1) (xs := D.subs) (ys := [⟨D.next, D.top, D.top, .mk op key val kids, false⟩]) w2.heap.size (by rfl) _ _ 53 64 _ 96 (by rfl) Try.underlying53 (info64 n) rfl (by show 0 < 8; decide) (by simp [Act.eval]) (by simp [Act.eval]) O6.out ?_ ?_ ?_ ?_ ?_ ?_
        · refine Rd.lit_at (cs := [.int .i64 D.next, .int .i64 D.top, .int .i64 D.top, .int .i64 op, .string key, .string val, .slice A m c, .bool false]) (e := 64) (fr := (0, 0)) B21.out ⟨_, rfl, ?_⟩ ⟨FF.out _ (by omega), fun h => HNE.out h.symm⟩
          exact ((KX.out.ext0 EW.out).ext0 E4.out).mono (fun k hk => ⟨HOKX.out k hk.1, fun h => by have := hM6 _ h; have := hk.2; omega⟩)
        · exact fun k hk => FF.out k (by omega)
        · have := HS.out; simp only [List.length_singleton]; omega
        · have := HS.out; simp only [List.length_singleton]; omega
        · omega
        intro v' w5 hown hext hblk
        obtain ⟨A7, n7, c7, rfl⟩ : ∃ A n c, v' = .slice A n c := by obtain ⟨A6, c6, h6, _, _⟩ := hown.slice; exact ⟨_, _, _, h6⟩
        have E5 : Hid (Ext Non w2 w5) := E4.out.trans hext (fun k hk h => by have := hM6 _ h; omega)
        have O5 := Lib.hid hown
        have g1 : w5.cell? ⟨g, 1, none⟩ = _ := blk_cell (E5.out.obj BG.out (fun e => e)) 1
        have z1 : w5.frozen? ⟨g, 1, none⟩ = false := blk_frozen (E5.out.obj BG.out (fun e => e)) 1
        have hg5 := blk_lt (E5.out.obj BG.out (fun e => e))
        clear hown hext hblk
        refine hK.out _ _ (raddS E5.out BG.out BQ.out) (fun hS => ?_)
        try simp only [Act.put, List.setIfInBounds_toArray, List.set_cons_zero, List.set_cons_succ]
        refine Last.take_ (i := 23) (N := some 46) (v := .pointer (some ⟨g, 0, none⟩)) #[true, true, true, true, true, true, true, true, true, true, true, true, true, true, true, true, true, true, true, true, true, true, true, true, false, false] (by simp only [List.getElem?_toArray, List.getElem?_cons_zero, List.getElem?_cons_succ]; rfl) rfl (by kernel_rfl) (by exact fun _ _ _ h => h) (Or.inl ⟨by rfl, fun W hW => by first | rfl | (try dsimp only at hW); go_simp⟩) hS rfl ?_
        simp only [Act.put, List.setIfInBounds_toArray, List.set_cons_zero, List.set_cons_succ]
        refine Last.take_ (i := 24) (N := some 47) (v := .pointer (some ⟨g, 1, none⟩)) #[true, true, true, true, true, true, true, true, true, true, true, true, true, true, true, true, true, true, true, true, true, true, true, true, true, false] (by simp only [List.getElem?_toArray, List.getElem?_cons_zero, List.getElem?_cons_succ]; rfl) rfl (by kernel_rfl) (by exact fun _ _ _ h => h) (Or.inl ⟨by rfl, fun W hW => by first | rfl | (try dsimp only at hW); go_simp⟩) hS rfl ?_
        simp only [Act.put, List.setIfInBounds_toArray, List.set_cons_zero, List.set_cons_succ]
        refine Last.last_ (i := 25) (N := none) #[true, true, true, true, true, true, true, true, true, true, true, true, true, true, true, true, true, true, true, true, true, true, true, true, true, true] (by simp only [List.getElem?_toArray, List.getElem?_cons_zero, List.getElem?_cons_succ]; rfl) rfl (by kernel_rfl) (by decide) (fun K hK => ?_)
        go_simp
        refine hK.out _ _ ?_
        try simp only [Act.put, List.setIfInBounds_toArray, List.set_cons_zero, List.set_cons_succ]
        refine Last.done_ (by kernel_rfl) ?_
        have B5 : RfB w5 g _ _ _ _ := E5.out.obj BG.out (fun e => e)
        have B6 : RfB (w5.setCell ⟨g, 1, none⟩ (.slice A7 n7 c7)) g _ _ _ _ := blk_set B5 1 _
        have y2 := blk_cell B6 2
        have yz := blk_frozen B6 2
        have F5 : Rf n ok w5 g D := HF.out.ext0 (EW.out.trans0 E5.out)
        have F6 := F5.setSubs O5.out.rd
        have F7 := Lib.hid (F6.setNext (D.next + 1))
        have E7 : Hid (Ext (Only g) w ((w5.setCell ⟨g, 1, none⟩ (.slice A7 n7 c7)).setCell ⟨g, 2, none⟩ (.int .i64 (D.next + 1)))) := ((EW.out.trans0 E5.out).of0.trans (og_set w5 g 1 _) (fun _ _ h => h)).trans (og_set _ g 2 _) (fun _ _ h => h)
        clear B5 B6 F5 F6
        go_wp2_with fail
        go_ret2
        rw [HT.out]
        exact ⟨rfl, F7.out, E7.out⟩
  · have HT : Hid (addR n D (.mk op key val kids) = ((0, checkE (n + 1) (.mk op key val kids)), D)) := if_pos ca
    obtain ⟨cv, hcv⟩ : ∃ cv, checkE (n + 1) (.mk op key val kids) = cv := ⟨_, rfl⟩
    rw [hcv] at HT HC0 ca
    have ev : (cv == 0) = false := beq_eq_false_iff_ne.2 ca
    clear hcv
    go_enter Try.func22, Try.ntmps22
    go_wp2_with fail
    refine HC0.out.mono ?_
    rintro e w2 ⟨rfl, he⟩
    have EW : Hid (Ext Non w w2) := E1.out.trans0 he
    clear he
    go_wp2_with fail
    go_ret2
    rw [HT.out]
    exact ⟨rfl, HF.out.ext0 EW.out, EW.out.of0⟩
end Go.Proofs.Ytdjfijdnhfmeeaa
