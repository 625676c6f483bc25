/- Cells of a feed laid anew; trim. -/
import Derived.Test.YtdjfijdnhfmeeaaQ7
namespace Go.Proofs.Ytdjfijdnhfmeeaa
open Go.RowKit Go.TM
section
variable {w : World} {n g : Nat} {ok : Nat → Prop} {D : Fdr}
theorem Fd.ext' {M : Nat → Prop} {w1 : World} (h : Fd n ok w g D) (he : Ext M w w1) (hm : ∀ k, ok k → k < w.heap.size → ¬ M k) (hg : ¬ M g) : Fd n ok w1 g D := by
  obtain ⟨A1, n1, c1, A2, n2, c2, hb, h1, h2, h3⟩ := h
  exact ⟨A1, n1, c1, A2, n2, c2, he.obj hb hg, h1.ext he hm, h2.ext he hm, h3⟩
theorem Fd.setEvs (h : Fd n ok w g D) {v : Value} {l : List Ev} (hr : Rd evK w ok v l) : Fd n ok (w.setCell ⟨g, 0, none⟩ v) g { D with evs := l } := by
  obtain ⟨A1, n1, c1, A2, n2, c2, hb, h1, h2, h3⟩ := h
  obtain ⟨A, c, rfl, -⟩ := hr.slice
  have he : Ext (Only g) w (w.setCell ⟨g, 0, none⟩ (.slice A l.length c)) := Ext.setCell (Ext.refl (Only g) w) (p := ⟨g, 0, none⟩) (fun _ => rfl) _
  have hm : ∀ k, ok k → k < w.heap.size → ¬ Only g k := fun k hk _ e => h3 (by have e' : k = g := e; rw [← e']; exact hk)
  exact ⟨A, _, c, A2, n2, c2, blk_set hb 0 _, hr.ext he hm, h2.ext he hm, h3⟩
theorem Fd.setSubs (h : Fd n ok w g D) {v : Value} {l : List Sb} (hr : Rd (sbK n) w ok v l) : Fd n ok (w.setCell ⟨g, 1, none⟩ v) g { D with subs := l } := by
  obtain ⟨A1, n1, c1, A2, n2, c2, hb, h1, h2, h3⟩ := h
  obtain ⟨A, c, rfl, -⟩ := hr.slice
  have he : Ext (Only g) w (w.setCell ⟨g, 1, none⟩ (.slice A l.length c)) := Ext.setCell (Ext.refl (Only g) w) (p := ⟨g, 1, none⟩) (fun _ => rfl) _
  have hm : ∀ k, ok k → k < w.heap.size → ¬ Only g k := fun k hk _ e => h3 (by have e' : k = g := e; rw [← e']; exact hk)
  exact ⟨A1, n1, c1, A, _, c, blk_set hb 1 _, h1.ext he hm, hr.ext he hm, h3⟩
theorem Fd.setNext (h : Fd n ok w g D) (x : Int) : Fd n ok (w.setCell ⟨g, 2, none⟩ (.int .i64 x)) g { D with next := x } := by
  obtain ⟨A1, n1, c1, A2, n2, c2, hb, h1, h2, h3⟩ := h
  have he : Ext (Only g) w (w.setCell ⟨g, 2, none⟩ (.int .i64 x)) := Ext.setCell (Ext.refl (Only g) w) (p := ⟨g, 2, none⟩) (fun _ => rfl) _
  have hm : ∀ k, ok k → k < w.heap.size → ¬ Only g k := fun k hk _ e => h3 (by have e' : k = g := e; rw [← e']; exact hk)
  exact ⟨A1, n1, c1, A2, n2, c2, blk_set hb 2 _, h1.ext he hm, h2.ext he hm, h3⟩
theorem Fd.setTop (h : Fd n ok w g D) (x : Int) : Fd n ok (w.setCell ⟨g, 3, none⟩ (.int .i64 x)) g { D with top := x } := by
  obtain ⟨A1, n1, c1, A2, n2, c2, hb, h1, h2, h3⟩ := h
  have he : Ext (Only g) w (w.setCell ⟨g, 3, none⟩ (.int .i64 x)) := Ext.setCell (Ext.refl (Only g) w) (p := ⟨g, 3, none⟩) (fun _ => rfl) _
  have hm : ∀ k, ok k → k < w.heap.size → ¬ Only g k := fun k hk _ e => h3 (by have e' : k = g := e; rw [← e']; exact hk)
  exact ⟨A1, n1, c1, A2, n2, c2, blk_set hb 3 _, h1.ext he hm, h2.ext he hm, h3⟩
theorem og_set (w : World) (g i : Nat) (v : Value) : Ext (Only g) w (w.setCell ⟨g, i, none⟩ v) := Ext.setCell (Ext.refl (Only g) w) (p := ⟨g, i, none⟩) (fun _ => rfl) _
end
/-- What nobody wants any more is let go. -/
def trimE (l : List Sb) (evs : List Ev) : List Ev := match lastS l with
  | none => []
  | some a => evs.filter fun e => !decide (e.pos ≤ atOf l a)
def trimD (D : Fdr) : Fdr := { D with evs := trimE D.subs D.evs }
def FdPost (n : Nat) (ok : Nat → Prop) (g : Nat) (D : Fdr) (v : Value) (w : World) (e : Ending) (w' : World) : Prop := e = .returned v ∧ Fd n ok w' g D ∧ Ext (Only g) w w'
set_option maxRecDepth 100000 in
set_option maxHeartbeats 8000000 in
theorem trim_calls {w : World} {n g : Nat} {ok : Nat → Prop} {D : Fdr} (h : Fd n ok w g D) (hl : D.evs.length ≤ 1048576000) (hf : Fresh ok w) :
    Calls Try.prog 51 #[.pointer (some ⟨g, 0, none⟩)] w (FdPost n ok g (trimD D) (.tuple #[]) w) := by
  have HF := Lib.hid h
  have FF := Lib.hid hf
  obtain ⟨A1, n1, c1, A2, n2, c2, hb, h1, h2, h3⟩ := h
  obtain ⟨w1, hw1⟩ : ∃ w1, w.alloc (.cells #[.pointer (some ⟨g, 0, none⟩)] 29) = w1 := ⟨_, rfl⟩
  have E1 : Hid (Ext Non w w1) := by rw [← hw1]; exact (Ext.refl _ _).alloc _
  have HL := Lib.hid (last_calls (HF.out.ext0 E1.out))
  obtain ⟨q, hq⟩ : ∃ q, w.heap.size = q := ⟨_, rfl⟩
  have BQ1 : Hid (w1.heap[q]? = some (.cells #[.pointer (some ⟨g, 0, none⟩)] 29 (0, 0))) := by rw [← hw1, ← hq]; exact blk_new w _
  have k0 : w1.cell? ⟨q, 0, none⟩ = some (.pointer (some ⟨g, 0, none⟩)) := blk_cell BQ1.out 0
  have HB := Lib.hid hb
  have H1 := Lib.hid h1
  have H2 := Lib.hid h2
  have hgl := blk_lt hb
  have hql := blk_lt BQ1.out
  have hng : g ≠ q := by omega
  clear hb h1 h2 h3 hf
  cases hla : lastS D.subs with
  | none =>
    have HT : Hid (trimD D = { D with evs := [] }) := by
      show _ = _
      simp only [trimD, trimE, hla]
    rw [hla] at HL
    clear hla
    go_enter Try.func51, Try.ntmps51
    go_wp2_with fail
    (try rw [hq, hw1])
    refine HL.out.mono ?_
    rintro e w5 ⟨rfl, he⟩
    have HE := Lib.hid he
    have k0 := he.cell k0 (fun e => e)
    have BG : Hid (FdB w5 g _ _ _ _) := he.obj (E1.out.obj HB.out (fun e => e)) (fun e => e)
    have g0 := BG.out.c0
    have z0 := BG.out.fz 0
    have hgl5 := blk_lt BG.out
    have hql5 := Nat.lt_of_lt_of_le hql he.size
    clear he
    simp only [idx]
    go_wp2_with fail
    go_end0
    rw [HT.out]
    refine ⟨rfl, ((HF.out.ext0 (E1.out.trans0 HE.out)).setEvs (Rd.nil _ _ _)).ext0 ((Ext.refl _ _).alloc _), ?_⟩
    exact ((E1.out.trans0 HE.out).of0.setCell (M := Only g) (p := ⟨g, 0, none⟩) (fun _ => rfl) _).alloc _
  | some a =>
    obtain ⟨_, hal⟩ := lastTo_lt hla
    obtain ⟨y, hy⟩ : ∃ y, D.subs[a]? = some y := ⟨_, List.getElem?_eq_getElem hal⟩
    have hat : atOf D.subs a = y.at_ := by unfold atOf; rw [hy]
    have HT : Hid (trimD D = { D with evs := D.evs.filter fun e => !decide (e.pos ≤ y.at_) }) := by
      show _ = _
      simp only [trimD, trimE, hla, hat]
    rw [hla] at HL
    have HY := Lib.hid hy
    clear hla hy hat
    go_enter Try.func51, Try.ntmps51
    go_wp2_with fail
    (try rw [hq, hw1])
    refine HL.out.mono ?_
    rintro e w5 ⟨rfl, he⟩
    have hql5 := Nat.lt_of_lt_of_le hql he.size
    have HE0 := Lib.hid he
    have k0 := he.cell k0 (fun e => e)
    simp only [idx]
    clear he
    go_wp2_with fail
    obtain ⟨r, hr⟩ : ∃ r, w5.heap.size = r := ⟨_, rfl⟩
    obtain ⟨w6, hw6⟩ : ∃ w6, w5.alloc (.cells #[.int .i64 (a : Int)] 3) = w6 := ⟨_, rfl⟩
    have E6 : Hid (Ext Non w5 w6) := by rw [← hw6]; exact (Ext.refl _ _).alloc _
    have EW : Hid (Ext Non w w6) := (E1.out.trans0 HE0.out).trans0 E6.out
    have FW : Hid (Fresh ok w6) := FF.out.ext EW.out
    have BQ : Hid (w6.heap[q]? = some (.cells #[.pointer (some ⟨g, 0, none⟩)] 29 (0, 0))) := E6.out.obj (HE0.out.obj BQ1.out (fun e => e)) (fun e => e)
    have BR : Hid (w6.heap[r]? = some (.cells #[.int .i64 (a : Int)] 3 (0, 0))) := by rw [← hw6, ← hr]; exact blk_new w5 _
    have BG : Hid (FdB w6 g (.slice A1 n1 c1) (.slice A2 n2 c2) D.next D.top) := EW.out.obj HB.out (fun e => e)
    have k0 := blk_cell BQ.out 0
    have g0 := BG.out.c0
    rw [hr, hw6]
    refine Last.start_ (S := fun W => W.cell? ⟨q, 0, none⟩ = some (.pointer (some ⟨g, 0, none⟩)) ∧ W.cell? ⟨g, 0, none⟩ = some (.slice A1 n1 c1)) (ds := [10]) #[false, false, false, false, false, false, false, false, false, false, false] (by kernel_rfl) (by rfl) (by rfl) ⟨k0, g0⟩ (fun hS => ?_)
    refine Last.take_ (i := 0) (N := some 10) (v := .pointer (some ⟨g, 0, none⟩)) #[true, false, false, false, false, false, false, false, false, false, false] (by simp only [List.getElem?_toArray, List.getElem?_cons_zero]; rfl) rfl (by kernel_rfl) (by exact fun _ _ _ h => h) (Or.inl ⟨by rfl, fun W hW => by first | rfl | (try dsimp only at hW); go_simp⟩) hS rfl ?_
    simp only [Act.put, List.setIfInBounds_toArray, List.set_cons_zero, List.set_cons_succ]
    refine Last.take_ (i := 1) (N := some 11) (v := .pointer (some ⟨g, 0, none⟩)) #[true, true, false, false, false, false, false, false, false, false, false] (by simp only [List.getElem?_toArray, List.getElem?_cons_zero, List.getElem?_cons_succ]; rfl) rfl (by kernel_rfl) (by exact fun _ _ _ h => h) (Or.inl ⟨by rfl, fun W hW => by first | rfl | (try dsimp only at hW); go_simp⟩) hS rfl ?_
    simp only [Act.put, List.setIfInBounds_toArray, List.set_cons_zero, List.set_cons_succ]
    refine Last.take_ (i := 2) (N := some 12) (v := .pointer (some ⟨g, 0, none⟩)) #[true, true, true, false, false, false, false, false, false, false, false] (by simp only [List.getElem?_toArray, List.getElem?_cons_zero, List.getElem?_cons_succ]; rfl) rfl (by kernel_rfl) (by exact fun _ _ _ h => h) (Or.inl ⟨by rfl, fun W hW => by first | rfl | (try dsimp only at hW); go_simp⟩) hS rfl ?_
    simp only [Act.put, List.setIfInBounds_toArray, List.set_cons_zero, List.set_cons_succ]
    refine Last.take_ (i := 3) (N := some 13) (v := .pointer (some ⟨g, 0, none⟩)) #[true, true, true, true, false, false, false, false, false, false, false] (by simp only [List.getElem?_toArray, List.getElem?_cons_zero, List.getElem?_cons_succ]; rfl) rfl (by kernel_rfl) (by exact fun _ _ _ h => h) (Or.inl ⟨by rfl, fun W hW => by first | rfl | (try dsimp only at hW); go_simp⟩) hS rfl ?_
    simp only [Act.put, List.setIfInBounds_toArray, List.set_cons_zero, List.set_cons_succ]
    refine Last.take_ (i := 4) (N := some 14) (v := .slice A1 n1 c1) #[true, true, true, true, true, false, false, false, false, false, false] (by simp only [List.getElem?_toArray, List.getElem?_cons_zero, List.getElem?_cons_succ]; rfl) rfl (by kernel_rfl) (by exact fun _ _ _ h => h) (Or.inl ⟨by rfl, fun W hW => by first | rfl | (try dsimp only at hW); go_simp⟩) hS rfl ?_
    simp only [Act.put, List.setIfInBounds_toArray, List.set_cons_zero, List.set_cons_succ]
    refine Last.take_ (i := 6) (N := some 16) (v := .func (.func 79) #[] #[.pointer (some ⟨q, 0, none⟩), .pointer (some ⟨r, 0, none⟩)]) #[true, true, true, true, true, false, true, false, false, false, false] (by simp only [List.getElem?_toArray, List.getElem?_cons_zero, List.getElem?_cons_succ]; rfl) rfl (by kernel_rfl) (by exact fun _ _ _ h => h) (Or.inl ⟨by rfl, fun W hW => by first | rfl | (try dsimp only at hW); go_simp⟩) hS rfl ?_
    simp only [Act.put, List.setIfInBounds_toArray, List.set_cons_zero, List.set_cons_succ]
    refine Last.one_ (i := 5) (N := some 15) #[true, true, true, true, true, true, true, false, false, false, false] (by simp only [List.getElem?_toArray, List.getElem?_cons_zero, List.getElem?_cons_succ]; rfl) rfl (by kernel_rfl) (by decide) (fun K hK => ?_)
    refine Last.goes_ Try.func29 (by kernel_rfl) rfl #[.slice A1 n1 c1] (by rfl) rfl rfl (by simp [Act.eval]) ?_
    refine (CloneE_own (H1.out.ext0 EW.out.drew) hl (FF.out.ext EW.out.drew)).mono ?_
    rintro e w8 ⟨B, m, d, rfl, ho, he⟩
    have HO := Lib.hid ho
    have HE := Lib.hid he
    have k0 := he.cell k0 (fun e => e)
    have g0 := he.cell g0 (fun e => e)
    clear he ho
    refine ⟨_, rfl, ?_⟩
    refine hK.out _ _ ⟨k0, g0⟩ (fun hS => ?_)
    try simp only [Act.put, List.setIfInBounds_toArray, List.set_cons_zero, List.set_cons_succ]
    refine Last.one_ (i := 7) (N := some 17) #[true, true, true, true, true, true, true, true, false, false, false] (by simp only [List.getElem?_toArray, List.getElem?_cons_zero, List.getElem?_cons_succ]; rfl) rfl (by kernel_rfl) (by decide) (fun K hK => ?_)
    refine Last.goes_ Try.func78 (by kernel_rfl) rfl #[.slice B m d, .func (.func 79) #[] #[.pointer (some ⟨q, 0, none⟩), .pointer (some ⟨r, 0, none⟩)]] (by rfl) rfl rfl (by simp [Act.eval]) ?_
    refine (DeleteE_own (p := fun e => decide (e.pos ≤ y.at_)) HO.out ?_).mono ?_
    · have hq1 := blk_lt BQ.out
      have hq2 := blk_lt BR.out
      have hgl := blk_lt BG.out
      have hM : ∀ k, some k = (Value.slice B m d).ownBlock → w6.heap.size ≤ k := fun k h => (HO.out.base_le k h.symm).1
      exact trim_pred (HE.out.obj BQ.out (fun e => e)) (HE.out.obj BR.out (fun e => e)) (HE.out.obj BG.out (fun e => e)) ((H2.out.ext0 EW.out.drew).bound.ext0 HE.out) HY.out (fun h => by have := hM _ h; omega) (fun h => by have := hM _ h; omega) (fun h => by have := hM _ h; omega)
        (fun k hk _ h => by have := hM _ h; have h2 : k < w6.heap.size := hk.2; omega)
    rintro e w7 ⟨B7, m7, d7, rfl, ho7, he7⟩
    have HO7 := Lib.hid ho7
    have HE7 := Lib.hid he7
    have hM : ∀ k, some k = (Value.slice B m d).ownBlock → w6.heap.size ≤ k := fun k h => (HO.out.base_le k h.symm).1
    have hgl := blk_lt BG.out
    have g0 := he7.cell g0 (fun h => by have : w6.heap.size ≤ g := hM _ h; omega)
    have k0 := he7.cell k0 (fun h => by have : w6.heap.size ≤ q := hM _ h; have := blk_lt BQ.out; omega)
    have z0 := blk_frozen (he7.obj (HE.out.obj BG.out (fun e => e)) (fun h => by have := hM _ h; omega)) 0
    clear he7 ho7
    refine ⟨_, rfl, ?_⟩
    refine hK.out _ _ ⟨k0, g0⟩ (fun hS => ?_)
    try simp only [Act.put, List.setIfInBounds_toArray, List.set_cons_zero, List.set_cons_succ]
    refine Last.take_ (i := 8) (N := some 18) (v := .pointer (some ⟨g, 0, none⟩)) #[true, true, true, true, true, true, true, true, true, false, false] (by simp only [List.getElem?_toArray, List.getElem?_cons_zero, List.getElem?_cons_succ]; rfl) rfl (by kernel_rfl) (by exact fun _ _ _ h => h) (Or.inl ⟨by rfl, fun W hW => by first | rfl | (try dsimp only at hW); go_simp⟩) hS rfl ?_
    simp only [Act.put, List.setIfInBounds_toArray, List.set_cons_zero, List.set_cons_succ]
    refine Last.take_ (i := 9) (N := some 19) (v := .pointer (some ⟨g, 0, none⟩)) #[true, true, true, true, true, true, true, true, true, true, false] (by simp only [List.getElem?_toArray, List.getElem?_cons_zero, List.getElem?_cons_succ]; rfl) rfl (by kernel_rfl) (by exact fun _ _ _ h => h) (Or.inl ⟨by rfl, fun W hW => by first | rfl | (try dsimp only at hW); go_simp⟩) hS rfl ?_
    simp only [Act.put, List.setIfInBounds_toArray, List.set_cons_zero, List.set_cons_succ]
    refine Last.last_ (i := 10) (N := none) #[true, true, true, true, true, true, true, true, true, true, true] (by simp only [List.getElem?_toArray, List.getElem?_cons_zero, List.getElem?_cons_succ]; rfl) rfl (by kernel_rfl) (by decide) (fun K hK => ?_)
    go_simp
    refine hK.out _ _ ?_
    try simp only [Act.put, List.setIfInBounds_toArray, List.set_cons_zero, List.set_cons_succ]
    refine Last.done_ (by kernel_rfl) ?_
    go_end0
    rw [HT.out]
    refine ⟨rfl, ?_, ?_⟩
    · have h7 : Fd n ok w7 g D := ((HF.out.ext0 EW.out.drew).ext' (HE.out.of0.trans HE7.out (fun i _ h => h)) (fun k hk hkl h => by have := hM _ h; have hkl' : k < w6.heap.size := hkl; omega) (fun h => by have := hM _ h; omega))
      exact h7.setEvs HO7.out.rd
    · exact ((EW.out.drew.trans0 HE.out).of0.trans HE7.out (fun i hi h => by have := hM _ h; have := EW.out.size; omega)).setCell (M := Only g) (p := ⟨g, 0, none⟩) (fun _ => rfl) _
end Go.Proofs.Ytdjfijdnhfmeeaa
