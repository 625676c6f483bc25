/- WireForm: the walk of the law. -/
import Derived.Test.YtiapjdbeooonjaaDoorF0
namespace Go.Proofs.YtiapjdbeooonjaaDoor
open Go.RowKit Go.TM

theorem nextR_ok {bs l : List UInt8} {k : Nat} (h : nextR bs = (l, k, 0)) : l.length ≤ 32768 ∧ k ≤ bs.length ∧ frameB l = bs.take k := by
  obtain ⟨⟨m, j, e⟩, hr⟩ : ∃ r, numR bs = r := ⟨_, rfl⟩
  unfold nextR at h
  rw [hr] at h
  simp only [] at h
  by_cases he : e = 0
  · subst he
    rw [if_neg (by simp)] at h
    by_cases hm : 32768 < m
    · rw [if_pos hm] at h; simp at h
    · rw [if_neg hm] at h
      by_cases hs : bs.length - j < m + 4
      · rw [if_pos hs] at h; simp at h
      · rw [if_neg hs] at h
        by_cases hc : (bs.drop (j + m)).take 4 = sum4 (Crc.sum (bs.take (j + m)))
        · rw [if_pos hc] at h
          simp only [Prod.mk.injEq, and_true] at h
          obtain ⟨rfl, rfl⟩ := h
          obtain ⟨_, hjl, hnum, _⟩ := numR_ok hr
          have hl : ((bs.drop j).take m).length = m := by rw [List.length_take, List.length_drop]; omega
          refine ⟨by omega, by omega, ?_⟩
          have e1 : numB m ++ (bs.drop j).take m = bs.take (j + m) := by rw [hnum, List.take_add]
          unfold frameB
          rw [hl, e1, ← hc, ← List.take_add]
        · rw [if_neg hc] at h; simp at h
  · rw [if_pos he] at h
    simp at h
    exact absurd h.2.2 he
theorem nextR_err {bs : List UInt8} (h : (nextR bs).2.2 ≠ 0) : (nextR bs).1 = [] ∧ (nextR bs).2.1 = 0 := by
  unfold nextR at h ⊢
  split
  · simp
  · split
    · simp
    · split
      · simp
      · split
        · rename_i h1 h2 h3 h4
          rw [if_neg h1, if_neg h2, if_neg h3, if_pos h4] at h
          exact absurd rfl h
        · simp

theorem rd_some {w : World} {ok : Nat → Prop} {A : Option Addr} {n c : Nat} {bs : List UInt8} (h : Rd Kd.u8 w ok (.slice A n c) bs) (h0 : bs ≠ []) : ∃ gs off, A = some ⟨gs, off, none⟩ := by
  obtain ⟨A', c', he', _, _, hx⟩ := h
  simp only [Value.slice.injEq] at he'
  obtain ⟨rfl, _, rfl⟩ := he'
  obtain ⟨g', off', h3, _⟩ := hx (List.length_pos_iff.2 h0)
  exact ⟨g', off', h3⟩

set_option maxHeartbeats 2000000 in
set_option maxRecDepth 20000 in
theorem form_main {w : World} {gs off : Nat} {c : Nat} {bs : List UInt8} (H : Rd Kd.u8 w (fun _ => True) (.slice (some ⟨gs, off, none⟩) bs.length c) bs) (HL : Laid w) (hbl : bs.length ≤ 65536) :
    Calls Tryd.prog 6 #[.slice (some ⟨gs, off, none⟩) bs.length c] w fun e w' => e = .returned (.bool true) ∧ Ext Non w w' := by
  obtain ⟨A', c', he, hc', hm⟩ := H.slice
  simp only [Value.slice.injEq] at he
  obtain ⟨rfl, _, rfl⟩ := he
  have HH := Lib.hid H
  have HT := Lib.hid HL
  clear H HL
  have q : ¬ (65536 : Int) < (bs.length : Int) := by omega
  obtain ⟨⟨m, k, e0⟩, hr⟩ : ∃ r, numR bs = r := ⟨_, rfl⟩
  have HR := Lib.hid hr
  obtain ⟨⟨l, n, e1⟩, hx⟩ : ∃ r, nextR bs = r := ⟨_, rfl⟩
  have HX := Lib.hid hx
  clear hx
  go_enter Tryd.func6, Tryd.ntmps6
  go_wp2_with fail
  refine (Read_calls HH.out (by omega)).mono ?_
  rintro e w1 ⟨g, rfl, hg0, hg1, h1, h2⟩
  have R1 := Lib.hid h1
  have E1 := Lib.hid h2
  clear h1 h2
  go_wp2_with fail
  refine (RNumber_calls R1.out (by omega) (Nat.zero_le _)).mono ?_
  rcases Classical.em (e0 = 0) with he0 | he0
  case' inl =>
    subst he0
    obtain ⟨hk0, hkl, hnum, hmm⟩ := numR_ok hr
    have HNUM := Lib.hid hnum
    obtain ⟨L, hL⟩ : ∃ L, L = bs.length - k := ⟨_, rfl⟩
    have hL1 : (bs.length : Int) - (L : Int) = (k : Int) := by omega
    have HLL := Lib.hid hL
    rw [rNum_good hr]
    clear hr hnum hL
    rintro e w2 ⟨rfl, h1, h2⟩
    have R2 := Lib.hid h1
    have E2 : Hid (Ext Non w w2) := E1.out.trans h2 (fun i hi e => by have e' : i = g := e; omega)
    clear h1 h2
    go_wp2_with fail
    refine (Err_calls R2.out).mono ?_
    rintro e w3 ⟨rfl, rfl⟩
    go_wp2_with fail
    refine (Number_calls (w := w2) (ok := fun _ => True) (A := none) (c := 0) (bs := []) (Rd.nil _ _ _) (m : Int) (by omega) (by omega) (by simp) (fun _ _ => trivial)).mono ?_
    rintro e w3 ⟨v3, rfl, ho, he⟩
    obtain ⟨A3, N3, c3, rfl, hn3⟩ := (Own.abs8 ho)
    rw [show (m : Int).toNat = m from by omega, List.nil_append, HNUM.out] at ho
    have O3 := Lib.hid ho.rd
    have R3 := Lib.hid (R2.out.ext he)
    have E3 : Hid (Ext Non w w3) := E2.out.trans0 he
    clear ho he hn3
    go_wp2_with fail
    refine (Left_calls R3.out hkl).mono ?_
    rw [← HLL.out]
    rintro e w4 ⟨rfl, h1⟩
    have R4 := Lib.hid (R3.out.ext h1)
    have O4 := Lib.hid (O3.out.ext0 h1)
    have E4 := Lib.hid (E3.out.trans0 h1)
    clear h1
    have q1 : (0 : Int) ≤ (k : Int) := by omega
    have q2 : (k : Int) ≤ (bs.length : Int) := by omega
    have q3 : (k : Int) ≤ (c : Int) := by omega
    go_wp2_with fail
    refine (Equal_calls O4.out ((HH.out.ext0 E4.out).take (k := k) hkl)).mono ?_
    rintro e w5 ⟨rfl, rfl⟩
    rw [beq_self_eq_true]
    go_wp2_with fail
    refine (Err_calls R4.out).mono ?_
    rintro e w5 ⟨rfl, rfl⟩
    clear q1 q2 q3 hL1
    go_wp2_with fail
  case' inr =>
    have q1 : (e0 == 0) = false := by simpa using he0
    have q2 : (e0 != 0) = true := by simpa using he0
    rw [rNum_bad hr he0]
    clear hr he0
    rintro e w2 ⟨rfl, h1, h2⟩
    have R2 := Lib.hid h1
    have E2 : Hid (Ext Non w w2) := E1.out.trans h2 (fun i hi e => by have e' : i = g := e; omega)
    clear h1 h2
    go_wp2_with fail
    refine (Err_calls R2.out).mono ?_
    rintro e w3 ⟨rfl, rfl⟩
    go_wp2_with fail
    refine (Err_calls R2.out).mono ?_
    rintro e w3 ⟨rfl, rfl⟩
    go_wp2_with fail
    refine (Left_calls R2.out (Nat.zero_le _)).mono ?_
    rw [Nat.sub_zero]
    rintro e w4 ⟨rfl, h1⟩
    have E4 := Lib.hid (E2.out.trans0 h1)
    clear h1
    go_wp2_with fail
  all_goals
    refine (Next_calls (HH.out.ext0 E4.out) (by omega) (HT.out.ext E4.out)).mono ?_
    rw [HX.out]
    rintro e w6 ⟨v6, rfl, ho, he⟩
    obtain ⟨A6, N6, c6, rfl, hn6⟩ := (Own.abs8 ho)
    have O6 := Lib.hid ho.rd
    have E6 := Lib.hid (E4.out.trans0 he)
    have HN6 := Lib.hid hn6
    clear ho he
    simp only [] at hn6 ⊢
    rcases Classical.em (e1 = 0) with he1 | he1
    · subst he1
      obtain ⟨hl1, hn1, hfr⟩ := nextR_ok HX.out
      have HFR := Lib.hid hfr
      have q4 : (0 : Int) ≤ (n : Int) := by omega
      have q5 : (n : Int) ≤ (bs.length : Int) := by omega
      have q6 : (n : Int) ≤ (c : Int) := by omega
      clear hfr hn6
      go_wp2_with fail
      refine (Frame_fits O6.out (HT.out.ext E6.out) (fun _ _ => trivial) hl1).mono ?_
      rintro e w7 ⟨v7, rfl, ho, he⟩
      obtain ⟨A7, N7, c7, rfl, hn7⟩ := (Own.abs8 ho)
      rw [HFR.out] at ho
      have O7 := Lib.hid ho.rd
      have E7 := Lib.hid (E6.out.trans0 he)
      clear ho he hn7
      go_wp2_with fail
      refine (Equal_calls O7.out ((HH.out.ext0 E7.out).take (k := n) hn1)).mono ?_
      rintro e w8 ⟨rfl, rfl⟩
      rw [beq_self_eq_true]
      go_wp2_with fail
      refine (awake_calls (HT.out.ext E7.out)).mono ?_
      rintro e w9 ⟨rfl, he⟩
      have E9 : Hid (Ext Non w w9) := E7.out.trans0 he
      clear he
      go_wp2_with fail
      go_ret
      exact ⟨rfl, E9.out⟩
    · have q4 : (e1 != 0) = true := by simpa using he1
      obtain ⟨z1, z2⟩ := nextR_err (bs := bs) (by rw [HX.out]; exact he1)
      rw [HX.out] at z1 z2
      simp only [] at z1 z2
      subst z1 z2
      rw [List.length_nil] at hn6
      subst hn6
      clear he1
      go_wp2_with fail
      refine (awake_calls (HT.out.ext E6.out)).mono ?_
      rintro e w9 ⟨rfl, he⟩
      have E9 : Hid (Ext Non w w9) := E6.out.trans0 he
      clear he
      go_wp2_with fail
      go_ret
      exact ⟨rfl, E9.out⟩

set_option maxHeartbeats 1000000 in
theorem form_nil {w : World} {A : Option Addr} {c : Nat} (H : Rd Kd.u8 w (fun _ => True) (.slice A ([] : List UInt8).length c) []) (HL : Laid w) :
    Calls Tryd.prog 6 #[.slice A ([] : List UInt8).length c] w fun e w' => e = .returned (.bool true) ∧ Ext Non w w' := by
  have HH := Lib.hid H
  have HT := Lib.hid HL
  have hr : numR [] = (0, 0, 2) := rfl
  have hx : nextR [] = ([], 0, 2) := rfl
  clear H HL
  rw [List.length_nil]
  go_enter Tryd.func6, Tryd.ntmps6
  go_wp2_with fail
  refine (Read_calls HH.out (by simp)).mono ?_
  rintro e w1 ⟨g, rfl, hg0, hg1, h1, h2⟩
  have R1 := Lib.hid h1
  have E1 := Lib.hid h2
  clear h1 h2
  go_wp2_with fail
  refine (RNumber_calls R1.out (by omega) (Nat.zero_le _)).mono ?_
  rw [rNum_bad hr (by simp)]
  rintro e w2 ⟨rfl, h1, h2⟩
  have R2 := Lib.hid h1
  have E2 : Hid (Ext Non w w2) := E1.out.trans h2 (fun i hi e => by have e' : i = g := e; omega)
  clear h1 h2 hr
  go_wp2_with fail
  refine (Err_calls R2.out).mono ?_
  rintro e w3 ⟨rfl, rfl⟩
  go_wp2_with fail
  refine (Err_calls R2.out).mono ?_
  rintro e w3 ⟨rfl, rfl⟩
  go_wp2_with fail
  refine (Left_calls R2.out (Nat.zero_le _)).mono ?_
  rw [Nat.sub_zero, List.length_nil]
  rintro e w4 ⟨rfl, h1⟩
  have E4 := Lib.hid (E2.out.trans0 h1)
  clear h1
  go_wp2_with fail
  refine (Next_calls (HH.out.ext0 E4.out) (by simp) (HT.out.ext E4.out)).mono ?_
  rw [hx]
  rintro e w6 ⟨v6, rfl, ho, he⟩
  obtain ⟨A6, N6, c6, rfl, hn6⟩ := (Own.abs8 ho)
  rw [List.length_nil] at hn6
  subst hn6
  have E6 := Lib.hid (E4.out.trans0 he)
  clear ho he hx
  go_wp2_with fail
  refine (awake_calls (HT.out.ext E6.out)).mono ?_
  rintro e w9 ⟨rfl, he⟩
  have E9 : Hid (Ext Non w w9) := E6.out.trans0 he
  clear he
  go_wp2_with fail
  go_ret
  exact ⟨rfl, E9.out⟩

theorem form_calls {w : World} {ok : Nat → Prop} {A : Option Addr} {c : Nat} {bs : List UInt8} (H : Rd Kd.u8 w ok (.slice A bs.length c) bs) (HL : Laid w) :
    Calls Tryd.prog 6 #[.slice A bs.length c] w fun e w' => e = .returned (.bool true) ∧ Ext Non w w' := by
  by_cases h0 : 65536 < bs.length
  · have HT := Lib.hid HL
    clear H HL
    have q : (65536 : Int) < (bs.length : Int) := by omega
    go_enter Tryd.func6, Tryd.ntmps6
    go_wp2_with fail
    refine (awake_calls HT.out).mono ?_
    rintro e w1 ⟨rfl, he⟩
    have HE := Lib.hid he
    clear he
    go_wp2_with fail
    go_ret
    exact ⟨rfl, HE.out⟩
  · by_cases hn : bs = []
    · subst hn
      exact form_nil (Rd.any H) HL
    · obtain ⟨gs, off, rfl⟩ := rd_some H hn
      exact form_main (Rd.any H) HL (by omega)
end Go.Proofs.YtiapjdbeooonjaaDoor
