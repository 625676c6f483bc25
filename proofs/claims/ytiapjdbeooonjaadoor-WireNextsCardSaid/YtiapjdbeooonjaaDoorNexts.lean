/- The frame with which any bytes begin, or why there is none; and all of them. -/
import Derived.Test.YtiapjdbeooonjaaDoorH3
import Derived.Test.YtiapjdbeooonjaaDoorForm
namespace Go.Proofs.YtiapjdbeooonjaaDoor
open Go.RowKit Go.TM

theorem rdb_abs {w : World} {ok : Nat → Prop} {v : Value} {xs : List (List UInt8)} (h : Rd Kd.bytes w ok v xs) : ∃ A n c, v = .slice A n c := by
  obtain ⟨A, c, h1, _, _⟩ := h.slice
  exact ⟨A, _, c, h1⟩

set_option maxHeartbeats 4000000 in
theorem nexts_main {w : World} {ok : Nat → Prop} {gs off : Nat} {c : Nat} {bs : List UInt8} (H : Rd Kd.u8 w ok (.slice (some ⟨gs, off, none⟩) bs.length c) bs) (HL : Laid w) (hl : bs.length ≤ 65536) (h0 : 0 < bs.length) :
    Calls Tryd.prog 10 #[.slice (some ⟨gs, off, none⟩) bs.length c] w fun e w' => e = .returned (.bool true) ∧ Ext Non w w' := by
  have HH := Lib.hid (Rd.any H)
  have HT := Lib.hid HL
  have H0 := Lib.hid h0
  have HB := Lib.hid hl
  have hne : Hid (bs ≠ []) := by
    intro h
    rw [h] at h0
    simp at h0
  have q : ¬ (65536 : Int) < (bs.length : Int) := by omega
  clear H HL h0 hl
  go_enter Tryd.func10, Tryd.ntmps10
  go_wp2_with fail
  refine (Clone_calls HH.out (by have := HB.out; omega) (fun _ _ => trivial)).mono ?_
  rintro e w1 ⟨v1, rfl, ho, he⟩
  obtain ⟨A1, N1, c1, rfl, hn1⟩ := (Own.abs8 ho)
  subst hn1
  have r1 := ho.rd
  obtain ⟨g1, o1, rfl⟩ := rd_some r1 hne.out
  have R1 := Lib.hid r1
  have E1 := Lib.hid he
  clear ho he r1
  obtain ⟨⟨p, m, e0⟩, hr⟩ : ∃ r, nextR bs = r := ⟨_, rfl⟩
  have HR := Lib.hid hr
  clear hr
  go_wp2_with fail
  refine (Next_calls R1.out (by have := HB.out; omega) (HT.out.ext E1.out)).mono ?_
  rw [HR.out]
  rintro e w2 ⟨v2, rfl, ho, he⟩
  obtain ⟨A2, N2, c2, rfl, hn2⟩ := (Own.abs8 ho)
  have R2 := Lib.hid ho.rd
  have G2 := Lib.hid (R1.out.ext0 he)
  have E2 := Lib.hid (E1.out.trans0 he)
  clear ho he hn2
  simp only []
  go_wp2_with fail
  refine (NextR_at (HH.out.ext0 E2.out) (by have := HB.out; omega)).mono ?_
  rw [HR.out]
  rintro e w3 ⟨v3, rfl, ho, he⟩
  obtain ⟨A3, N3, c3, rfl, hn3⟩ := (Own.abs8 ho)
  have R3 := Lib.hid ho.rd
  have P3 := Lib.hid (R2.out.ext0 he)
  have G3 := Lib.hid (G2.out.ext0 he)
  have E3 := Lib.hid (E2.out.trans0 he)
  clear ho he hn3
  simp only []
  go_wp2_with fail
  refine (All_calls G3.out HB.out (HT.out.ext E3.out)).mono ?_
  rintro e w4 ⟨v4, a, out, rfl, hs, ho, he⟩
  obtain ⟨A4, N4, c4, rfl⟩ := rdb_abs ho
  have S4 := Lib.hid hs
  have R4 := Lib.hid ho
  have P4 := Lib.hid (P3.out.ext0 he)
  have Q4 := Lib.hid (R3.out.ext0 he)
  have G4 := Lib.hid (G3.out.ext0 he)
  have E4 := Lib.hid (E3.out.trans0 he)
  clear hs ho he
  go_wp2_with fail
  refine (AllR_calls (HH.out.ext0 E4.out) HB.out H0.out).mono ?_
  rintro e w5 ⟨v5, a5, out5, rfl, hs, ho, he⟩
  obtain ⟨A5, N5, c5, rfl⟩ := rdb_abs ho
  have hd := hs.det S4.out
  simp only [Prod.mk.injEq] at hd
  obtain ⟨rfl, rfl⟩ := hd
  have R5 := Lib.hid ho
  have U5 := Lib.hid (R4.out.ext0 he)
  have P5 := Lib.hid (P4.out.ext0 he)
  have Q5 := Lib.hid (Q4.out.ext0 he)
  have G5 := Lib.hid (G4.out.ext0 he)
  have E5 := Lib.hid (E4.out.trans0 he)
  clear hs ho he
  go_wp2_with fail
  refine (Equal_calls P5.out Q5.out).mono ?_
  rintro e w6 ⟨rfl, rfl⟩
  rw [beq_self_eq_true]
  go_wp2_with fail
  refine (EqualF_calls U5.out R5.out).mono ?_
  rintro e w6 ⟨rfl, rfl⟩
  go_wp2_with fail
  refine (Equal_calls G5.out (HH.out.ext0 E5.out)).mono ?_
  rintro e w6 ⟨rfl, rfl⟩
  rw [beq_self_eq_true]
  go_wp2_with fail
  refine (awake_calls (HT.out.ext E5.out)).mono ?_
  rintro e w9 ⟨rfl, he⟩
  have E9 := Lib.hid (E5.out.trans0 he)
  clear he
  go_wp2_with fail
  go_ret
  exact ⟨rfl, E9.out⟩

theorem All_nil {w : World} {ok : Nat → Prop} {A : Option Addr} {c : Nat} (H : Rd Kd.u8 w ok (.slice A 0 c) []) (HL : Laid w) :
    Calls Tryd.prog 37 #[.slice A 0 c] w fun e w' => e = .returned (.tuple #[.slice none 0 0, .int .i64 0]) ∧ Ext Non w w' := by
  have HH := Lib.hid (Rd.any H)
  have HT := Lib.hid HL
  clear H HL
  go_enter Tryd.func37, Tryd.ntmps37
  go_wp2_with fail
  go_loopw [4, 5] (fun v i wr => v = .slice none 0 0 ∧ i = .int .i64 0 ∧ Hid (Ext Non w wr)) (fun _ _ _ => 0)
  case atStart => exact ⟨rfl, rfl, Ext.refl _ _⟩
  case round =>
    obtain ⟨rfl, rfl, HE⟩ := hrel
    go_wp2_with fail
    refine (Next_calls (HH.out.ext0 HE.out) (by simp) (HT.out.ext HE.out)).mono ?_
    rw [nextR_nil]
    rintro e w2 ⟨v2, rfl, ho, he⟩
    obtain ⟨A2, N2, c2, rfl, hn2⟩ := (Own.abs8 ho)
    have E2 := Lib.hid (HE.out.trans0 he)
    clear ho he hn2
    simp only []
    go_wp2_with fail
    go_ret2
    exact ⟨rfl, E2.out⟩
theorem AllR_nil {w : World} {A : Option Addr} {c : Nat} :
    Calls Tryd.prog 38 #[.slice A 0 c] w fun e w' => e = .returned (.tuple #[.slice none 0 0, .int .i64 0]) ∧ w = w' := by
  go_enter Tryd.func38, Tryd.ntmps38
  go_wp2_with fail
  go_loopw [4, 5, 11] (fun v i x wr => v = .slice none 0 0 ∧ i = .int .i64 0 ∧ x = .int .i64 0 ∧ wr = w) (fun _ _ _ _ => 0)
  case atStart => exact ⟨rfl, rfl, rfl, rfl⟩
  case round =>
    obtain ⟨rfl, rfl, rfl, rfl⟩ := hrel
    go_wp2_with fail
    go_ret2
    exact ⟨rfl, rfl⟩
theorem numR_nil : numR [] = (0, 0, 2) := rfl

set_option maxHeartbeats 4000000 in
theorem nexts_nil {w : World} {ok : Nat → Prop} {A : Option Addr} {c : Nat} (H : Rd Kd.u8 w ok (.slice A 0 c) []) (HL : Laid w) :
    Calls Tryd.prog 10 #[.slice A 0 c] w fun e w' => e = .returned (.bool true) ∧ Ext Non w w' := by
  have HH := Lib.hid (Rd.any H)
  have HT := Lib.hid HL
  clear H HL
  go_enter Tryd.func10, Tryd.ntmps10
  go_wp2_with fail
  refine (Clone_calls HH.out (by simp) (fun _ _ => trivial)).mono ?_
  rintro e w1 ⟨v1, rfl, ho, he⟩
  obtain ⟨A1, N1, c1, rfl, hn1⟩ := (Own.abs8 ho)
  rw [List.length_nil] at hn1
  subst hn1
  have R1 := Lib.hid ho.rd
  have E1 := Lib.hid he
  clear ho he
  go_wp2_with fail
  refine (Next_calls R1.out (by simp) (HT.out.ext E1.out)).mono ?_
  rw [nextR_nil]
  rintro e w2 ⟨v2, rfl, ho, he⟩
  obtain ⟨A2, N2, c2, rfl, hn2⟩ := (Own.abs8 ho)
  have R2 := Lib.hid ho.rd
  have G2 := Lib.hid (R1.out.ext0 he)
  have E2 := Lib.hid (E1.out.trans0 he)
  clear ho he hn2
  simp only []
  go_wp2_with fail
  refine (NextR_bad (HH.out.ext0 E2.out) numR_nil (by simp)).mono ?_
  rintro e w3 ⟨v3, rfl, ho, he⟩
  obtain ⟨A3, N3, c3, rfl, hn3⟩ := (Own.abs8 ho)
  have R3 := Lib.hid ho.rd
  have P3 := Lib.hid (R2.out.ext0 he)
  have G3 := Lib.hid (G2.out.ext0 he)
  have E3 := Lib.hid (E2.out.trans0 he)
  clear ho he hn3
  simp only []
  go_wp2_with fail
  refine (All_nil G3.out (HT.out.ext E3.out)).mono ?_
  rintro e w4 ⟨rfl, he⟩
  have P4 := Lib.hid (P3.out.ext0 he)
  have Q4 := Lib.hid (R3.out.ext0 he)
  have G4 := Lib.hid (G3.out.ext0 he)
  have E4 := Lib.hid (E3.out.trans0 he)
  clear he
  go_wp2_with fail
  refine AllR_nil.mono ?_
  rintro e w5 ⟨rfl, rfl⟩
  go_wp2_with fail
  refine (Equal_calls P4.out Q4.out).mono ?_
  rintro e w6 ⟨rfl, rfl⟩
  rw [beq_self_eq_true]
  go_wp2_with fail
  refine (EqualF_calls (ok := fun _ => True) (ok2 := fun _ => True) (xs := []) (Rd.nil _ _ _) (Rd.nil _ _ _)).mono ?_
  rintro e w6 ⟨rfl, rfl⟩
  go_wp2_with fail
  refine (Equal_calls G4.out (HH.out.ext0 E4.out)).mono ?_
  rintro e w6 ⟨rfl, rfl⟩
  rw [beq_self_eq_true]
  go_wp2_with fail
  refine (awake_calls (HT.out.ext E4.out)).mono ?_
  rintro e w9 ⟨rfl, he⟩
  have E9 := Lib.hid (E4.out.trans0 he)
  clear he
  go_wp2_with fail
  go_ret
  exact ⟨rfl, E9.out⟩

theorem nexts_calls {w : World} {ok : Nat → Prop} {A : Option Addr} {c : Nat} {bs : List UInt8} (H : Rd Kd.u8 w ok (.slice A bs.length c) bs) (HL : Laid w) :
    Calls Tryd.prog 10 #[.slice A bs.length c] w fun e w' => e = .returned (.bool true) ∧ Ext Non w w' := by
  by_cases h0 : 65536 < bs.length
  · have HT := Lib.hid HL
    clear H HL
    have q : (65536 : Int) < (bs.length : Int) := by omega
    go_enter Tryd.func10, Tryd.ntmps10
    go_wp2_with fail
    refine (awake_calls HT.out).mono ?_
    rintro e w1 ⟨rfl, he⟩
    have HE := Lib.hid he
    clear he
    go_wp2_with fail
    go_ret
    exact ⟨rfl, HE.out⟩
  · by_cases hn : bs = []
    · subst hn
      exact nexts_nil H HL
    · obtain ⟨gs, off, rfl⟩ := rd_some H hn
      exact nexts_main H HL (by omega) (List.length_pos_iff.2 hn)
end Go.Proofs.YtiapjdbeooonjaaDoor
