/- WireBack: the walk of the law. -/
import Derived.Test.YtiapjdbeooonjaaDoorC2
import Derived.Test.YtiapjdbeooonjaaDoorNums
import Derived.Test.YtiapjdbeooonjaaDoorOrder
namespace Go.Proofs.YtiapjdbeooonjaaDoor
open Go.RowKit Go.TM

theorem rNum_here {m : Nat} (h : m ≤ 9223372036854775807) (pre rest : List UInt8) : rNum (pre ++ (numB m ++ rest)) pre.length 0 = ((m : Int), pre.length + (numB m).length, 0) := by
  rw [rNum_of (r := (m, (numB m).length, 0)) (by rw [List.drop_left' rfl]; exact numR_numB h rest)]
  simp
theorem rText_here (s pre rest : List UInt8) (h : s.length ≤ 9223372036854775807) : rText (pre ++ (numB s.length ++ (s ++ rest))) pre.length 0 (s.length : Int) = (s, pre.length + (numB s.length).length + s.length, 0) := by
  unfold rText
  rw [rNum_here h]
  simp only []
  have hl : (pre ++ (numB s.length ++ (s ++ rest))).length = pre.length + (numB s.length).length + s.length + rest.length := by simp only [List.length_append]; omega
  have hd : (pre ++ (numB s.length ++ (s ++ rest))).drop (pre.length + (numB s.length).length) = s ++ rest := by
    rw [← List.append_assoc, List.drop_left' (by rw [List.length_append])]
  rw [if_neg (by simp), if_neg (by omega), if_neg (by rw [hl]; omega), Int.toNat_natCast, hd, List.take_left' rfl]
theorem rFlag_here (b : Bool) (pre rest : List UInt8) : rFlag (pre ++ (numB (flagN b) ++ rest)) pre.length 0 = (b, pre.length + (numB (flagN b)).length, 0) := by
  unfold rFlag
  rw [rNum_here (by cases b <;> simp [flagN])]
  cases b <;> simp [flagN]
theorem twos_back {v : Int} (h0 : -9223372036854775808 ≤ v) (h1 : v ≤ 9223372036854775807) : wrap64 (twos v : Int) = v := by
  unfold twos wrap64
  omega
theorem rSigned_here {v : Int} (h0 : -9223372036854775808 ≤ v) (h1 : v ≤ 9223372036854775807) (pre rest : List UInt8) : rSigned (pre ++ (sigB (twos v) ++ rest)) pre.length 0 = (v, pre.length + 8, 0) := by
  unfold rSigned
  have hl : (pre ++ (sigB (twos v) ++ rest)).length = pre.length + 8 + rest.length := by simp only [List.length_append]; simp [sigB]; omega
  have htk : (sigB (twos v) ++ rest).take 8 = sigB (twos v) := List.take_left' rfl
  rw [if_neg (by simp), if_neg (by rw [hl]; omega), List.drop_left' rfl, htk, bval_sigB (twos_lt v), twos_back h0 h1]

theorem str_back (t : ByteArray) : (⟨t.data.toList.toArray⟩ : ByteArray) = t := by cases t; simp
set_option maxHeartbeats 4000000 in
set_option maxRecDepth 20000 in
theorem back_calls {w : World} {ok : Nat → Prop} {A : Option Addr} {c : Nat} {bs : List UInt8} (H : Rd Kd.u8 w ok (.slice A bs.length c) bs) (HL : Laid w) (n : Int) (t : ByteArray) (b : Bool) (v : Int)
    (hn0 : -9223372036854775808 ≤ n) (hn1 : n ≤ 9223372036854775807) (hv0 : -9223372036854775808 ≤ v) (hv1 : v ≤ 9223372036854775807) :
    Calls Tryd.prog 11 #[.int .i64 n, .string t, .bool b, .int .i64 v, .slice A bs.length c] w fun e w' => e = .returned (.bool true) ∧ Ext Non w w' := by
  have HH := Lib.hid (Rd.any H)
  have HT := Lib.hid HL
  clear H HL
  by_cases h0 : 65536 < t.size
  · have q : (65536 : Int) < (t.size : Int) := by omega
    go_enter Tryd.func11, Tryd.ntmps11
    go_wp2_with fail
    refine (awake_calls HT.out).mono ?_
    rintro e w1 ⟨rfl, he⟩
    have HE := Lib.hid he
    clear he
    go_wp2_with fail
    go_ret
    exact ⟨rfl, HE.out⟩
  · have q : ¬ (65536 : Int) < (t.size : Int) := by omega
    by_cases h1 : 65536 < bs.length
    · have q1 : (65536 : Int) < (bs.length : Int) := by omega
      go_enter Tryd.func11, Tryd.ntmps11
      go_wp2_with fail
      refine (awake_calls HT.out).mono ?_
      rintro e w1 ⟨rfl, he⟩
      have HE := Lib.hid he
      clear he
      go_wp2_with fail
      go_ret
      exact ⟨rfl, HE.out⟩
    · have q1 : ¬ (65536 : Int) < (bs.length : Int) := by omega
      have hbl : bs.length ≤ 65536 := by omega
      have htl : t.size ≤ 65536 := by omega
      clear h0 h1
      obtain ⟨N, hN⟩ : ∃ N, N = n.toNat := ⟨_, rfl⟩
      have hNl := numB_le (m := N) (by omega)
      have hLl := numB_le (m := t.size) (by omega)
      have hFl := numB_le (m := flagN b) (by cases b <;> simp [flagN])
      have hsl : t.data.toList.length = t.size := rfl
      have hN8 : N ≤ 9223372036854775807 := by omega
      have HN := Lib.hid hN
      obtain ⟨B, hB⟩ : ∃ B, B = numB N ++ (numB t.size ++ (t.data.toList ++ (numB (flagN b) ++ (sigB (twos v) ++ bs)))) := ⟨_, rfl⟩
      have hBl : B.length ≤ 1000000 := by rw [hB]; simp only [List.length_append]; simp [sigB]; omega
      have s1 : rNum B 0 0 = ((N : Int), (numB N).length, 0) := by
        have := rNum_here hN8 [] (numB t.size ++ (t.data.toList ++ (numB (flagN b) ++ (sigB (twos v) ++ bs))))
        rw [hB]
        simpa using this
      have s2 : rText B (numB N).length 0 (t.size : Int) = (t.data.toList, (numB N).length + (numB t.size).length + t.size, 0) := by
        have := rText_here t.data.toList (numB N) (numB (flagN b) ++ (sigB (twos v) ++ bs)) (by omega)
        rw [hB]
        rw [hsl] at this
        exact this
      have s3 : rFlag B ((numB N).length + (numB t.size).length + t.size) 0 = (b, (numB N).length + (numB t.size).length + t.size + (numB (flagN b)).length, 0) := by
        have := rFlag_here b (numB N ++ (numB t.size ++ t.data.toList)) (sigB (twos v) ++ bs)
        have hl : (numB N ++ (numB t.size ++ t.data.toList)).length = (numB N).length + (numB t.size).length + t.size := by simp only [List.length_append, hsl]; omega
        rw [hl] at this
        rw [hB]
        simp only [List.append_assoc] at this
        exact this
      have s4 : rSigned B ((numB N).length + (numB t.size).length + t.size + (numB (flagN b)).length) 0 = (v, (numB N).length + (numB t.size).length + t.size + (numB (flagN b)).length + 8, 0) := by
        have := rSigned_here hv0 hv1 (numB N ++ (numB t.size ++ (t.data.toList ++ numB (flagN b)))) bs
        have hl : (numB N ++ (numB t.size ++ (t.data.toList ++ numB (flagN b)))).length = (numB N).length + (numB t.size).length + t.size + (numB (flagN b)).length := by simp only [List.length_append, hsl]; omega
        rw [hl] at this
        rw [hB]
        simp only [List.append_assoc] at this
        exact this
      have hle : B.length = (numB N).length + (numB t.size).length + t.size + (numB (flagN b)).length + 8 + bs.length := by rw [hB]; simp only [List.length_append, hsl]; simp [sigB]; omega
      have hb1 : (numB N).length ≤ B.length := by omega
      have hb2 : (numB N).length + (numB t.size).length + t.size ≤ B.length := by omega
      have hb3 : (numB N).length + (numB t.size).length + t.size + (numB (flagN b)).length ≤ B.length := by omega
      generalize (numB N).length = a1 at *
      generalize a1 + (numB t.size).length + t.size = a2 at *
      generalize a2 + (numB (flagN b)).length = a3 at *
      have HB := Lib.hid hB
      have S1 := Lib.hid s1
      have S2 := Lib.hid s2
      have S3 := Lib.hid s3
      have S4 := Lib.hid s4
      have HLE := Lib.hid hle
      clear hB s1 s2 s3 s4 hle hNl hLl hFl hsl hN
      have hB2 : ((((([] ++ numB n.toNat) ++ numB t.size ++ t.data.toList) ++ numB (flagN b)) ++ sigB (twos v)) ++ bs) = B := by
        rw [HB.out, HN.out]
        simp only [List.append_assoc, List.nil_append]
      have HB2 := Lib.hid hB2
      clear hB2
      go_enter Tryd.func11, Tryd.ntmps11
      go_wp2_with fail
      refine (Number_calls (w := w) (ok := fun _ => True) (A := none) (c := 0) (bs := []) (Rd.nil _ _ _) n hn0 hn1 (by simp) (fun _ _ => trivial)).mono ?_
      rintro e w1 ⟨v1, rfl, ho, he⟩
      obtain ⟨A1, N1, c1, rfl, hn1'⟩ := (Own.abs8 ho)
      have O1 := Lib.hid ho.rd
      have E1 := Lib.hid he
      have hl1 : ([] ++ numB n.toNat).length ≤ 9 := by rw [List.nil_append]; exact numB_le (by omega)
      clear ho he hn1'
      go_wp2_with fail
      refine (Text_calls O1.out t (by omega) (by omega) (fun _ _ => trivial)).mono ?_
      rintro e w2 ⟨v2, rfl, ho, he⟩
      obtain ⟨A2, N2, c2, rfl, hn2⟩ := (Own.abs8 ho)
      have O2 := Lib.hid ho.rd
      have E2 := Lib.hid (E1.out.trans0 he)
      have hl2 : (([] ++ numB n.toNat) ++ numB t.size ++ t.data.toList).length ≤ 70000 := by
        have := numB_le (m := t.size) (by omega)
        have hsz : t.data.toList.length = t.size := rfl
        rw [List.length_append, List.length_append, hsz]
        omega
      clear ho he hn2
      go_wp2_with fail
      refine (Flag_calls O2.out b (by omega) (fun _ _ => trivial)).mono ?_
      rintro e w3 ⟨v3, rfl, ho, he⟩
      obtain ⟨A3, N3, c3, rfl, hn3⟩ := (Own.abs8 ho)
      have O3 := Lib.hid ho.rd
      have E3 := Lib.hid (E2.out.trans0 he)
      have hl3 : ((([] ++ numB n.toNat) ++ numB t.size ++ t.data.toList) ++ numB (flagN b)).length ≤ 70100 := by
        have := numB_le (m := flagN b) (by cases b <;> simp [flagN])
        rw [List.length_append]
        omega
      clear ho he hn3
      go_wp2_with fail
      refine (Signed_calls O3.out v (by omega) (fun _ _ => trivial)).mono ?_
      rintro e w4 ⟨v4, rfl, ho, he⟩
      obtain ⟨A4, N4, c4, rfl, hn4⟩ := (Own.abs8 ho)
      have O4 := Lib.hid ho
      have E4 := Lib.hid (E3.out.trans0 he)
      have F4 := Lib.hid he
      have HB2l : Hid (((((([] ++ numB n.toNat) ++ numB t.size ++ t.data.toList) ++ numB (flagN b)) ++ sigB (twos v)) ++ bs).length = B.length) := by show _ = _; rw [HB2.out]
      have hl4 : ((((([] ++ numB n.toNat) ++ numB t.size ++ t.data.toList) ++ numB (flagN b)) ++ sigB (twos v))).length + bs.length ≤ 140737488355328 := by
        have := HB2l.out
        rw [List.length_append] at this
        omega
      have HL4 := Lib.hid hl4
      clear ho he hn4 hl4 hl1 hl2 hl3
      go_wp2_with (first
        | (at_builtin
           refine app_old (w0 := w3) (ok := fun _ => True) (v := .slice A4 N4 c4) (vx := .slice A bs.length c) (ys := bs) rfl _ _ rfl rfl rfl O4.out F4.out (HH.out.ext0 E3.out) (fun _ _ => trivial) HL4.out ?_
           intro A5 n5 c5 w5 hn5 O5 F5 z5)
        | fail)
      have O6 := O5.out.rd
      rw [HB2.out] at O6
      have E5 : Hid (Ext Non w w5) := E3.out.trans0 F5.out
      refine (Read_calls O6 (by omega)).mono ?_
      rintro e w6 ⟨g, rfl, hg0, hg1, h1, h2⟩
      have R6 := Lib.hid h1
      have E6 := Lib.hid (E5.out.trans0 h2)
      have HGW : Hid (w.heap.size ≤ g) := Nat.le_trans E5.out.size hg0
      have HOK : Hid (¬ (w5.heap.size ≤ g ∧ g < g)) := fun h => by omega
      have HB1 := Lib.hid hb1
      have HB22 := Lib.hid hb2
      have HB3 := Lib.hid hb3
      clear h1 h2 hb1 hb2 hb3 O6 hg0 hg1
      go_wp2_with fail
      refine (RNumber_calls R6.out HOK.out (Nat.zero_le _)).mono ?_
      rw [S1.out]
      rintro e w7 ⟨rfl, h1, h2⟩
      have R7 := Lib.hid h1
      have E7 : Hid (Ext Non w w7) := E6.out.trans h2 (fun i hi e => by have e' : i = g := e; have := HGW.out; omega)
      clear h1 h2
      go_wp2_with fail
      refine (RText_calls R7.out HOK.out HB1.out (t.size : Int)).mono ?_
      simp only [S2.out, str_back]
      rintro e w8 ⟨rfl, h1, h2⟩
      have R8 := Lib.hid h1
      have E8 : Hid (Ext Non w w8) := E7.out.trans h2 (fun i hi e => by have e' : i = g := e; have := HGW.out; omega)
      clear h1 h2
      go_wp2_with fail
      refine (RFlag_calls R8.out HOK.out HB22.out).mono ?_
      rw [S3.out]
      rintro e w9 ⟨rfl, h1, h2⟩
      have R9 := Lib.hid h1
      have E9 : Hid (Ext Non w w9) := E8.out.trans h2 (fun i hi e => by have e' : i = g := e; have := HGW.out; omega)
      clear h1 h2
      go_wp2_with fail
      refine (RSigned_calls R9.out HOK.out HB3.out).mono ?_
      rw [S4.out]
      rintro e w10 ⟨rfl, h1, h2⟩
      have R10 := Lib.hid h1
      have E10 : Hid (Ext Non w w10) := E9.out.trans h2 (fun i hi e => by have e' : i = g := e; have := HGW.out; omega)
      have hA4 : a3 + 8 ≤ B.length := by have := HLE.out; omega
      have HA4 := Lib.hid hA4
      have hleft : B.length - (a3 + 8) = bs.length := by have := HLE.out; omega
      have HLEFT := Lib.hid hleft
      have hend : rEnd B (a3 + 8) 0 = if bs.length = 0 then 0 else 3 := by
        unfold rEnd
        rw [if_neg (by simp)]
        have := HLE.out
        by_cases hb : bs.length = 0
        · rw [if_neg (by omega), if_pos hb]
        · rw [if_pos (by omega), if_neg hb]
      have HEND := Lib.hid hend
      simp only [] at R10 ⊢
      clear h1 h2 hA4 hleft hend
      have hnn : (n < 0 ∧ ((N : Int) == 0) = true) ∨ (¬ n < 0 ∧ ((N : Int) == n) = true) := by
        have := HN.out
        by_cases h : n < 0
        · exact .inl ⟨h, by simp; omega⟩
        · exact .inr ⟨h, by simp; omega⟩
      rcases hnn with ⟨hn, fn⟩ | ⟨hn, fn⟩
      case' inl => have hn' : ¬ 0 ≤ n := by omega
      all_goals
        go_wp2_with fail
        refine (Err_calls R10.out).mono ?_
        rintro e w11 ⟨rfl, rfl⟩
        go_wp2_with fail
        refine (Left_calls R10.out HA4.out).mono ?_
        rw [HLEFT.out]
        rintro e w11 ⟨rfl, h1⟩
        have R11 := Lib.hid (R10.out.ext h1)
        have E11 := Lib.hid (E10.out.trans0 h1)
        clear h1
        go_wp2_with fail
        refine (REnd_calls R11.out HA4.out).mono ?_
        rw [HEND.out]
        rintro e w12 ⟨rfl, h1⟩
        have E12 := Lib.hid (E11.out.trans0 h1)
        clear h1
        by_cases hb : bs.length = 0
        · rw [if_pos hb]
          have fb : ((bs.length : Int) == 0) = true := by simp [hb]
          clear hb
          go_wp2_with fail
          refine (awake_calls (HT.out.ext E12.out)).mono ?_
          rintro e w13 ⟨rfl, he⟩
          have E13 : Hid (Ext Non w w13) := E12.out.trans0 he
          clear he
          go_wp2_with fail
          go_ret
          exact ⟨rfl, E13.out⟩
        · rw [if_neg hb]
          have fb : ((bs.length : Int) == 0) = false := by simpa using hb
          clear hb
          go_wp2_with fail
          refine (awake_calls (HT.out.ext E12.out)).mono ?_
          rintro e w13 ⟨rfl, he⟩
          have E13 : Hid (Ext Non w w13) := E12.out.trans0 he
          clear he
          go_wp2_with fail
          go_ret
          exact ⟨rfl, E13.out⟩
end Go.Proofs.YtiapjdbeooonjaaDoor
