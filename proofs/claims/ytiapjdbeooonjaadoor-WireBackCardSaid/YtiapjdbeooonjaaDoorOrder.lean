/- WireOrder: the walk of the law. -/
import Derived.Test.YtiapjdbeooonjaaDoorG0
import Derived.Test.YtiapjdbeooonjaaDoorF0
namespace Go.Proofs.YtiapjdbeooonjaaDoor
open Go.RowKit Go.TM

theorem fold_bval : ∀ (l : List UInt8) (n : Nat), l.foldl (fun n x => 256 * n + x.toNat) n = n * 256 ^ l.length + bval l
  | [], n => by simp [bval]
  | x :: l, n => by
    rw [List.foldl_cons, fold_bval l]
    have : bval (x :: l) = (256 * 0 + x.toNat) * 256 ^ l.length + bval l := by
      show (x :: l).foldl (fun n x => 256 * n + x.toNat) 0 = _
      rw [List.foldl_cons, fold_bval l]
    rw [this, List.length_cons, Nat.pow_succ, Nat.add_mul, Nat.add_mul, Nat.mul_zero, Nat.zero_mul, Nat.zero_add, Nat.mul_comm (256 ^ l.length), ← Nat.mul_assoc, Nat.mul_comm n 256, Nat.add_assoc]
theorem bval_cons (x : UInt8) (l : List UInt8) : bval (x :: l) = x.toNat * 256 ^ l.length + bval l := by
  show (x :: l).foldl (fun n x => 256 * n + x.toNat) 0 = _
  rw [List.foldl_cons, fold_bval l, Nat.mul_zero, Nat.zero_add]
def cmpN (m n : Nat) : Int := if m < n then -1 else if n < m then 1 else 0
theorem cmp_bval : ∀ (xs ys : List UInt8), xs.length = ys.length → Lib.compareBytes xs ys = cmpN (bval xs) (bval ys)
  | [], [], _ => by simp [Lib.compareBytes, cmpN, bval]
  | [], _ :: _, h => by simp at h
  | _ :: _, [], h => by simp at h
  | x :: xs, y :: ys, h => by
    have hl : xs.length = ys.length := by simpa using h
    have hx := bval_lt xs
    have hy := bval_lt ys
    rw [hl] at hx
    rw [bval_cons, bval_cons, hl]
    unfold Lib.compareBytes
    generalize 256 ^ ys.length = P at *
    by_cases h1 : x < y
    · have h1' : x.toNat + 1 ≤ y.toNat := h1
      have := Nat.mul_le_mul_right P h1'
      rw [Nat.add_mul] at this
      rw [if_pos h1]
      unfold cmpN
      rw [if_pos (by omega)]
    · by_cases h2 : y < x
      · have h2' : y.toNat + 1 ≤ x.toNat := h2
        have := Nat.mul_le_mul_right P h2'
        rw [Nat.add_mul] at this
        rw [if_neg h1, if_pos h2]
        unfold cmpN
        rw [if_neg (by omega), if_pos (by omega)]
      · have h3 : x.toNat = y.toNat := by
          have a1 : ¬ x.toNat < y.toNat := h1
          have a2 : ¬ y.toNat < x.toNat := h2
          omega
        rw [if_neg h1, if_neg h2, cmp_bval xs ys hl, h3]
        unfold cmpN
        generalize y.toNat * P = Q
        by_cases h4 : bval xs < bval ys
        · rw [if_pos h4, if_pos (by omega)]
        · by_cases h5 : bval ys < bval xs
          · rw [if_neg h4, if_pos h5, if_neg (by omega), if_pos (by omega)]
          · rw [if_neg h4, if_neg h5, if_neg (by omega), if_neg (by omega)]
theorem be_mono : ∀ (k m n : Nat), m ≤ k → m ≤ n → (be m).length ≤ (be n).length := by
  intro k
  induction k with
  | zero =>
    intro m n h1 _
    have : m = 0 := by omega
    subst this
    rw [be_zero]
    simp
  | succ k ih =>
    intro m n h1 h2
    rcases Nat.eq_zero_or_pos m with h0 | h0
    · subst h0
      rw [be_zero]
      simp
    · rw [be_pos h0, be_pos (m := n) (by omega), List.length_append, List.length_append]
      have := ih (m / 256) (n / 256) (by omega) (Nat.div_le_div_right h2)
      simp only [List.length_singleton]
      omega
theorem cmp_numB {m n : Nat} (hm : m ≤ 9223372036854775807) (hn : n ≤ 9223372036854775807) : Lib.compareBytes (numB m) (numB n) = cmpN m n := by
  have h1 := be_le8 hm
  have h2 := be_le8 hn
  have t1 : (UInt8.ofNat (be m).length).toNat = (be m).length := by
    have : (UInt8.ofNat (be m).length).toNat = (be m).length % 256 := by simp
    omega
  have t2 : (UInt8.ofNat (be n).length).toNat = (be n).length := by
    have : (UInt8.ofNat (be n).length).toNat = (be n).length % 256 := by simp
    omega
  unfold numB Lib.compareBytes
  by_cases h3 : UInt8.ofNat (be m).length < UInt8.ofNat (be n).length
  · have h3' : (UInt8.ofNat (be m).length).toNat < (UInt8.ofNat (be n).length).toNat := h3
    rw [if_pos h3]
    unfold cmpN
    rw [if_pos]
    rcases Nat.lt_or_ge m n with h | h
    · exact h
    · have := be_mono n n m (Nat.le_refl _) h
      omega
  · by_cases h4 : UInt8.ofNat (be n).length < UInt8.ofNat (be m).length
    · have h4' : (UInt8.ofNat (be n).length).toNat < (UInt8.ofNat (be m).length).toNat := h4
      rw [if_neg h3, if_pos h4]
      have hlt : n < m := by
        rcases Nat.lt_or_ge n m with h | h
        · exact h
        · have := be_mono m m n (Nat.le_refl _) h
          omega
      unfold cmpN
      rw [if_neg (by omega), if_pos hlt]
    · have a1 : ¬ (UInt8.ofNat (be m).length).toNat < (UInt8.ofNat (be n).length).toNat := h3
      have a2 : ¬ (UInt8.ofNat (be n).length).toNat < (UInt8.ofNat (be m).length).toNat := h4
      rw [if_neg h3, if_neg h4, cmp_bval _ _ (by omega), bval_be, bval_be]
theorem bval_sigB {u : Nat} (h : u < 18446744073709551616) : bval (sigB u) = u := by
  have e : ∀ n : Nat, (UInt8.ofNat n).toNat = n % 256 := by intro n; simp
  unfold sigB bval
  simp only [List.foldl_cons, List.foldl_nil, e]
  omega
theorem cmp_sigB {m n : Nat} (hm : m < 18446744073709551616) (hn : n < 18446744073709551616) : Lib.compareBytes (sigB m) (sigB n) = cmpN m n := by
  rw [cmp_bval (sigB m) (sigB n) rfl, bval_sigB hm, bval_sigB hn]
theorem twos_nn {a : Int} (h0 : 0 ≤ a) (h1 : a ≤ 9223372036854775807) : twos a = a.toNat := by unfold twos; omega

set_option maxHeartbeats 2000000 in
theorem order_calls {w : World} (HL : Laid w) (a b : Int) (ha0 : -9223372036854775808 ≤ a) (ha1 : a ≤ 9223372036854775807) (hb0 : -9223372036854775808 ≤ b) (hb1 : b ≤ 9223372036854775807) :
    Calls Tryd.prog 7 #[.int .i64 a, .int .i64 b] w fun e w' => e = .returned (.bool true) ∧ Ext Non w w' := by
  have HT := Lib.hid HL
  clear HL
  by_cases hna : a < 0
  · have hna' : ¬ 0 ≤ a := by omega
    by_cases hnb : b < 0
    · have hnb' : ¬ 0 ≤ b := by omega
      go_enter Tryd.func7, Tryd.ntmps7
      go_wp2_with fail
      obtain ⟨C, hC⟩ : ∃ C, C = cmpN (0 : Int).toNat (0 : Int).toNat := ⟨_, rfl⟩
      have HC := Lib.hid hC
      clear hC
      refine (Number_calls (w := w) (ok := fun _ => True) (A := none) (c := 0) (bs := []) (Rd.nil _ _ _) 0 (by omega) (by omega) (by simp) (fun _ _ => trivial)).mono ?_
      rintro e w1 ⟨v1, rfl, ho, he⟩
      obtain ⟨A1, N1, c1, rfl, hn1⟩ := (Own.abs8 ho)
      have O1 := Lib.hid ho.rd
      have E1 := Lib.hid he
      clear ho he hn1
      go_wp2_with fail
      refine (Number_calls (w := w1) (ok := fun _ => True) (A := none) (c := 0) (bs := []) (Rd.nil _ _ _) 0 (by omega) (by omega) (by simp) (fun _ _ => trivial)).mono ?_
      rintro e w2 ⟨v2, rfl, ho, he⟩
      obtain ⟨A2, N2, c2, rfl, hn2⟩ := (Own.abs8 ho)
      have O2 := Lib.hid ho.rd
      have O1' := Lib.hid (O1.out.ext0 he)
      have E2 := Lib.hid (E1.out.trans0 he)
      clear ho he hn2
      go_wp2_with fail
      refine (Compare_calls O1'.out O2.out).mono ?_
      simp only [List.nil_append]
      rw [cmp_numB (by omega) (by omega), ← HC.out]
      rintro e w3 ⟨rfl, rfl⟩
      go_wp2_with fail
      refine (Signed_calls (w := w2) (ok := fun _ => True) (A := none) (n := 0) (c := 0) (bs := []) (Rd.nil _ _ _) 0 (by simp) (fun _ _ => trivial)).mono ?_
      rintro e w3 ⟨v3, rfl, ho, he⟩
      obtain ⟨A3, N3, c3, rfl, hn3⟩ := (Own.abs8 ho)
      have O3 := Lib.hid ho.rd
      have E3 := Lib.hid (E2.out.trans0 he)
      clear ho he hn3
      go_wp2_with fail
      refine (Signed_calls (w := w3) (ok := fun _ => True) (A := none) (n := 0) (c := 0) (bs := []) (Rd.nil _ _ _) 0 (by simp) (fun _ _ => trivial)).mono ?_
      rintro e w4 ⟨v4, rfl, ho, he⟩
      obtain ⟨A4, N4, c4, rfl, hn4⟩ := (Own.abs8 ho)
      have O4 := Lib.hid ho.rd
      have O3' := Lib.hid (O3.out.ext0 he)
      have E4 := Lib.hid (E3.out.trans0 he)
      clear ho he hn4
      go_wp2_with fail
      refine (Compare_calls O3'.out O4.out).mono ?_
      simp only [List.nil_append]
      rw [cmp_sigB (twos_lt _) (twos_lt _)]
      simp only [twos_nn (a := 0) (by omega) (by omega)]
      rw [← HC.out]
      rintro e w5 ⟨rfl, rfl⟩
      have hcase : (C = -1 ∧ (0 : Int) < 0) ∨ (C = 1 ∧ (0 : Int) < 0) ∨ (C = 0 ∧ (0 : Int) = 0) := by
        rw [HC.out]
        unfold cmpN
        by_cases h1 : (0 : Int).toNat < (0 : Int).toNat
        · rw [if_pos h1]
          exact .inl ⟨rfl, by omega⟩
        · rw [if_neg h1]
          by_cases h2 : (0 : Int).toNat < (0 : Int).toNat
          · rw [if_pos h2]
            exact .inr (.inl ⟨rfl, by omega⟩)
          · rw [if_neg h2]
            exact .inr (.inr ⟨rfl, by omega⟩)
      clear HC
      rcases hcase with ⟨rfl, hlt⟩ | ⟨rfl, hlt⟩ | ⟨rfl, hlt⟩
      · exact absurd hlt (by omega)
      · exact absurd hlt (by omega)
      · have f1 : (decide ((0 : Int) < 0)) = false := by first | (simp; omega) | (simp; done)
        have f2 : (((0 : Int) == 0)) = true := by first | (simp; omega) | (simp; done)
        clear hlt
        go_wp2_with fail
        refine (awake_calls (HT.out.ext E4.out)).mono ?_
        rintro e w6 ⟨rfl, he⟩
        have E6 : Hid (Ext Non w w6) := E4.out.trans0 he
        clear he
        go_wp2_with fail
        go_ret
        exact ⟨rfl, E6.out⟩
    · go_enter Tryd.func7, Tryd.ntmps7
      go_wp2_with fail
      obtain ⟨C, hC⟩ : ∃ C, C = cmpN (0 : Int).toNat (b : Int).toNat := ⟨_, rfl⟩
      have HC := Lib.hid hC
      clear hC
      refine (Number_calls (w := w) (ok := fun _ => True) (A := none) (c := 0) (bs := []) (Rd.nil _ _ _) 0 (by omega) (by omega) (by simp) (fun _ _ => trivial)).mono ?_
      rintro e w1 ⟨v1, rfl, ho, he⟩
      obtain ⟨A1, N1, c1, rfl, hn1⟩ := (Own.abs8 ho)
      have O1 := Lib.hid ho.rd
      have E1 := Lib.hid he
      clear ho he hn1
      go_wp2_with fail
      refine (Number_calls (w := w1) (ok := fun _ => True) (A := none) (c := 0) (bs := []) (Rd.nil _ _ _) b (by omega) (by omega) (by simp) (fun _ _ => trivial)).mono ?_
      rintro e w2 ⟨v2, rfl, ho, he⟩
      obtain ⟨A2, N2, c2, rfl, hn2⟩ := (Own.abs8 ho)
      have O2 := Lib.hid ho.rd
      have O1' := Lib.hid (O1.out.ext0 he)
      have E2 := Lib.hid (E1.out.trans0 he)
      clear ho he hn2
      go_wp2_with fail
      refine (Compare_calls O1'.out O2.out).mono ?_
      simp only [List.nil_append]
      rw [cmp_numB (by omega) (by omega), ← HC.out]
      rintro e w3 ⟨rfl, rfl⟩
      go_wp2_with fail
      refine (Signed_calls (w := w2) (ok := fun _ => True) (A := none) (n := 0) (c := 0) (bs := []) (Rd.nil _ _ _) 0 (by simp) (fun _ _ => trivial)).mono ?_
      rintro e w3 ⟨v3, rfl, ho, he⟩
      obtain ⟨A3, N3, c3, rfl, hn3⟩ := (Own.abs8 ho)
      have O3 := Lib.hid ho.rd
      have E3 := Lib.hid (E2.out.trans0 he)
      clear ho he hn3
      go_wp2_with fail
      refine (Signed_calls (w := w3) (ok := fun _ => True) (A := none) (n := 0) (c := 0) (bs := []) (Rd.nil _ _ _) b (by simp) (fun _ _ => trivial)).mono ?_
      rintro e w4 ⟨v4, rfl, ho, he⟩
      obtain ⟨A4, N4, c4, rfl, hn4⟩ := (Own.abs8 ho)
      have O4 := Lib.hid ho.rd
      have O3' := Lib.hid (O3.out.ext0 he)
      have E4 := Lib.hid (E3.out.trans0 he)
      clear ho he hn4
      go_wp2_with fail
      refine (Compare_calls O3'.out O4.out).mono ?_
      simp only [List.nil_append]
      rw [cmp_sigB (twos_lt _) (twos_lt _)]
      simp only [twos_nn (a := 0) (by omega) (by omega), twos_nn (a := b) (by omega) (by omega)]
      rw [← HC.out]
      rintro e w5 ⟨rfl, rfl⟩
      have hcase : (C = -1 ∧ (0 : Int) < b) ∨ (C = 1 ∧ (b : Int) < 0) ∨ (C = 0 ∧ (0 : Int) = b) := by
        rw [HC.out]
        unfold cmpN
        by_cases h1 : (0 : Int).toNat < (b : Int).toNat
        · rw [if_pos h1]
          exact .inl ⟨rfl, by omega⟩
        · rw [if_neg h1]
          by_cases h2 : (b : Int).toNat < (0 : Int).toNat
          · rw [if_pos h2]
            exact .inr (.inl ⟨rfl, by omega⟩)
          · rw [if_neg h2]
            exact .inr (.inr ⟨rfl, by omega⟩)
      clear HC
      rcases hcase with ⟨rfl, hlt⟩ | ⟨rfl, hlt⟩ | ⟨rfl, hlt⟩
      · have f1 : (decide ((0 : Int) < b)) = true := by first | (simp; omega) | (simp; done)
        have f2 : (((0 : Int) == b)) = false := by first | (simp; omega) | (simp; done)
        clear hlt
        go_wp2_with fail
        refine (awake_calls (HT.out.ext E4.out)).mono ?_
        rintro e w6 ⟨rfl, he⟩
        have E6 : Hid (Ext Non w w6) := E4.out.trans0 he
        clear he
        go_wp2_with fail
        go_ret
        exact ⟨rfl, E6.out⟩
      · have f1 : (decide ((0 : Int) < b)) = false := by first | (simp; omega) | (simp; done)
        have f2 : (((0 : Int) == b)) = false := by first | (simp; omega) | (simp; done)
        clear hlt
        go_wp2_with fail
        refine (awake_calls (HT.out.ext E4.out)).mono ?_
        rintro e w6 ⟨rfl, he⟩
        have E6 : Hid (Ext Non w w6) := E4.out.trans0 he
        clear he
        go_wp2_with fail
        go_ret
        exact ⟨rfl, E6.out⟩
      · have f1 : (decide ((0 : Int) < b)) = false := by first | (simp; omega) | (simp; done)
        have f2 : (((0 : Int) == b)) = true := by first | (simp; omega) | (simp; done)
        clear hlt
        go_wp2_with fail
        refine (awake_calls (HT.out.ext E4.out)).mono ?_
        rintro e w6 ⟨rfl, he⟩
        have E6 : Hid (Ext Non w w6) := E4.out.trans0 he
        clear he
        go_wp2_with fail
        go_ret
        exact ⟨rfl, E6.out⟩
  · by_cases hnb : b < 0
    · have hnb' : ¬ 0 ≤ b := by omega
      go_enter Tryd.func7, Tryd.ntmps7
      go_wp2_with fail
      obtain ⟨C, hC⟩ : ∃ C, C = cmpN (a : Int).toNat (0 : Int).toNat := ⟨_, rfl⟩
      have HC := Lib.hid hC
      clear hC
      refine (Number_calls (w := w) (ok := fun _ => True) (A := none) (c := 0) (bs := []) (Rd.nil _ _ _) a (by omega) (by omega) (by simp) (fun _ _ => trivial)).mono ?_
      rintro e w1 ⟨v1, rfl, ho, he⟩
      obtain ⟨A1, N1, c1, rfl, hn1⟩ := (Own.abs8 ho)
      have O1 := Lib.hid ho.rd
      have E1 := Lib.hid he
      clear ho he hn1
      go_wp2_with fail
      refine (Number_calls (w := w1) (ok := fun _ => True) (A := none) (c := 0) (bs := []) (Rd.nil _ _ _) 0 (by omega) (by omega) (by simp) (fun _ _ => trivial)).mono ?_
      rintro e w2 ⟨v2, rfl, ho, he⟩
      obtain ⟨A2, N2, c2, rfl, hn2⟩ := (Own.abs8 ho)
      have O2 := Lib.hid ho.rd
      have O1' := Lib.hid (O1.out.ext0 he)
      have E2 := Lib.hid (E1.out.trans0 he)
      clear ho he hn2
      go_wp2_with fail
      refine (Compare_calls O1'.out O2.out).mono ?_
      simp only [List.nil_append]
      rw [cmp_numB (by omega) (by omega), ← HC.out]
      rintro e w3 ⟨rfl, rfl⟩
      go_wp2_with fail
      refine (Signed_calls (w := w2) (ok := fun _ => True) (A := none) (n := 0) (c := 0) (bs := []) (Rd.nil _ _ _) a (by simp) (fun _ _ => trivial)).mono ?_
      rintro e w3 ⟨v3, rfl, ho, he⟩
      obtain ⟨A3, N3, c3, rfl, hn3⟩ := (Own.abs8 ho)
      have O3 := Lib.hid ho.rd
      have E3 := Lib.hid (E2.out.trans0 he)
      clear ho he hn3
      go_wp2_with fail
      refine (Signed_calls (w := w3) (ok := fun _ => True) (A := none) (n := 0) (c := 0) (bs := []) (Rd.nil _ _ _) 0 (by simp) (fun _ _ => trivial)).mono ?_
      rintro e w4 ⟨v4, rfl, ho, he⟩
      obtain ⟨A4, N4, c4, rfl, hn4⟩ := (Own.abs8 ho)
      have O4 := Lib.hid ho.rd
      have O3' := Lib.hid (O3.out.ext0 he)
      have E4 := Lib.hid (E3.out.trans0 he)
      clear ho he hn4
      go_wp2_with fail
      refine (Compare_calls O3'.out O4.out).mono ?_
      simp only [List.nil_append]
      rw [cmp_sigB (twos_lt _) (twos_lt _)]
      simp only [twos_nn (a := a) (by omega) (by omega), twos_nn (a := 0) (by omega) (by omega)]
      rw [← HC.out]
      rintro e w5 ⟨rfl, rfl⟩
      have hcase : (C = -1 ∧ (a : Int) < 0) ∨ (C = 1 ∧ (0 : Int) < a) ∨ (C = 0 ∧ (a : Int) = 0) := by
        rw [HC.out]
        unfold cmpN
        by_cases h1 : (a : Int).toNat < (0 : Int).toNat
        · rw [if_pos h1]
          exact .inl ⟨rfl, by omega⟩
        · rw [if_neg h1]
          by_cases h2 : (0 : Int).toNat < (a : Int).toNat
          · rw [if_pos h2]
            exact .inr (.inl ⟨rfl, by omega⟩)
          · rw [if_neg h2]
            exact .inr (.inr ⟨rfl, by omega⟩)
      clear HC
      rcases hcase with ⟨rfl, hlt⟩ | ⟨rfl, hlt⟩ | ⟨rfl, hlt⟩
      · have f1 : (decide ((a : Int) < 0)) = true := by first | (simp; omega) | (simp; done)
        have f2 : (((a : Int) == 0)) = false := by first | (simp; omega) | (simp; done)
        clear hlt
        go_wp2_with fail
        refine (awake_calls (HT.out.ext E4.out)).mono ?_
        rintro e w6 ⟨rfl, he⟩
        have E6 : Hid (Ext Non w w6) := E4.out.trans0 he
        clear he
        go_wp2_with fail
        go_ret
        exact ⟨rfl, E6.out⟩
      · have f1 : (decide ((a : Int) < 0)) = false := by first | (simp; omega) | (simp; done)
        have f2 : (((a : Int) == 0)) = false := by first | (simp; omega) | (simp; done)
        clear hlt
        go_wp2_with fail
        refine (awake_calls (HT.out.ext E4.out)).mono ?_
        rintro e w6 ⟨rfl, he⟩
        have E6 : Hid (Ext Non w w6) := E4.out.trans0 he
        clear he
        go_wp2_with fail
        go_ret
        exact ⟨rfl, E6.out⟩
      · have f1 : (decide ((a : Int) < 0)) = false := by first | (simp; omega) | (simp; done)
        have f2 : (((a : Int) == 0)) = true := by first | (simp; omega) | (simp; done)
        clear hlt
        go_wp2_with fail
        refine (awake_calls (HT.out.ext E4.out)).mono ?_
        rintro e w6 ⟨rfl, he⟩
        have E6 : Hid (Ext Non w w6) := E4.out.trans0 he
        clear he
        go_wp2_with fail
        go_ret
        exact ⟨rfl, E6.out⟩
    · go_enter Tryd.func7, Tryd.ntmps7
      go_wp2_with fail
      obtain ⟨C, hC⟩ : ∃ C, C = cmpN (a : Int).toNat (b : Int).toNat := ⟨_, rfl⟩
      have HC := Lib.hid hC
      clear hC
      refine (Number_calls (w := w) (ok := fun _ => True) (A := none) (c := 0) (bs := []) (Rd.nil _ _ _) a (by omega) (by omega) (by simp) (fun _ _ => trivial)).mono ?_
      rintro e w1 ⟨v1, rfl, ho, he⟩
      obtain ⟨A1, N1, c1, rfl, hn1⟩ := (Own.abs8 ho)
      have O1 := Lib.hid ho.rd
      have E1 := Lib.hid he
      clear ho he hn1
      go_wp2_with fail
      refine (Number_calls (w := w1) (ok := fun _ => True) (A := none) (c := 0) (bs := []) (Rd.nil _ _ _) b (by omega) (by omega) (by simp) (fun _ _ => trivial)).mono ?_
      rintro e w2 ⟨v2, rfl, ho, he⟩
      obtain ⟨A2, N2, c2, rfl, hn2⟩ := (Own.abs8 ho)
      have O2 := Lib.hid ho.rd
      have O1' := Lib.hid (O1.out.ext0 he)
      have E2 := Lib.hid (E1.out.trans0 he)
      clear ho he hn2
      go_wp2_with fail
      refine (Compare_calls O1'.out O2.out).mono ?_
      simp only [List.nil_append]
      rw [cmp_numB (by omega) (by omega), ← HC.out]
      rintro e w3 ⟨rfl, rfl⟩
      go_wp2_with fail
      refine (Signed_calls (w := w2) (ok := fun _ => True) (A := none) (n := 0) (c := 0) (bs := []) (Rd.nil _ _ _) a (by simp) (fun _ _ => trivial)).mono ?_
      rintro e w3 ⟨v3, rfl, ho, he⟩
      obtain ⟨A3, N3, c3, rfl, hn3⟩ := (Own.abs8 ho)
      have O3 := Lib.hid ho.rd
      have E3 := Lib.hid (E2.out.trans0 he)
      clear ho he hn3
      go_wp2_with fail
      refine (Signed_calls (w := w3) (ok := fun _ => True) (A := none) (n := 0) (c := 0) (bs := []) (Rd.nil _ _ _) b (by simp) (fun _ _ => trivial)).mono ?_
      rintro e w4 ⟨v4, rfl, ho, he⟩
      obtain ⟨A4, N4, c4, rfl, hn4⟩ := (Own.abs8 ho)
      have O4 := Lib.hid ho.rd
      have O3' := Lib.hid (O3.out.ext0 he)
      have E4 := Lib.hid (E3.out.trans0 he)
      clear ho he hn4
      go_wp2_with fail
      refine (Compare_calls O3'.out O4.out).mono ?_
      simp only [List.nil_append]
      rw [cmp_sigB (twos_lt _) (twos_lt _)]
      simp only [twos_nn (a := a) (by omega) (by omega), twos_nn (a := b) (by omega) (by omega)]
      rw [← HC.out]
      rintro e w5 ⟨rfl, rfl⟩
      have hcase : (C = -1 ∧ (a : Int) < b) ∨ (C = 1 ∧ (b : Int) < a) ∨ (C = 0 ∧ (a : Int) = b) := by
        rw [HC.out]
        unfold cmpN
        by_cases h1 : (a : Int).toNat < (b : Int).toNat
        · rw [if_pos h1]
          exact .inl ⟨rfl, by omega⟩
        · rw [if_neg h1]
          by_cases h2 : (b : Int).toNat < (a : Int).toNat
          · rw [if_pos h2]
            exact .inr (.inl ⟨rfl, by omega⟩)
          · rw [if_neg h2]
            exact .inr (.inr ⟨rfl, by omega⟩)
      clear HC
      rcases hcase with ⟨rfl, hlt⟩ | ⟨rfl, hlt⟩ | ⟨rfl, hlt⟩
      · have f1 : (decide ((a : Int) < b)) = true := by first | (simp; omega) | (simp; done)
        have f2 : (((a : Int) == b)) = false := by first | (simp; omega) | (simp; done)
        clear hlt
        go_wp2_with fail
        refine (awake_calls (HT.out.ext E4.out)).mono ?_
        rintro e w6 ⟨rfl, he⟩
        have E6 : Hid (Ext Non w w6) := E4.out.trans0 he
        clear he
        go_wp2_with fail
        go_ret
        exact ⟨rfl, E6.out⟩
      · have f1 : (decide ((a : Int) < b)) = false := by first | (simp; omega) | (simp; done)
        have f2 : (((a : Int) == b)) = false := by first | (simp; omega) | (simp; done)
        clear hlt
        go_wp2_with fail
        refine (awake_calls (HT.out.ext E4.out)).mono ?_
        rintro e w6 ⟨rfl, he⟩
        have E6 : Hid (Ext Non w w6) := E4.out.trans0 he
        clear he
        go_wp2_with fail
        go_ret
        exact ⟨rfl, E6.out⟩
      · have f1 : (decide ((a : Int) < b)) = false := by first | (simp; omega) | (simp; done)
        have f2 : (((a : Int) == b)) = true := by first | (simp; omega) | (simp; done)
        clear hlt
        go_wp2_with fail
        refine (awake_calls (HT.out.ext E4.out)).mono ?_
        rintro e w6 ⟨rfl, he⟩
        have E6 : Hid (Ext Non w w6) := E4.out.trans0 he
        clear he
        go_wp2_with fail
        go_ret
        exact ⟨rfl, E6.out⟩
end Go.Proofs.YtiapjdbeooonjaaDoor
