/- WireTurned: the walk of the law. -/
import Derived.Test.YtiapjdbeooonjaaDoorCut
namespace Go.Proofs.YtiapjdbeooonjaaDoor
open Go.RowKit Go.TM

theorem turned_byte (x : UInt8) (t : Int) (h0 : 0 ≤ t) (h1 : t < 255) : ∃ y : UInt8, bits .xor .u8 (x.toNat : Int) (1 + t) = (y.toNat : Int) ∧ y ≠ x := by
  obtain ⟨n, rfl⟩ : ∃ n : Nat, t = (n : Int) := ⟨t.toNat, by omega⟩
  have hx := x.toNat_lt
  have hz : (UInt8.ofNat (1 + n)).toNat = 1 + n := by
    have : (UInt8.ofNat (1 + n)).toNat = (1 + n) % 256 := by simp
    omega
  refine ⟨x ^^^ UInt8.ofNat (1 + n), ?_, ?_⟩
  · have e1 : (BitVec.ofInt 8 (x.toNat : Int)).toNat = x.toNat := by
      rw [BitVec.ofInt_natCast, BitVec.toNat_ofNat]; exact Nat.mod_eq_of_lt (by omega)
    have e2 : (BitVec.ofInt 8 (1 + (n : Int))).toNat = 1 + n := by
      rw [show (1 + (n : Int)) = ((1 + n : Nat) : Int) from by omega, BitVec.ofInt_natCast, BitVec.toNat_ofNat]; exact Nat.mod_eq_of_lt (by omega)
    have hlt : x.toNat ^^^ (1 + n) < 2 ^ 8 := Nat.xor_lt_two_pow (by omega) (by omega)
    show IntKind.u8.wrap ((BitVec.ofInt 8 (x.toNat : Int) ^^^ BitVec.ofInt 8 (1 + (n : Int))).toNat : Int) = _
    rw [BitVec.toNat_xor, e1, e2, IntKind.wrap_u8, UInt8.toNat_xor, hz]
    omega
  · intro h
    have h2 : (x ^^^ UInt8.ofNat (1 + n)).toNat = x.toNat := by rw [h]
    rw [UInt8.toNat_xor, hz] at h2
    have h3 : 1 + n = 0 := Crc.xor_can (a := x.toNat) (by rw [h2, Nat.xor_zero])
    omega

set_option maxHeartbeats 1000000 in
set_option maxRecDepth 20000 in
theorem turned_calls {w : World} {ok : Nat → Prop} {A : Option Addr} {c : Nat} {p : List UInt8} (H : Rd Kd.u8 w ok (.slice A p.length c) p) (HL : Laid w) (k x : Int) :
    Calls Tryd.prog 3 #[.slice A p.length c, .int .i64 k, .int .i64 x] w fun e w' => e = .returned (.bool true) ∧ Ext Non w w' := by
  have HH := Lib.hid (Rd.any H)
  have HT := Lib.hid HL
  clear H HL
  by_cases h1 : 32768 < p.length
  · have q : (32768 : Int) < (p.length : Int) := by omega
    go_enter Tryd.func3, Tryd.ntmps3
    go_wp2_with fail
    refine (Frame_long h1).mono ?_
    rintro e w1 ⟨rfl, rfl⟩
    go_wp2_with fail
    refine (awake_calls HT.out).mono ?_
    rintro e w1 ⟨rfl, he⟩
    have HE := Lib.hid he
    clear he
    go_wp2_with fail
    go_ret
    exact ⟨rfl, HE.out⟩
  · go_enter Tryd.func3, Tryd.ntmps3
    go_wp2_with fail
    refine (Frame_fits HH.out HT.out (fun _ _ => trivial) (by omega)).mono ?_
    rintro e w1 ⟨v1, rfl, ho, he⟩
    obtain ⟨A1, N1, c1, rfl, hn1⟩ := (Own.abs8 ho)
    have hfl := frameB_length (p := p)
    have hnl := numB_le (m := p.length) (by omega)
    have hn5 : 5 ≤ N1 := by rw [hn1, hfl, numB_length]; omega
    have hnb : N1 ≤ 40000 := by omega
    have hN1m : ¬ (N1 : Int) < 5 := by omega
    obtain ⟨j, q2, hjl⟩ := modlen k (n := N1) (by omega)
    have q1 : wrap64 (j : Int) = (j : Int) := by unfold wrap64; omega
    have q3 : (0 : Int) ≤ (j : Int) := by omega
    obtain ⟨b, hb⟩ : ∃ b, (frameB p)[j]? = some b := ⟨_, List.getElem?_eq_getElem (by omega)⟩
    obtain ⟨t, ht, ht1⟩ := modlen x (n := 255) (by omega)
    obtain ⟨y, hy, hyb⟩ := turned_byte b (t : Int) (by omega) ht1
    obtain ⟨g, rfl, hg0, hg1, d0, y0, O2⟩ := own_set8 ho hb y
    have O1 := Lib.hid O2.rd
    have hEx : Ext Non w w1 := he
    have E1 : Hid (Ext Non w (w1.setCell ⟨g, j, none⟩ (.int .u8 (y.toNat : Int)))) := hEx.setNew hg0 _
    have HN1 := Lib.hid hn1
    have HB := Lib.hid hb
    have HYB := Lib.hid hyb
    have HG0 := Lib.hid hg0
    have q4 : IntKind.u64.wrap (N1 : Int) = (N1 : Int) := by rw [IntKind.wrap_u64]; omega
    have q5 : IntKind.u64.wrap (1 + (t : Int)) = 1 + (t : Int) := by rw [IntKind.wrap_u64]; omega
    have q6 : IntKind.u8.wrap (1 + (t : Int)) = 1 + (t : Int) := by rw [IntKind.wrap_u8]; omega
    have q7 : (1 + (t : Int)) % 256 = 1 + (t : Int) := by omega
    have ht' : (IntKind.u64.wrap x).tmod 255 = (t : Int) := ht
    clear ht ht1
    clear ho he hn1 hb hyb O2 hEx hfl hnl hn5 hnb hg0 hg1
    go_wp2_with fail
    have hcase := nextR_turned (p := p) (by omega) HB.out HYB.out
    refine (Next_calls O1.out (by rw [List.length_set, frameB_length]; have := numB_le (m := p.length) (by omega); omega) (HT.out.ext E1.out)).mono ?_
    rw [← HN1.out] at hcase
    generalize nextR ((frameB p).set j y) = r at hcase ⊢
    obtain ⟨l, n, e0⟩ := r
    rintro e w2 ⟨v2, rfl, ho, he⟩
    obtain ⟨A2, N2, c2, rfl, hn2⟩ := (Own.abs8 ho)
    have E2 := Lib.hid (E1.out.trans0 he)
    clear ho he hn2
    simp only [] at hcase ⊢
    by_cases he0 : e0 = 0
    · have q8 : (e0 != 0) = false := by simpa using he0
      have q9 : ((n : Int) != (N1 : Int)) = true := by
        have : n ≠ N1 := hcase.resolve_left (fun h => h he0)
        simp
        omega
      clear hcase he0
      go_wp2_with fail
      refine (awake_calls (HT.out.ext E2.out)).mono ?_
      rintro e w4 ⟨rfl, he⟩
      have E4 : Hid (Ext Non w w4) := E2.out.trans0 he
      clear he
      go_wp2_with fail
      go_ret
      exact ⟨rfl, E4.out⟩
    · have q8 : (e0 != 0) = true := by simpa using he0
      clear hcase he0
      go_wp2_with fail
      refine (awake_calls (HT.out.ext E2.out)).mono ?_
      rintro e w4 ⟨rfl, he⟩
      have E4 : Hid (Ext Non w w4) := E2.out.trans0 he
      clear he
      go_wp2_with fail
      go_ret
      exact ⟨rfl, E4.out⟩
end Go.Proofs.YtiapjdbeooonjaaDoor
