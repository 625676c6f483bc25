/- WireTexts: the walk of the law. -/
import Derived.Test.YtiapjdbeooonjaaDoorG0
namespace Go.Proofs.YtiapjdbeooonjaaDoor
open Go.RowKit Go.TM

set_option maxHeartbeats 2000000 in
theorem texts_calls {w : World} {ok : Nat → Prop} {A : Option Addr} {c : Nat} {bs : List UInt8} (H : Rd Kd.u8 w ok (.slice A bs.length c) bs) (t : ByteArray) (b : Bool) (v : Int) (HL : Laid w) :
    Calls Tryd.prog 9 #[.slice A bs.length c, .string t, .bool b, .int .i64 v] w fun e w' => e = .returned (.bool true) ∧ Ext Non w w' := by
  have HH := Lib.hid (Rd.any H)
  have HT := Lib.hid HL
  clear H HL
  by_cases h0 : 65536 < bs.length
  · have q : (65536 : Int) < (bs.length : Int) := by omega
    go_enter Tryd.func9, Tryd.ntmps9
    go_wp2_with fail
    refine (awake_calls HT.out).mono ?_
    rintro e w1 ⟨rfl, he⟩
    have HE := Lib.hid he
    clear he
    go_wp2_with fail
    go_ret
    exact ⟨rfl, HE.out⟩
  · have q : ¬ (65536 : Int) < (bs.length : Int) := by omega
    by_cases h1 : 65536 < t.size
    · have q1 : (65536 : Int) < (t.size : Int) := by omega
      go_enter Tryd.func9, Tryd.ntmps9
      go_wp2_with fail
      refine (awake_calls HT.out).mono ?_
      rintro e w1 ⟨rfl, he⟩
      have HE := Lib.hid he
      clear he
      go_wp2_with fail
      go_ret
      exact ⟨rfl, HE.out⟩
    · have q1 : ¬ (65536 : Int) < (t.size : Int) := by omega
      have hbl : bs.length ≤ 65536 := by omega
      have htl : t.size ≤ 65536 := by omega
      clear h0 h1
      go_enter Tryd.func9, Tryd.ntmps9
      go_wp2_with fail
      refine (Clone_calls HH.out (by omega) (fun _ _ => trivial)).mono ?_
      rintro e w1 ⟨v1, rfl, ho, he⟩
      obtain ⟨A1, N1, c1, rfl, hn1⟩ := (Own.abs8 ho)
      have O1 := Lib.hid ho.rd
      have E1 := Lib.hid he
      clear ho he hn1
      go_wp2_with fail
      refine (Text_calls O1.out t (by omega) (by omega) (fun _ _ => trivial)).mono ?_
      rintro e w2 ⟨v2, rfl, ho, he⟩
      obtain ⟨A2, N2, c2, rfl, hn2⟩ := (Own.abs8 ho)
      have O2 := Lib.hid ho.rd
      have O1b := Lib.hid (O1.out.ext0 he)
      have E2 := Lib.hid (E1.out.trans0 he)
      clear ho he hn2
      go_wp2_with fail
      refine (TextR_calls (HH.out.ext0 E2.out) t (by omega) (by omega) (fun _ _ => trivial)).mono ?_
      rintro e w3 ⟨v3, rfl, ho, he⟩
      obtain ⟨A3, N3, c3, rfl, hn3⟩ := (Own.abs8 ho)
      have O3 := Lib.hid ho.rd
      have O1c := Lib.hid (O1b.out.ext0 he)
      have O2b := Lib.hid (O2.out.ext0 he)
      have E3 := Lib.hid (E2.out.trans0 he)
      clear ho he hn3
      go_wp2_with fail
      refine (Equal_calls O2b.out O3.out).mono ?_
      rintro e w4 ⟨rfl, rfl⟩
      rw [beq_self_eq_true]
      go_wp2_with fail
      refine (Flag_calls O1c.out b (by omega) (fun _ _ => trivial)).mono ?_
      rintro e w4 ⟨v4, rfl, ho, he⟩
      obtain ⟨A4, N4, c4, rfl, hn4⟩ := (Own.abs8 ho)
      have O4 := Lib.hid ho.rd
      have O1d := Lib.hid (O1c.out.ext0 he)
      have E4 := Lib.hid (E3.out.trans0 he)
      clear ho he hn4
      go_wp2_with fail
      refine (FlagR_calls (HH.out.ext0 E4.out) b (by omega) (fun _ _ => trivial)).mono ?_
      rintro e w5 ⟨v5, rfl, ho, he⟩
      obtain ⟨A5, N5, c5, rfl, hn5⟩ := (Own.abs8 ho)
      have O5 := Lib.hid ho.rd
      have O1e := Lib.hid (O1d.out.ext0 he)
      have O4b := Lib.hid (O4.out.ext0 he)
      have E5 := Lib.hid (E4.out.trans0 he)
      clear ho he hn5
      go_wp2_with fail
      refine (Equal_calls O4b.out O5.out).mono ?_
      rintro e w6 ⟨rfl, rfl⟩
      rw [beq_self_eq_true]
      go_wp2_with fail
      refine (Signed_calls O1e.out v (by omega) (fun _ _ => trivial)).mono ?_
      rintro e w6 ⟨v6, rfl, ho, he⟩
      obtain ⟨A6, N6, c6, rfl, hn6⟩ := (Own.abs8 ho)
      have O6 := Lib.hid ho.rd
      have O1f := Lib.hid (O1e.out.ext0 he)
      have E6 := Lib.hid (E5.out.trans0 he)
      clear ho he hn6
      go_wp2_with fail
      refine (SignedR_calls (HH.out.ext0 E6.out) v (by omega) (fun _ _ => trivial)).mono ?_
      rintro e w7 ⟨v7, rfl, ho, he⟩
      obtain ⟨A7, N7, c7, rfl, hn7⟩ := (Own.abs8 ho)
      have O7 := Lib.hid ho.rd
      have O1g := Lib.hid (O1f.out.ext0 he)
      have O6b := Lib.hid (O6.out.ext0 he)
      have E7 := Lib.hid (E6.out.trans0 he)
      clear ho he hn7
      go_wp2_with fail
      refine (Equal_calls O6b.out O7.out).mono ?_
      rintro e w8 ⟨rfl, rfl⟩
      rw [beq_self_eq_true]
      go_wp2_with fail
      refine (Equal_calls O1g.out (HH.out.ext0 E7.out)).mono ?_
      rintro e w8 ⟨rfl, rfl⟩
      rw [beq_self_eq_true]
      go_wp2_with fail
      refine (awake_calls (HT.out.ext E7.out)).mono ?_
      rintro e w9 ⟨rfl, he⟩
      have E9 : Hid (Ext Non w w9) := E7.out.trans0 he
      clear he
      go_wp2_with fail
      go_ret
      exact ⟨rfl, E9.out⟩
end Go.Proofs.YtiapjdbeooonjaaDoor
