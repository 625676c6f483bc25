/- WireFrames: the walk of the law. -/
import Derived.Test.YtiapjdbeooonjaaDoorE2
namespace Go.Proofs.YtiapjdbeooonjaaDoor
open Go.RowKit Go.TM

set_option maxHeartbeats 1000000 in
theorem frames_calls {w : World} {ok : Nat → Prop} {A : Option Addr} {c : Nat} {p : List UInt8} (H : Rd Kd.u8 w ok (.slice A p.length c) p) (HL : Laid w) :
    Calls Tryd.prog 5 #[.slice A p.length c] w fun e w' => e = .returned (.bool true) ∧ Ext Non w w' := by
  have HH := Lib.hid (Rd.any H)
  have HT := Lib.hid HL
  clear H HL
  by_cases h0 : 65536 < p.length
  · have q : (65536 : Int) < (p.length : Int) := by omega
    go_enter Tryd.func5, Tryd.ntmps5
    go_wp2_with fail
    refine (awake_calls HT.out).mono ?_
    rintro e w1 ⟨rfl, he⟩
    have HE := Lib.hid he
    clear he
    go_wp2_with fail
    go_ret
    exact ⟨rfl, HE.out⟩
  · have q : ¬ (65536 : Int) < (p.length : Int) := by omega
    by_cases h1 : 32768 < p.length
    · go_enter Tryd.func5, Tryd.ntmps5
      go_wp2_with fail
      refine (Frame_long h1).mono ?_
      rintro e w1 ⟨rfl, rfl⟩
      go_wp2_with fail
      refine (FrameR_long h1).mono ?_
      rintro e w1 ⟨rfl, rfl⟩
      go_wp2_with fail
      refine (Sum_at HH.out HT.out).mono ?_
      rintro e w1 ⟨rfl, rfl⟩
      go_wp2_with fail
      refine (SumR_at HH.out).mono ?_
      rintro e w1 ⟨rfl, rfl⟩
      go_wp2_with fail
      refine (Equal_calls (Rd.nil _ _ (fun _ => True)) (Rd.nil _ _ (fun _ => True))).mono ?_
      rintro e w1 ⟨rfl, rfl⟩
      go_wp2_with fail
      refine (awake_calls HT.out).mono ?_
      rintro e w1 ⟨rfl, he⟩
      have HE := Lib.hid he
      clear he
      go_wp2_with fail
      go_ret
      exact ⟨rfl, HE.out⟩
    · go_enter Tryd.func5, Tryd.ntmps5
      go_wp2_with fail
      refine (Frame_fits HH.out HT.out (fun _ _ => trivial) (by omega)).mono ?_
      rintro e w1 ⟨v1, rfl, ho, he⟩
      obtain ⟨A1, N1, c1, rfl, hn1⟩ := (Own.abs8 ho)
      have O1 := Lib.hid ho.rd
      have E1 := Lib.hid he
      clear ho he hn1
      go_wp2_with fail
      refine (FrameR_fits (HH.out.ext0 E1.out) (fun _ _ => trivial) (by omega)).mono ?_
      rintro e w2 ⟨v2, rfl, ho, he⟩
      obtain ⟨A2, N2, c2, rfl, hn2⟩ := (Own.abs8 ho)
      have O2 := Lib.hid ho.rd
      have O1' := Lib.hid (O1.out.ext0 he)
      have E2 : Hid (Ext Non w w2) := E1.out.trans0 he
      clear ho he hn2
      go_wp2_with fail
      refine (Sum_at (HH.out.ext0 E2.out) (HT.out.ext E2.out)).mono ?_
      rintro e w3 ⟨rfl, rfl⟩
      go_wp2_with fail
      refine (SumR_at (HH.out.ext0 E2.out)).mono ?_
      rintro e w3 ⟨rfl, rfl⟩
      go_wp2_with fail
      refine (Equal_calls O1'.out O2.out).mono ?_
      rintro e w3 ⟨rfl, rfl⟩
      rw [beq_self_eq_true]
      go_wp2_with fail
      refine (awake_calls (HT.out.ext E2.out)).mono ?_
      rintro e w4 ⟨rfl, he⟩
      have E4 : Hid (Ext Non w w4) := E2.out.trans0 he
      clear he
      go_wp2_with fail
      go_ret
      exact ⟨rfl, E4.out⟩
end Go.Proofs.YtiapjdbeooonjaaDoor
