/- WireCut: the walk of the law. -/
import Derived.Test.YtiapjdbeooonjaaDoorF0
namespace Go.Proofs.YtiapjdbeooonjaaDoor
open Go.RowKit Go.TM

theorem modlen (k : Int) {n : Nat} (hn : 0 < n) : ∃ j : Nat, (IntKind.u64.wrap k).tmod (n : Int) = (j : Int) ∧ (j : Int) < (n : Int) := by
  have h0 : 0 ≤ IntKind.u64.wrap k := by rw [IntKind.wrap_u64]; omega
  refine ⟨((IntKind.u64.wrap k).tmod (n : Int)).toNat, ?_, ?_⟩
  · have := Int.tmod_nonneg (n : Int) h0
    omega
  · have h1 := Int.tmod_nonneg (n : Int) h0
    have h2 := Int.tmod_lt_of_pos (IntKind.u64.wrap k) (show (0 : Int) < (n : Int) by omega)
    omega
set_option maxHeartbeats 1000000 in
theorem cut_calls {w : World} {ok : Nat → Prop} {A : Option Addr} {c : Nat} {p : List UInt8} (H : Rd Kd.u8 w ok (.slice A p.length c) p) (HL : Laid w) (k : Int) :
    Calls Tryd.prog 4 #[.slice A p.length c, .int .i64 k] w fun e w' => e = .returned (.bool true) ∧ Ext Non w w' := by
  have HH := Lib.hid (Rd.any H)
  have HT := Lib.hid HL
  clear H HL
  by_cases h1 : 32768 < p.length
  · go_enter Tryd.func4, Tryd.ntmps4
    go_wp2_with fail
    refine (Frame_long h1).mono ?_
    rintro e w1 ⟨rfl, rfl⟩
    go_wp2_with fail
    refine (awake_calls HT.out).mono ?_
    rintro e w1 ⟨rfl, he⟩
    have HE := Lib.hid he
    clear he
    go_wp2_with fail
    go_ret
    exact ⟨rfl, HE.out⟩
  · go_enter Tryd.func4, Tryd.ntmps4
    go_wp2_with fail
    refine (Frame_fits HH.out HT.out (fun _ _ => trivial) (by omega)).mono ?_
    rintro e w1 ⟨v1, rfl, ho, he⟩
    obtain ⟨A1, N1, c1, rfl, hn1⟩ := (Own.abs8 ho)
    have hfl := frameB_length (p := p)
    have hnl := numB_le (m := p.length) (by omega)
    have hn5 : 5 ≤ N1 := by rw [hn1, hfl, numB_length]; omega
    have hnb : N1 ≤ 40000 := by omega
    have O1 := Lib.hid ho.rd
    have E1 := Lib.hid he
    have HN1 := Lib.hid hn1
    obtain ⟨g, off, rfl⟩ : ∃ g off, A1 = some ⟨g, off, none⟩ := by
      obtain ⟨A', c', he', _, _, hx⟩ := ho.rd
      simp only [Value.slice.injEq] at he'
      obtain ⟨rfl, _, rfl⟩ := he'
      obtain ⟨g', off', h3, _⟩ := hx (by omega)
      exact ⟨g', off', h3⟩
    have hc1 : N1 ≤ c1 := by
      obtain ⟨A', c', he', hcc, _, _⟩ := ho.rd
      simp only [Value.slice.injEq] at he'
      omega
    have hN1m : ¬ (N1 : Int) < 5 := by omega
    obtain ⟨j, hj, hjl⟩ := modlen k (n := N1) (by omega)
    have q2 := hj
    have q1 : wrap64 (j : Int) = (j : Int) := by unfold wrap64; omega
    have q3 : (0 : Int) ≤ (j : Int) := by omega
    have q4 : (j : Int) ≤ (N1 : Int) := by omega
    have q5 : (j : Int) ≤ (c1 : Int) := by omega
    clear ho he hn1 hj
    go_wp2_with fail
    refine (Next_calls (O1.out.take (k := j) (by have := HN1.out; omega)) (by rw [List.length_take]; have := HN1.out; omega) (HT.out.ext E1.out)).mono ?_
    rw [nextR_cut (by omega) (by have := HN1.out; omega)]
    rintro e w2 ⟨v2, rfl, ho, he⟩
    obtain ⟨A2, N2, c2, rfl, hn2⟩ := (Own.abs8 ho)
    rw [List.length_nil] at hn2
    subst hn2
    have E2 := Lib.hid (E1.out.trans0 he)
    clear ho he
    go_wp2_with fail
    refine (awake_calls (HT.out.ext E2.out)).mono ?_
    rintro e w4 ⟨rfl, he⟩
    have E4 : Hid (Ext Non w w4) := E2.out.trans0 he
    clear he
    go_wp2_with fail
    go_ret
    exact ⟨rfl, E4.out⟩
end Go.Proofs.YtiapjdbeooonjaaDoor
