/- The document's All. -/
import Derived.Test.YtiapjdbeooonjaaDoorH2
namespace Go.Proofs.YtiapjdbeooonjaaDoor
open Go.RowKit Go.TM

set_option maxHeartbeats 6000000 in
set_option maxRecDepth 20000 in
theorem AllR_calls {w : World} {ok : Nat → Prop} {gs off : Nat} {c : Nat} {bs : List UInt8} (H : Rd Kd.u8 w ok (.slice (some ⟨gs, off, none⟩) bs.length c) bs) (hbl : bs.length ≤ 65536) (h0 : 0 < bs.length) :
    Calls Tryd.prog 38 #[.slice (some ⟨gs, off, none⟩) bs.length c] w (AllPost bs w) := by
  have HH := Lib.hid (Rd.any H)
  have hcl : bs.length ≤ c := by
    obtain ⟨_, _, he, h, _⟩ := H.slice
    simp only [Value.slice.injEq] at he
    omega
  clear H
  go_enter Tryd.func38, Tryd.ntmps38
  go_wp2_with fail
  go_loopw [4, 5, 11] (fun v i x wr => ∃ (j a : Nat) (out : List (List UInt8)) (A1 : Option Addr) (n1 c1 : Nat), v = .slice A1 n1 c1 ∧ i = .int .i64 (a : Int) ∧ a ≤ bs.length ∧ 5 * j ≤ a ∧ Hid (out.length = j) ∧ Hid (iterA bs j = some (a, out)) ∧ Hid (Own Kd.bytes 22 wr w.heap.size (fun _ => True) (.slice A1 n1 c1) out) ∧ Hid (Ext Non w wr) ∧ x = .int .i64 (j : Int)) (fun _ i _ _ => bs.length - (intOf i).toNat)
  case atStart => exact ⟨0, 0, [], none, 0, 0, rfl, rfl, by omega, by omega, rfl, rfl, Own.nil _ _ _ _ _, Ext.refl _ _, rfl⟩
  case round =>
    obtain ⟨j, a, out, A1, n1, c1, rfl, rfl, ha, hj, HJ, HI, HO, HE, rfl⟩ := hrel
    have qj : (j : Int) < (bs.length : Int) := by omega
    have q0 : (0 : Int) ≤ (a : Int) := by omega
    have q1 : (a : Int) ≤ (bs.length : Int) := by omega
    have HD := (HH.out.ext0 HE.out).drop (k := a) ha
    rw [show a * Kd.u8.sz = a from Nat.mul_one a] at HD
    have HDD := Lib.hid HD
    clear HD
    rcases Classical.em (c = a) with hca | hca
    case inl =>
      have hz : bs.length = a := by omega
      have qjc : (j : Int) < (a : Int) := by omega
      have RD : Hid (Rd Kd.u8 wr (fun _ => True) (.slice (some ⟨gs, off, none⟩) 0 0) []) := by
        show Rd _ _ _ _ _
        have h := HDD.out
        rw [if_pos hca, hca, Nat.sub_self, hz, Nat.sub_self, List.drop_eq_nil_of_le (by omega)] at h
        exact h
      have HST : Hid (StopA bs (a, out)) := stopA_of HI.out (by rw [List.drop_eq_nil_of_le (by omega), nextR_nil]; simp)
      clear HDD q0 q1 hcl
      subst hca
      rw [hz] at *
      go_wp2_with fail
      refine (NextR_at RD.out (by simp)).mono ?_
      rw [nextR_nil]
      rintro e w2 ⟨v2, rfl, ho, he⟩
      obtain ⟨A2, N2, c2, rfl, hn2⟩ := (Own.abs8 ho)
      have HO2 := Lib.hid (HO.out.ext0 he)
      have E2 := Lib.hid (HE.out.trans0 he)
      clear ho he hn2
      simp only []
      go_wp2_with fail
      go_ret2
      exact ⟨_, c, out, rfl, HST.out, HO2.out.rd, E2.out⟩
    case inr =>
      have RD : Hid (Rd Kd.u8 wr (fun _ => True) (.slice (some ⟨gs, off + a, none⟩) (bs.length - a) (c - a)) (bs.drop a)) := by
        show Rd _ _ _ _ _
        have h := HDD.out
        rw [if_neg hca] at h
        exact h
      clear HDD
      go_wp2_with fail
      refine (NextR_at RD.out (by rw [List.length_drop]; omega)).mono ?_
      obtain ⟨⟨p, m, e0⟩, hr⟩ : ∃ r, nextR (bs.drop a) = r := ⟨_, rfl⟩
      rw [hr]
      rintro e w2 ⟨v2, rfl, ho, he⟩
      obtain ⟨A2, N2, c2, rfl, hn2⟩ := (Own.abs8 ho)
      have HR := Lib.hid hr
      have O2 := Lib.hid (Own.tight ho).rd
      have HO2 := Lib.hid (HO.out.ext0 he)
      have HB2 := Lib.hid HO.out.base_le
      have E2 := Lib.hid (HE.out.trans0 he)
      have z2 := he.size
      clear ho he hn2 hr
      simp only []
      rcases Classical.em (e0 = 0) with he0 | he0
      · subst he0
        have hnx := nextR_at (bs := bs.drop a) (by rw [HR.out])
        rw [HR.out, List.length_drop] at hnx
        simp only [] at hnx
        have hst := iterA_step HI.out (by rw [HR.out])
        rw [HR.out] at hst
        have HST := Lib.hid hst
        have hjl : out.length ≤ 65536 := by have := HJ.out; omega
        have qw : wrap64 ((a : Int) + (m : Int)) = (a : Int) + (m : Int) := by unfold wrap64; omega
        have HNX := Lib.hid hnx
        have HQ := Lib.hid qw
        clear hst hnx qw
        have hY : Hid (∀ k, (wr.heap.size ≤ k ∧ k < w2.heap.size) → some k ≠ (Value.slice A1 n1 c1).ownBlock) := by
          intro k hk e
          have := (HB2.out k e.symm).2
          omega
        go_wp2_with (at_builtin; refine app_one (w0 := w) (v := .slice A1 n1 c1) (vp := .slice A2 N2 c2) rfl _ _ rfl rfl rfl HO2.out E2.out O2.out hY.out hjl ?_; intro A3 n3 c3 w3 O3 E3)
        go_wp2_with fail
        have hnx := HNX.out
        refine ⟨⟨j + 1, a + m, out ++ [p], A3, n3, c3, rfl, ?_, by omega, by omega, ?_, HST.out, O3.out, E3.out, ?_⟩, ?_⟩
        · rw [HQ.out]
          rfl
        · show _ = _
          rw [List.length_append, HJ.out]
          rfl
        · simp
        · rw [HQ.out]
          show bs.length - ((a : Int) + (m : Int)).toNat < bs.length - ((a : Int)).toNat
          omega
      · have q4 : (e0 != 0) = true := by simpa using he0
        have HS := Lib.hid (stopA_of HI.out (by rw [HR.out]; exact he0))
        clear he0
        go_wp2_with fail
        go_ret2
        exact ⟨_, a, out, rfl, HS.out, HO2.out.rd, E2.out⟩
end Go.Proofs.YtiapjdbeooonjaaDoor
