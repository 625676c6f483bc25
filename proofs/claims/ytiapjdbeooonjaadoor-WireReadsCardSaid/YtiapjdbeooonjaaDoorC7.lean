/- The document's reader: Signed, End. -/
import Derived.Test.YtiapjdbeooonjaaDoorC5
import Derived.Test.YtiapjdbeooonjaaDoorC2
namespace Go.Proofs.YtiapjdbeooonjaaDoor
open Go.RowKit Go.TM
section
variable {w : World} {ok : Nat → Prop} {g : Nat} {bs : List UInt8} {a : Nat} {err : Int}

theorem RrEnd_calls (hR : RrAt w ok g bs a err) (ha : a ≤ bs.length) : Calls Tryd.prog 51 #[.pointer (some ⟨g, 0, none⟩)] w fun e w' => e = .returned (.int .i64 (rEnd bs a err)) ∧ Ext Non w w' := by
  obtain ⟨v, c0, c1, c2, y1, y2, hr⟩ := hR.cells
  have HR := Lib.hid hR
  clear hR hr
  by_cases he : err = 0
  · subst he
    go_enter Tryd.func51, Tryd.ntmps51
    go_wp2_with fail
    refine (RrLeft_calls HR.out ha).mono ?_
    rintro e w1 ⟨rfl, h1⟩
    have E1 := Lib.hid h1
    obtain ⟨v1, d0, d1, d2, z1, z2, hr⟩ := (HR.out.ext h1).cells
    clear h1 c0 c1 c2 y1 y2 hr
    by_cases hl : a < bs.length
    · have q : (0 : Int) < ((bs.length - a : Nat) : Int) := by omega
      have hW : rEnd bs a 0 = 3 := by simp [rEnd, hl]
      have HW := Lib.hid hW
      generalize bs.length - a = L at *
      clear hW
      go_wp2_with fail
      go_ret
      rw [HW.out]
      exact ⟨rfl, E1.out⟩
    · have q : bs.length - a = 0 := by omega
      rw [q]
      have hW : rEnd bs a 0 = 0 := by simp [rEnd, hl]
      have HW := Lib.hid hW
      clear hW q
      go_wp2_with fail
      go_ret
      rw [HW.out]
      exact ⟨rfl, E1.out⟩
  · have q : (err == 0) = false := by simpa using he
    have hW : rEnd bs a err = err := by simp [rEnd, he]
    have HW := Lib.hid hW
    clear hW he
    go_enter Tryd.func51, Tryd.ntmps51
    go_wp2_with fail
    go_ret
    rw [HW.out]
    exact ⟨rfl, Ext.refl _ _⟩

theorem add_byte {V x : Nat} (hV : V < 72057594037927936) (hx : x < 256) : IntKind.u64.wrap (IntKind.u64.wrap (256 * (V : Int)) + IntKind.u64.wrap (x : Int)) = ((256 * V + x : Nat) : Int) := by
  have e1 : IntKind.u64.wrap (256 * (V : Int)) = 256 * (V : Int) := by rw [IntKind.wrap_u64]; omega
  have e2 : IntKind.u64.wrap (x : Int) = (x : Int) := by rw [IntKind.wrap_u64]; omega
  rw [e1, e2, IntKind.wrap_u64]
  omega
set_option maxHeartbeats 2000000 in
theorem RrSigned_calls (hR : RrAt w ok g bs a err) (hg : ¬ ok g) (ha : a ≤ bs.length) : Calls Tryd.prog 47 #[.pointer (some ⟨g, 0, none⟩)] w (RrPost ok g bs w (.int .i64 (rSigned bs a err).1) (rSigned bs a err).2) := by
  obtain ⟨v, c0, c1, c2, y1, y2, hr⟩ := hR.cells
  obtain ⟨A, c, rfl, hc, hm⟩ := hr.slice
  have HR := Lib.hid hR
  have HRR := Lib.hid hr
  clear hR hr
  by_cases he : err = 0
  · subst he
    by_cases hl : bs.length < a + 8
    · have hW : rSigned bs a 0 = (0, a, 2) := by simp [rSigned, hl]
      rw [hW]
      have q0 : (bs.length : Int) - (a : Int) < 8 := by omega
      have q1 : (0 : Int) ≤ (a : Int) := by omega
      have q2 : (a : Int) ≤ (bs.length : Int) := by omega
      clear hW hl
      go_enter Tryd.func47, Tryd.ntmps47
      go_wp2_with fail
      go_region
      have E2 : Hid (Ext Non w w.drew) := (Ext.refl Non w).drew
      have R2 := Lib.hid (HR.out.ext E2.out)
      generalize w.drew = w2 at E2 R2 ⊢
      obtain ⟨v2, d0, d1, d2, z1, z2, hr2⟩ := R2.out.cells
      clear hr2 c0 c1 c2 y1 y2
      go_wp2_with fail
      go_ret
      have S := R2.out.set_err hg 2
      exact ⟨rfl, S.1, E2.out.of0.trans S.2 (fun _ _ e => e)⟩
    · obtain ⟨l, hll⟩ : ∃ l, l = (bs.drop a).take 8 := ⟨_, rfl⟩
      have hW : rSigned bs a 0 = (wrap64 (bval l : Int), a + 8, 0) := by rw [hll]; simp [rSigned, hl]
      rw [hW]
      have h8 : l.length = 8 := by rw [hll, List.length_take, List.length_drop]; omega
      have HL := Lib.hid hll
      have q0 : ¬ (bs.length : Int) - (a : Int) < 8 := by omega
      have q1 : (0 : Int) ≤ (a : Int) := by omega
      have q2 : (a : Int) ≤ (bs.length : Int) := by omega
      have hl8 : a + 8 ≤ bs.length := by omega
      clear hW hll hl
      go_enter Tryd.func47, Tryd.ntmps47
      go_wp2_with fail
      go_region
      have E2 : Hid (Ext Non w w.drew) := (Ext.refl Non w).drew
      have R2 := Lib.hid (HR.out.ext E2.out)
      have RR2 := Lib.hid (HRR.out.ext0 E2.out)
      have d0 : w.drew.cell? ⟨g, 0, none⟩ = some (.slice A bs.length c) := c0
      have d1 : w.drew.cell? ⟨g, 1, none⟩ = some (.int .i64 (a : Int)) := c1
      generalize w.drew = w2 at E2 R2 RR2 d0 d1 ⊢
      have D0 := Lib.hid d0
      have D1 := Lib.hid d1
      clear c0 c1 c2 y1 y2 q0 q1 q2 d0 d1
      go_wp2_with fail
      go_loopw [3, 24] (fun n i wr => ∃ j : Nat, n = .int .u64 (bval (l.take j) : Int) ∧ i = .int .i64 (j : Int) ∧ j ≤ l.length ∧ Hid (Ext Non w2 wr)) (fun _ i _ => l.length - (intOf i).toNat)
      case atStart => exact ⟨0, rfl, rfl, by omega, Ext.refl _ _⟩
      case round =>
        obtain ⟨j, rfl, rfl, hj, HE⟩ := hrel
        by_cases hlt : j < l.length
        · obtain ⟨x, hx⟩ : ∃ x, l[j]? = some x := ⟨_, List.getElem?_eq_getElem hlt⟩
          have hx2 : bs[a + j]? = some x := by
            rw [HL.out, List.getElem?_take_of_lt (by omega), List.getElem?_drop] at hx
            exact hx
          obtain ⟨g3, o3, rfl, hg3, hl3, hc3⟩ := (RR2.out.ext0 HE.out).flat_at hx2
          have d3 := hc3 0 _ rfl
          simp only [Nat.add_zero, Nat.mul_one] at d3
          have d0 := HE.out.cell D0.out (fun e => e)
          have d1 := HE.out.cell D1.out (fun e => e)
          have q0 : (j : Int) < 8 := by omega
          have q1 : (0 : Int) ≤ (a : Int) + (j : Int) := by omega
          have q2 : (a : Int) + (j : Int) < (bs.length : Int) := by omega
          have hpow : bval (l.take j) < 256 ^ 7 := by
            refine Nat.lt_of_lt_of_le (bval_lt _) (Nat.pow_le_pow_right (by omega) ?_)
            rw [List.length_take]
            omega
          have ht : l.take (j + 1) = l.take j ++ [x] := by rw [List.take_add_one, hx]; rfl
          have hbv := bval_app (l.take j) x
          rw [← ht] at hbv
          have HBV := Lib.hid hbv
          have hxl := x.toNat_lt
          obtain ⟨V, hV⟩ : ∃ V, V = bval (l.take j) := ⟨_, rfl⟩
          rw [← hV] at hpow HBV ⊢
          have h7 : (256 : Nat) ^ 7 = 72057594037927936 := by decide
          rw [h7] at hpow
          have HPOW := Lib.hid hpow
          have HXL := Lib.hid hxl
          clear hx hx2 hc3 ht hbv hV hpow h7 hxl
          go_wp2_with fail
          go_region
          go_wp2_with fail
          refine ⟨⟨j + 1, ?_, by simp, by omega, HE.out.drew⟩, by simp [intOf]; omega⟩
          rw [HBV.out, add_byte HPOW.out HXL.out]
        · obtain rfl : j = l.length := by omega
          have h8' : l.length = 8 := h8
          simp only [List.take_length]
          have q0 : ¬ (l.length : Int) < 8 := by omega
          have R3 := Lib.hid (R2.out.ext HE.out)
          obtain ⟨v3, d0, d1, d2, z1, z2, hr3⟩ := R3.out.cells
          clear hr3
          go_wp2_with fail
          go_ret
          have S := R3.out.set_at hg (a + 8)
          rw [Int.natCast_add] at S
          exact ⟨rfl, S.1, (E2.out.trans0 HE.out).of0.trans S.2 (fun _ _ e => e)⟩
  · have q : (err != 0) = true := by simpa using he
    have hW : rSigned bs a err = (0, a, err) := by simp [rSigned, he]
    rw [hW]
    clear hW he
    go_enter Tryd.func47, Tryd.ntmps47
    go_wp2_with fail
    go_ret
    exact ⟨rfl, HR.out, Ext.refl _ _⟩
end
end Go.Proofs.YtiapjdbeooonjaaDoor
