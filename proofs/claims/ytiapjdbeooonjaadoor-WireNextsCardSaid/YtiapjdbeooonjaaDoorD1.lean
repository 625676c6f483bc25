/- The document's Sum. -/
import Derived.Test.YtiapjdbeooonjaaDoorD0
namespace Go.Proofs.YtiapjdbeooonjaaDoor
open Go.RowKit Go.TM

theorem halves_next (k c : Nat) : Crc.halves (k + 1) c = Crc.half (Crc.halves k c) := by
  rw [← Crc.halves_add k 1]
  rfl

set_option maxHeartbeats 1000000 in
theorem SumR_calls {w : World} {ok : Nat → Prop} {A : Option Addr} {c : Nat} {bs : List UInt8} (H : Rd Kd.u8 w ok (.slice A bs.length c) bs) :
    Calls Tryd.prog 19 #[.slice A bs.length c] w fun e w' => e = .returned (.int .u32 (Crc.sum bs : Int)) ∧ w' = w := by
  have HH := Lib.hid H
  have hmax : bs.length ≤ 9223372036854775807 := by
    obtain ⟨_, _, _, _, h⟩ := H.slice
    exact h
  clear H
  go_enter Tryd.func19, Tryd.ntmps19
  go_wp2_with fail
  go_loopw [3, 9] (fun v i wr => ∃ j : Nat, v = .int .u32 (Crc.run Crc.full (bs.take j) : Int) ∧ i = .int .i64 (j : Int) ∧ j ≤ bs.length ∧ wr = w) (fun _ i _ => bs.length - (intOf i).toNat)
  case atStart => exact ⟨0, rfl, rfl, by omega, rfl⟩
  case round =>
    obtain ⟨j, rfl, rfl, hj, rfl⟩ := hrel
    obtain ⟨w0, hw0⟩ : ∃ w0, w0 = wr := ⟨_, rfl⟩
    subst hw0
    have hc : Crc.run Crc.full (bs.take j) < 2 ^ 32 := Crc.run_lt _ (by decide)
    by_cases hlt : j < bs.length
    · obtain ⟨x, hx⟩ : ∃ x, bs[j]? = some x := ⟨_, List.getElem?_eq_getElem hlt⟩
      obtain ⟨g3, o3, rfl, hg3, hl3, hc3⟩ := HH.out.flat_at hx
      have d3 := hc3 0 _ rfl
      simp only [Nat.add_zero, Nat.mul_one] at d3
      have q0 : (j : Int) < (bs.length : Int) := by omega
      have q1 : (0 : Int) ≤ (j : Int) := by omega
      have HX := Lib.hid hx
      have ht : bs.take (j + 1) = bs.take j ++ [x] := by rw [List.take_add_one, HX.out]; rfl
      have hrun : Crc.run Crc.full (bs.take (j + 1)) = Crc.halves 8 (Crc.run Crc.full (bs.take j) ^^^ x.toNat) := by
        rw [ht]
        unfold Crc.run
        rw [List.foldl_append]
        rfl
      have HRUN := Lib.hid hrun
      generalize Crc.run Crc.full (bs.take j) = C at hc HRUN ⊢
      have hxl : x.toNat < 2 ^ 32 := Crc.u8_lt x
      have e1 : (x.toNat : Int) % 4294967296 = (x.toNat : Int) := by omega
      have e2 := bits_u32 C x.toNat hc hxl
      have hD : C ^^^ x.toNat < 2 ^ 32 := Nat.xor_lt_two_pow hc hxl
      have HR : Hid (Crc.run Crc.full (bs.take (j + 1)) = Crc.halves 8 (C ^^^ x.toNat)) := HRUN
      generalize C ^^^ x.toNat = D at e2 hD HR
      have HDD := Lib.hid hD
      clear hx hc3 hrun HRUN ht hxl hD hc
      go_wp2_with fail
      go_loopw [3, 17] (fun v i wq => ∃ k : Nat, v = .int .u32 (Crc.halves k D : Int) ∧ i = .int .i64 (k : Int) ∧ k ≤ 8 ∧ wq = w0) (fun _ i _ => 8 - (intOf i).toNat)
      case atStart => exact ⟨0, rfl, rfl, by omega, rfl⟩
      case round =>
        obtain ⟨k, rfl, rfl, hk, rfl⟩ := hrel
        by_cases hk8 : k < 8
        · have p0 : (k : Int) < 8 := by omega
          have p1 : (0 : Int) ≤ (k : Int) := by omega
          have hE := Crc.halves_lt k HDD.out
          have hn : Hid (Crc.halves (k + 1) D = Crc.half (Crc.halves k D)) := halves_next k D
          generalize Crc.halves k D = E at hE hn ⊢
          have hE2 : E / 2 < 2 ^ 32 := by omega
          have r1 : (E : Int) / 2 = ((E / 2 : Nat) : Int) := by omega
          by_cases hp : E % 2 = 1
          · have r2 : (E : Int) % 2 = 1 := by omega
            have hh : Crc.half E = E / 2 ^^^ 3370071343 := by unfold Crc.half; rw [if_pos hp]; rfl
            have r3 := bits_u32 (E / 2) 3370071343 hE2 (by decide)
            rw [← hh] at r3
            have HN : Hid (Crc.halves (k + 1) D = Crc.half E) := hn
            generalize Crc.half E = G at r3 HN
            generalize E / 2 = E2 at *
            have r4 : (E2 : Int) % 4294967296 = (E2 : Int) := by omega
            clear hh hE hE2 hp hn
            go_wp2_with fail
            refine ⟨⟨k + 1, ?_, by simp, by omega, trivial⟩, by simp [intOf]; omega⟩
            rw [HN.out]
            exact congrArg (Value.int IntKind.u32) r3
          · have r2 : (E : Int) % 2 = 0 := by omega
            have hh : Crc.half E = E / 2 := by unfold Crc.half; rw [if_neg hp, Nat.xor_zero]
            have HN : Hid (Crc.halves (k + 1) D = E / 2) := by rw [← hh]; exact hn
            generalize E / 2 = E2 at *
            have r4 : (E2 : Int) % 4294967296 = (E2 : Int) := by omega
            clear hh hE hE2 hp hn
            go_wp2_with fail
            refine ⟨⟨k + 1, ?_, by simp, by omega, trivial⟩, by simp [intOf]; omega⟩
            rw [HN.out]
        · obtain rfl : k = 8 := by omega
          go_wp2_with fail
          go_roundw
          case rel => exact ⟨j + 1, by rw [HR.out], by simp, by omega, trivial⟩
          case measure => simp [intOf]; omega
    · obtain rfl : j = bs.length := by omega
      have hs : (Crc.sum bs : Int) = 4294967295 - (Crc.run Crc.full bs : Int) := by
        rw [List.take_length] at hc
        unfold Crc.sum Crc.full at *
        omega
      have hr : 0 ≤ (Crc.run Crc.full bs : Int) := by omega
      rw [List.take_length] at hc ⊢
      have HS := Lib.hid hs
      clear hs
      go_wp2_with fail
      go_ret
      refine ⟨?_, rfl⟩
      rw [HS.out]
      rfl
end Go.Proofs.YtiapjdbeooonjaaDoor
