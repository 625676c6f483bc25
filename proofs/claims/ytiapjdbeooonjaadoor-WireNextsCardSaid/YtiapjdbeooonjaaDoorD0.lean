/- wire.Sum: the sum of bytes by its table. -/
import Derived.Test.YtiapjdbeooonjaaDoorProg
import Derived.Test.YtiapjdbeooonjaaDoorBase
import Derived.Test.YtiapjdbeooonjaaDoorP0
namespace Go.Proofs.YtiapjdbeooonjaaDoor
open Go.RowKit Go.TM

/-- The table is laid. -/
def Laid (w : World) : Prop := ∀ i, i < 16 → w.cell? ⟨0, i, none⟩ = some (.int .u32 (Crc.row i : Int))
theorem Laid.ext {w w' : World} (h : Laid w) (he : Ext Non w w') : Laid w' := fun i hi => he.cell (h i hi) (fun e => e)
theorem Laid.only {w w' : World} {q : Nat} (h : Laid w) (he : Ext (Only q) w w') (hq : 0 < q) : Laid w' := fun i hi => he.cell (h i hi) (fun e => by have e' : 0 = q := e; omega)

theorem bits_u32 (a b : Nat) (ha : a < 2 ^ 32) (hb : b < 2 ^ 32) : bits .xor .u32 (a : Int) (b : Int) = ((a ^^^ b : Nat) : Int) := by
  have hx : a ^^^ b < 2 ^ 32 := Nat.xor_lt_two_pow (by omega) (by omega)
  have h1 : (BitVec.ofInt 32 (a : Int)).toNat = a := by
    rw [BitVec.ofInt_natCast, BitVec.toNat_ofNat]; exact Nat.mod_eq_of_lt (by omega)
  have h2 : (BitVec.ofInt 32 (b : Int)).toNat = b := by
    rw [BitVec.ofInt_natCast, BitVec.toNat_ofNat]; exact Nat.mod_eq_of_lt (by omega)
  show IntKind.u32.wrap ((BitVec.ofInt 32 (a : Int) ^^^ BitVec.ofInt 32 (b : Int)).toNat : Int) = _
  rw [BitVec.toNat_xor, h1, h2, IntKind.wrap_u32]
  omega
theorem and15 (a : Nat) (ha : a < 2 ^ 32) : bits .and .u32 (a : Int) 15 = ((a % 16 : Nat) : Int) := by
  have := bits_mask .u32 32 (by decide) (fun n h0 h1 => by rw [IntKind.wrap_u32]; omega) 4 (by decide) (a : Int) (by omega) (by omega)
  simpa using this

theorem full_xor (a : Nat) (ha : a < 2 ^ 32) : bits .xor .u32 IntKind.u32.max (a : Int) = 4294967295 - (a : Int) := by
  have h2 : (BitVec.ofInt 32 (a : Int)).toNat = a := by
    rw [BitVec.ofInt_natCast, BitVec.toNat_ofNat]; exact Nat.mod_eq_of_lt (by omega)
  show IntKind.u32.wrap ((BitVec.ofInt 32 IntKind.u32.max ^^^ BitVec.ofInt 32 (a : Int)).toNat : Int) = _
  rw [show BitVec.ofInt 32 IntKind.u32.max = BitVec.allOnes 32 from by decide, BitVec.allOnes_xor, BitVec.toNat_not, h2, IntKind.wrap_u32]
  omega
theorem quads {w : World} {D : Nat} (HT : Laid w) (hD : D < 2 ^ 32) : bits .and .u32 (D : Int) 15 = ((D % 16 : Nat) : Int) ∧ ((D % 16 : Nat) : Int) < 16 ∧ w.cell? ⟨0, D % 16, none⟩ = some (.int .u32 (Crc.row (D % 16) : Int)) ∧ (D : Int) / 16 = ((D / 16 : Nat) : Int) ∧
    bits .xor .u32 ((D / 16 : Nat) : Int) (Crc.row (D % 16) : Int) = ((Crc.quad D : Nat) : Int) ∧ Crc.quad D < 2 ^ 32 := by
  have hr : ∀ i, i < 16 → Crc.row i < 2 ^ 32 := by decide
  have hm : D % 16 < 16 := Nat.mod_lt _ (by omega)
  refine ⟨and15 D hD, by omega, HT _ hm, by omega, bits_u32 _ _ (by omega) (hr _ hm), ?_⟩
  unfold Crc.quad
  exact Nat.xor_lt_two_pow (by omega) (hr _ hm)

set_option maxHeartbeats 1000000 in
theorem Sum_calls {w : World} {ok : Nat → Prop} {A : Option Addr} {c : Nat} {bs : List UInt8} (H : Rd Kd.u8 w ok (.slice A bs.length c) bs) (HL : Laid w) :
    Calls Tryd.prog 18 #[.slice A bs.length c] w fun e w' => e = .returned (.int .u32 (Crc.sum bs : Int)) ∧ w' = w := by
  have HH := Lib.hid H
  have HT := Lib.hid HL
  have hmax : bs.length ≤ 9223372036854775807 := by
    obtain ⟨_, _, _, _, h⟩ := H.slice
    exact h
  clear H HL
  go_enter Tryd.func18, Tryd.ntmps18
  go_wp2_with fail
  go_loopw [3, 8] (fun v i wr => ∃ j : Nat, v = .int .u32 (Crc.run Crc.full (bs.take j) : Int) ∧ i = .int .i64 (j : Int) ∧ j ≤ bs.length ∧ wr = w) (fun _ i _ => bs.length - (intOf i).toNat)
  case atStart => exact ⟨0, rfl, rfl, by omega, rfl⟩
  case round =>
    obtain ⟨j, rfl, rfl, hj, rfl⟩ := hrel
    have hc : Crc.run Crc.full (bs.take j) < 2 ^ 32 := Crc.run_lt _ (by decide)
    by_cases hlt : j < bs.length
    · obtain ⟨x, hx⟩ : ∃ x, bs[j]? = some x := ⟨_, List.getElem?_eq_getElem hlt⟩
      obtain ⟨g3, o3, rfl, hg3, hl3, hc3⟩ := HH.out.flat_at hx
      have d3 := hc3 0 _ rfl
      simp only [Nat.add_zero, Nat.mul_one] at d3
      have q0 : (j : Int) < (bs.length : Int) := by omega
      have q1 : (0 : Int) ≤ (j : Int) := by omega
      have HX := Lib.hid hx
      have ht : bs.take (j + 1) = bs.take j ++ [x] := by rw [List.take_add_one, HX.out]; rfl
      have hrun : Crc.run Crc.full (bs.take (j + 1)) = Crc.quad (Crc.quad (Crc.run Crc.full (bs.take j) ^^^ x.toNat)) := by
        rw [ht, Crc.quad_quad]
        unfold Crc.run
        rw [List.foldl_append]
        rfl
      have HRUN := Lib.hid hrun
      generalize Crc.run Crc.full (bs.take j) = C at hc HRUN ⊢
      have hxl : x.toNat < 2 ^ 32 := Crc.u8_lt x
      have e1 : (x.toNat : Int) % 4294967296 = (x.toNat : Int) := by omega
      have e2 := bits_u32 C x.toNat hc hxl
      have hD : C ^^^ x.toNat < 2 ^ 32 := Nat.xor_lt_two_pow hc hxl
      generalize C ^^^ x.toNat = D at e2 hD HRUN
      obtain ⟨e3, e4, e5, e6, e7, hE⟩ := quads HT.out hD
      obtain ⟨f3, f4, f5, f6, f7, hF⟩ := quads HT.out hE
      have HF : Hid (Crc.run Crc.full (bs.take (j + 1)) = Crc.quad (Crc.quad D)) := HRUN
      generalize Crc.quad (Crc.quad D) = F at f7 hF HF
      generalize Crc.quad D = E at *
      generalize D % 16 = m1 at *
      generalize E % 16 = m2 at *
      generalize Crc.row m1 = r1 at *
      generalize Crc.row m2 = r2 at *
      generalize D / 16 = D1 at *
      generalize E / 16 = E1 at *
      have p1 : (0 : Int) ≤ (m1 : Int) := by omega
      have p2 : (0 : Int) ≤ (m2 : Int) := by omega
      clear hx hc3 hrun HRUN ht hxl hD hE hF hc
      go_wp2_with fail
      go_roundw
      case rel => exact ⟨j + 1, by rw [HF.out], by simp, by omega, trivial⟩
      case measure => simp [intOf]; omega
    · obtain rfl : j = bs.length := by omega
      rw [List.take_length]
      have hs : (Crc.sum bs : Int) = 4294967295 - (Crc.run Crc.full bs : Int) := by
        rw [List.take_length] at hc
        unfold Crc.sum Crc.full at *
        omega
      have HS := Lib.hid hs
      clear hs
      go_wp2_with fail
      go_ret
      refine ⟨?_, rfl⟩
      rw [HS.out, ← full_xor _ (Crc.run_lt bs (by decide))]
      rfl
end Go.Proofs.YtiapjdbeooonjaaDoor
