/- wire.Number. -/
import Derived.Test.YtiebnjkjgobklaaS9
import Derived.Test.YtiebnjkjgobklaaB2
namespace Go.Proofs.Ytiebnjkjgobklaa
open Go.RowKit Go.TM

theorem info5 : (Try.prog.info? 5).map (fun i => (i.zero, i.size, i.bytes)) = some (some (.int .u8 0), Kd.u8.sz, 1) := by kernel_rfl

theorem pow8 (j : Nat) : (2 : Int) ^ (8 * j) = ((256 ^ j : Nat) : Int) := by
  rw [show (256 : Nat) = 2 ^ 8 from rfl, ← Nat.pow_mul]
  simp
theorem shr_pos {m j : Nat} (h : 0 < (m : Int) / 2 ^ (8 * j)) : 256 ^ j ≤ m := by
  rw [pow8, ← Int.natCast_ediv] at h
  have h' : 0 < m / 256 ^ j := by
    generalize m / 256 ^ j = a at h
    omega
  exact Nat.le_of_not_lt (fun hlt => by rw [Nat.div_eq_of_lt hlt] at h'; omega)
theorem shr_zero {m j : Nat} (h : (m : Int) / 2 ^ (8 * j) ≤ 0) : m < 256 ^ j := by
  rw [pow8, ← Int.natCast_ediv] at h
  have h' : m / 256 ^ j = 0 := by
    generalize m / 256 ^ j = a at h
    omega
  have hp : 0 < 256 ^ j := Nat.pow_pos (by omega)
  rcases Nat.lt_or_ge m (256 ^ j) with h1 | h1
  · exact h1
  · have := Nat.div_pos h1 hp
    omega

/-- A number as bytes. -/
def numB (m : Nat) : List UInt8 := UInt8.ofNat (be m).length :: be m

def NumPost (ok : Nat → Prop) (bs : List UInt8) (w : World) (e : Ending) (w' : World) : Prop :=
  ∃ v', e = .returned v' ∧ Own Kd.u8 5 w' w.heap.size ok v' bs ∧ Ext Non w w'

set_option maxHeartbeats 2000000 in
theorem Number_nn {w : World} {ok : Nat → Prop} {A : Option Addr} {c : Nat} {bs : List UInt8} (H : Rd Kd.u8 w ok (.slice A bs.length c) bs) (m : Nat) (h1 : (m : Int) ≤ 9223372036854775807) (hbl : bs.length ≤ 1099511627776) (hf : ∀ k, w.heap.size ≤ k → ok k) :
    Calls Try.prog 49 #[.slice A bs.length c, .int .i64 (m : Int)] w (NumPost ok (bs ++ numB m) w) := by
  have HH := Lib.hid H
  have HF := Lib.hid hf
  obtain ⟨hc, hm⟩ : bs.length ≤ c ∧ bs.length ≤ 9223372036854775807 := by
    obtain ⟨A', c', he, h2, h3⟩ := H.slice
    simp only [Value.slice.injEq] at he
    obtain ⟨_, _, rfl⟩ := he
    exact ⟨h2, h3⟩
  clear H hf
  have hm0 : ¬ (m : Int) < 0 := by omega
  go_enter Try.func49, Try.ntmps49
  go_wp2_with fail
  go_loopw [5] (fun i wr => ∃ j : Nat, i = .int .i64 (j : Int) ∧ j ≤ 8 ∧ (j = 0 ∨ 256 ^ (j - 1) ≤ m) ∧ wr = w) (fun i _ => (8 - intOf i).toNat)
  case atStart => exact ⟨0, rfl, by omega, .inl rfl, rfl⟩
  case round =>
    obtain ⟨j, rfl, hj, hlow, rfl⟩ := hrel
    obtain ⟨w0, hw0⟩ : ∃ w0, w0 = wr := ⟨_, rfl⟩
    subst hw0
    have HLOW := Lib.hid hlow
    clear hlow
    have q1 : (0 : Int) ≤ (j : Int) := by omega
    have q2 : IntKind.i64.wrap (8 * (j : Int)) = 8 * (j : Int) := IntWalk.i64_in _ (by omega)
    by_cases hlt : j < 8 ∧ 0 < (m : Int) / 2 ^ (8 * j)
    · obtain ⟨hlt, hp⟩ := hlt
      have q : (j : Int) < 8 := by omega
      go_wp2_with fail
      go_roundw
      case rel => exact ⟨j + 1, by simp, by omega, .inr (shr_pos hp), trivial⟩
      case measure => simp [intOf]; omega
    · have hex : m < 256 ^ j := by
        by_cases h8 : j < 8
        · exact shr_zero (by
            have : ¬ 0 < (m : Int) / 2 ^ (8 * j) := fun h => hlt ⟨h8, h⟩
            omega)
        · have : j = 8 := by omega
          subst this
          have : (256 : Nat) ^ 8 = 18446744073709551616 := by decide
          omega
      have hbe := be_length j m hex HLOW.out
      have HBE := Lib.hid hbe
      clear hbe hex
      have q3 : decide ((j : Int) < 8) = false ∨ (decide ((j : Int) < 8) = true ∧ decide (0 < (m : Int) / 2 ^ (8 * j)) = false) := by
        by_cases h8 : j < 8
        · exact .inr ⟨by simp; omega, by simpa using fun h => hlt ⟨h8, h⟩⟩
        · exact .inl (by simp; omega)
      have q4 : wrap64 ((bs.length : Int) + (j : Int)) = (bs.length : Int) + (j : Int) := by unfold wrap64; omega
      have q5 : wrap64 ((bs.length : Int) + (j : Int) + 1) = (bs.length : Int) + (j : Int) + 1 := by unfold wrap64; omega
      have q6 : IntKind.u8.wrap (j : Int) = (j : Int) := IntWalk.u8_in _ (by omega)
      have q7 : ((UInt8.ofNat j).toNat : Int) = (j : Int) := by
        have : (UInt8.ofNat j).toNat = j % 256 := by simp
        rw [this]
        omega
      have Q7 := Lib.hid q7
      clear q7
      rcases q3 with q3 | ⟨q3, q3'⟩
      all_goals
        go_wp2_with (first
          | (refine wpList_make Kd.u8 (ok := ok) w0.heap.size rfl _ _ 52 5 _ 1 .i64 .i64 (bs.length + j + 1) rfl Try.underlying52 info5 rfl (by simp [Act.eval]) ?_ ?_ ?_ ?_ ?_
             · omega
             · omega
             · exact Nat.le_refl _
             · exact HF.out _ (Nat.le_refl _)
             intro w2 hown hext
             have O2 := Lib.hid hown
             have E2 := Lib.hid hext
             have z2 := hext.size
             clear hown hext)
          | (at_builtin
             refine wpList_app Kd.u8 (v := .slice (some ⟨w0.heap.size, 0, none⟩) 0 (bs.length + j + 1)) (vx := .slice A bs.length c) (ok := ok) (xs := ([] : List UInt8)) (ys := bs) w0.heap.size rfl _ _ 52 5 _ 1 rfl Try.underlying52 info5 rfl (by decide) rfl rfl O2.out ?_ ?_ ?_ ?_ ?_ ?_
             · refine (HH.out.bound.ext0 E2.out).mono (fun i hi => ⟨hi.1, fun e => ?_⟩)
               simp [Value.ownBlock] at e
               omega
             · exact fun i hi => HF.out i (by omega)
             · simp; omega
             · simp; omega
             · exact z2
             intro v3 w3 hown hext hblk
             obtain ⟨A3, c3, rfl, hc3, hm3⟩ := hown.slice
             have O3 : Hid (Own Kd.u8 5 w3 w0.heap.size ok (.slice A3 ([] ++ bs).length c3) bs) := hown
             have E3 : Hid (Ext Non w0 w3) := E2.out.trans hext (fun i hi e => by simp [Value.ownBlock] at e; omega)
             have z3 := E3.out.size
             have hA3 : Hid (∀ k, some k = (Value.slice A3 ([] ++ bs).length c3).ownBlock → w0.heap.size ≤ k ∧ k < w3.heap.size) := fun k hk => O3.out.base_le k hk.symm
             clear hown hext hblk hc3 hm3)
          | (at_builtin
             refine wpList_app Kd.u8 (v := .slice A3 ([] ++ bs).length c3) (vx := .slice (some ⟨w3.heap.size, 0, none⟩) 1 1) (ok := ok) (xs := bs) (ys := [UInt8.ofNat j]) w0.heap.size rfl _ _ 52 5 _ 1 rfl Try.underlying52 info5 rfl (by decide) (by simp [Act.eval]) rfl (O3.out.ext0 ((Ext.refl Non w3).alloc _)) ?_ ?_ ?_ ?_ ?_ ?_
             · refine Rd.lit_at (cs := [.int .u8 (j : Int)]) (e := 5) (fr := (0, 0)) (heap_alloc_new w3 _) ?_ ⟨HF.out _ (by omega), fun e => ?_⟩
               · show [Value.int .u8 (j : Int)] = [Value.int .u8 ((UInt8.ofNat j).toNat : Int)]
                 rw [Q7.out]
               · have := (hA3.out _ e).2
                 omega
             · exact fun i hi => HF.out i (by simp at hi; omega)
             · simp; omega
             · simp; omega
             · simp; omega
             intro v4 w4 hown hext hblk
             obtain ⟨A4, c4, rfl, hc4, hm4⟩ := hown.slice
             have O4 := Lib.hid hown
             have E4 : Hid (Ext Non w0 w4) := ((E3.out.alloc _).trans hext (fun i hi e => by have := (hA3.out _ e).1; omega))
             clear hown hext hblk hc4 hm4)
          | fail)
        clear q3 q4 q5 q6 q2
        go_loopw [6, 7] (fun v i wq => ∃ (d : Nat) (A5 : Option Addr) (N5 c5 : Nat) (iv : Int), d ≤ j ∧ iv = (j : Int) - 1 - (d : Int) ∧ i = .int .i64 iv ∧ v = .slice A5 N5 c5 ∧ Hid (N5 = (bs ++ UInt8.ofNat j :: (be m).take d).length) ∧ Hid (Own Kd.u8 5 wq w0.heap.size ok (.slice A5 N5 c5) (bs ++ UInt8.ofNat j :: (be m).take d)) ∧ Hid (Ext Non w0 wq)) (fun _ i _ => (intOf i + 1).toNat)
        case atStart => exact ⟨0, A4, bs.length + 1, c4, (j : Int) - 1, by omega, by simp, rfl, by simp, by simp [Hid], by simpa [Hid] using O4.out, E4.out⟩
        case round =>
          obtain ⟨d, A5, N5, c5, iv, hd, hiv, rfl, rfl, HN, O5, E5⟩ := hrel
          by_cases hdj : d < j
          · obtain ⟨i, rfl⟩ : ∃ i : Nat, iv = (i : Int) := ⟨j - 1 - d, by omega⟩
            have hi : i = j - 1 - d := by omega
            have q0 : (0 : Int) ≤ (i : Int) := by omega
            have q2 : IntKind.i64.wrap (8 * (i : Int)) = 8 * (i : Int) := IntWalk.i64_in _ (by omega)
            obtain ⟨b, hb, hb2⟩ : ∃ b : UInt8, (be m)[d]? = some b ∧ (m : Int) / 2 ^ (8 * i) % 256 = (b.toNat : Int) := by
              refine ⟨_, be_get j m d HBE.out hdj, ?_⟩
              rw [← hi, pow8, ← Int.natCast_ediv]
              have : (UInt8.ofNat (m / 256 ^ i % 256)).toNat = m / 256 ^ i % 256 := by simp
              rw [this]
              generalize m / 256 ^ i = a
              omega
            have HB := Lib.hid hb
            have z5 := E5.out.size
            have hA5 : Hid (∀ k, some k = (Value.slice A5 N5 c5).ownBlock → w0.heap.size ≤ k ∧ k < wr.heap.size) := fun k hk => O5.out.base_le k hk.symm
            have hlen : (bs ++ UInt8.ofNat j :: (be m).take d).length ≤ 1099511627790 := by
              rw [List.length_append, List.length_cons, List.length_take]
              omega
            have q3 : (i : Int) < 8 := by omega
            have q4 : i < 8 := by omega
            have HI := Lib.hid hi
            have HV := Lib.hid hiv
            clear hb hi hiv
            go_wp2_with (first
              | (at_builtin
                 refine wpList_app Kd.u8 (v := .slice A5 N5 c5) (vx := .slice (some ⟨wr.heap.size, 0, none⟩) 1 1) (ok := ok) (xs := bs ++ UInt8.ofNat j :: (be m).take d) (ys := [b]) w0.heap.size rfl _ _ 52 5 _ 1 rfl Try.underlying52 info5 rfl (by decide) (by simp [Act.eval]) rfl (O5.out.ext0 ((Ext.refl Non wr).alloc _)) ?_ ?_ ?_ ?_ ?_ ?_
                 · refine Rd.lit_at (cs := [.int .u8 (b.toNat : Int)]) (e := 5) (fr := (0, 0)) (heap_alloc_new wr _) rfl ⟨HF.out _ (by omega), fun e => ?_⟩
                   have := (hA5.out _ e).2
                   omega
                 · exact fun i hi => HF.out i (by simp at hi; omega)
                 · rw [List.length_singleton]; omega
                 · rw [List.length_singleton]; omega
                 · simp; omega
                 intro v6 w6 hown hext hblk
                 have ht : (bs ++ UInt8.ofNat j :: (be m).take d) ++ [b] = bs ++ UInt8.ofNat j :: (be m).take (d + 1) := by
                   rw [List.take_add_one, HB.out]
                   simp
                 rw [ht] at hown
                 obtain ⟨A6, c6, rfl, hc6, hm6⟩ := hown.slice
                 obtain ⟨N6, hN6⟩ : ∃ N6, (bs ++ UInt8.ofNat j :: (be m).take (d + 1)).length = N6 := ⟨_, rfl⟩
                 rw [hN6] at hown ⊢
                 have HN6 := Lib.hid hN6
                 have O6 := Lib.hid hown
                 have E6 : Hid (Ext Non w0 w6) := ((E5.out.alloc _).trans hext (fun i hi e => by have := (hA5.out _ e).1; omega))
                 clear hown hext hblk hc6 hm6 ht hN6)
              | fail)
            go_roundw
            case rel => exact ⟨d + 1, A6, N6, c6, (i : Int) - 1, by omega, by have := HV.out; omega, by simp, rfl, HN6.out.symm, O6.out, E6.out⟩
            case measure => simp [intOf]
          · obtain rfl : d = j := by omega
            have q0 : iv = -1 := by omega
            subst q0
            go_wp2_with fail
            go_ret
            have R := O5.out
            rw [List.take_of_length_le (by rw [HBE.out]; exact Nat.le_refl _)] at R
            have e : bs ++ numB m = bs ++ UInt8.ofNat d :: be m := by
              unfold numB
              rw [HBE.out]
            exact ⟨_, rfl, by rw [e]; exact R, E5.out⟩
end Go.Proofs.Ytiebnjkjgobklaa
