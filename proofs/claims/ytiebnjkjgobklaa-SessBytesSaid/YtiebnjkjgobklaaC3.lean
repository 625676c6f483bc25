/- The document's reader: number, on, Number, Within, Left. -/
import Derived.Test.YtiebnjkjgobklaaC1
import Derived.Test.YtiebnjkjgobklaaP2
import Derived.OwnWalk
namespace Go.Proofs.Ytiebnjkjgobklaa
open Go.RowKit Go.TM

def NumR (bs : List UInt8) : Value := .tuple #[.int .i64 ((numR bs).1 : Int), .int .i64 ((numR bs).2.1 : Int), .int .i64 (numR bs).2.2]

theorem wrap_small {x : Nat} (h : x < 256) : wrap64 (x : Int) = (x : Int) := by unfold wrap64; omega
theorem wrap_byte {V x : Nat} (h : x < 256) (h2 : 256 * V + x ≤ 9223372036854775807) : wrap64 (256 * (V : Int) + wrap64 (x : Int)) = 256 * (V : Int) + (x : Int) := by
  rw [wrap_small h]
  unfold wrap64
  omega
set_option maxHeartbeats 1000000 in
theorem numberR_read {w : World} {ok : Nat → Prop} {gs off : Nat} {n c : Nat} {b : UInt8} {t : List UInt8} (H : Rd Kd.u8 w ok (.slice (some ⟨gs, off, none⟩) n c) (b :: t)) (h8 : b.toNat ≤ 8) (hl : b.toNat ≤ t.length) :
    Calls Try.prog 52 #[.slice (some ⟨gs, off, none⟩) n c] w fun e w' => e = .returned (NumR (b :: t)) ∧ w = w' := by
  have hn : n = t.length + 1 := by
    obtain ⟨_, _, he, _, _⟩ := H.slice
    simp only [Value.slice.injEq] at he
    exact he.2.1
  have hm : n ≤ 9223372036854775807 := by
    obtain ⟨_, _, _, _, h⟩ := H.slice
    rw [hn]
    simpa using h
  obtain ⟨g0, o0, he0, _, _, hc0⟩ := H.flat_at (show (b :: t)[0]? = some b from rfl)
  simp only [Option.some.injEq, Addr.mk.injEq, and_true] at he0
  obtain ⟨rfl, rfl⟩ := he0
  have d0 := hc0 0 _ rfl
  simp only [Nat.add_zero, Nat.zero_mul] at d0
  have HH := Lib.hid H
  have q0 : ¬ (8 : Int) < (b.toNat : Int) := by omega
  have q1 : ¬ (n : Int) < (b.toNat : Int) + 1 := by omega
  have qn : (n : Int) ≠ 0 := by omega
  have qn' : ((n : Int) == 0) = false := by simpa using qn
  have qp : (0 : Int) < (n : Int) := by omega
  obtain ⟨l, hll⟩ : ∃ l, l = t.take b.toNat := ⟨_, rfl⟩
  have hlen : l.length = b.toNat := by rw [hll, List.length_take]; omega
  have hN : NumR (b :: t) = if 0 < b.toNat ∧ t.head? = some 0 then .tuple #[.int .i64 0, .int .i64 0, .int .i64 11] else if 9223372036854775807 < bval l then .tuple #[.int .i64 0, .int .i64 0, .int .i64 5] else .tuple #[.int .i64 (bval l : Int), .int .i64 ((b.toNat : Int) + 1), .int .i64 0] := by
    unfold NumR
    simp only [numR]
    rw [if_neg (by omega), if_neg (by omega), ← hll]
    by_cases h1 : 0 < b.toNat ∧ t.head? = some 0
    · rw [if_pos h1, if_pos h1]; rfl
    · rw [if_neg h1, if_neg h1]
      by_cases h2 : 9223372036854775807 < bval l
      · rw [if_pos h2, if_pos h2]; rfl
      · rw [if_neg h2, if_neg h2]; simp
  have HL := Lib.hid hll
  have HN := Lib.hid hN
  clear hc0 H hN hll
  have HNN := Lib.hid hn
  clear hn qn
  rcases Nat.eq_zero_or_pos b.toNat with hz | hz
  · have hl0 : l = [] := List.eq_nil_of_length_eq_zero (by omega)
    subst hl0
    have HN2 : Hid (NumR (b :: t) = .tuple #[.int .i64 0, .int .i64 1, .int .i64 0]) := by
      show _ = _
      rw [HN.out, if_neg (by omega), if_neg (by simp [bval]), hz]
      rfl
    have hb0 : (b.toNat : Int) = 0 := by omega
    rw [hb0] at d0 q0 q1
    clear HN hlen hz hb0 h8 hl
    go_enter Try.func52, Try.ntmps52
    go_wp2_with fail
    go_loopw [6, 7] (fun n i wr => n = .int .i64 0 ∧ i = .int .i64 1 ∧ wr = w) (fun _ _ _ => 0)
    case atStart => exact ⟨rfl, rfl, rfl⟩
    case round =>
      obtain ⟨rfl, rfl, rfl⟩ := hrel
      go_wp2_with fail
      go_ret3
      exact ⟨HN2.out.symm ▸ rfl, rfl⟩
  · obtain ⟨y, t', rfl⟩ : ∃ y t', t = y :: t' := by
      cases t with
      | nil => simp at hl; omega
      | cons y t' => exact ⟨y, t', rfl⟩
    obtain ⟨g1, o1, he1, _, _, hc1⟩ := HH.out.flat_at (show (b :: y :: t')[1]? = some y from rfl)
    simp only [Option.some.injEq, Addr.mk.injEq, and_true] at he1
    obtain ⟨rfl, rfl⟩ := he1
    have d1 := hc1 0 _ rfl
    simp only [Nat.add_zero, Nat.one_mul] at d1
    have q2 : (0 : Int) < (b.toNat : Int) := by omega
    have q3 : (1 : Int) < (n : Int) := by have := HNN.out; rw [List.length_cons] at this; omega
    have hlc : l = y :: t'.take (b.toNat - 1) := by
      rw [HL.out]
      obtain ⟨q, hq⟩ : ∃ q, b.toNat = q + 1 := ⟨b.toNat - 1, by omega⟩
      rw [hq, List.take_succ_cons]
      rfl
    have HLC := Lib.hid hlc
    clear hlc hc1 hl
    by_cases hy : y = 0
    · subst hy
      have HN2 : Hid (NumR (b :: 0 :: t') = .tuple #[.int .i64 0, .int .i64 0, .int .i64 11]) := by
        show _ = _
        rw [HN.out, if_pos ⟨hz, rfl⟩]
      clear HN
      go_enter Try.func52, Try.ntmps52
      go_wp2_with fail
      go_ret3
      exact ⟨HN2.out.symm ▸ rfl, rfl⟩
    · have hy0 : ((y.toNat : Int) == 0) = false := by
        have : y.toNat ≠ 0 := fun h => hy (UInt8.toNat_inj.1 h)
        simpa using this
      have hlt7 : (t'.take (b.toNat - 1)).length ≤ 7 := by rw [List.length_take]; omega
      have hbig := bval_big (x := y) hlt7
      rw [← HLC.out] at hbig
      have hl7 : (t'.take (b.toNat - 1)).length = b.toNat - 1 := by
        have := hlen
        rw [HLC.out, List.length_cons] at this
        omega
      rw [hl7] at hbig
      have HN2 : Hid (NumR (b :: y :: t') = if 9223372036854775807 < bval l then .tuple #[.int .i64 0, .int .i64 0, .int .i64 5] else .tuple #[.int .i64 (bval l : Int), .int .i64 ((b.toNat : Int) + 1), .int .i64 0]) := by
        show _ = _
        rw [HN.out, if_neg (by simp [hy])]
      have HBIG := Lib.hid hbig
      clear HN hy hbig hl7 hlt7
      by_cases hr : b.toNat = 8 ∧ 127 < y.toNat
      · have q4 : ((b.toNat : Int) == 8) = true := by simp; omega
        have q5 : (127 : Int) < (y.toNat : Int) := by omega
        have HN3 : Hid (NumR (b :: y :: t') = .tuple #[.int .i64 0, .int .i64 0, .int .i64 5]) := by
          show _ = _
          rw [HN2.out, if_pos (HBIG.out.2 ⟨by omega, hr.2⟩)]
        clear HN2 hr
        go_enter Try.func52, Try.ntmps52
        go_wp2_with fail
        go_ret3
        exact ⟨HN3.out.symm ▸ rfl, rfl⟩
      · have q4 : ((b.toNat : Int) == 8) = false ∨ (((b.toNat : Int) == 8) = true ∧ ¬ (127 : Int) < (y.toNat : Int)) := by
          by_cases h : b.toNat = 8
          · exact .inr ⟨by simp; omega, by have : ¬ 127 < y.toNat := fun h2 => hr ⟨h, h2⟩; omega⟩
          · exact .inl (by simp; omega)
        have hsm : bval l ≤ 9223372036854775807 := by
          have : ¬ 9223372036854775807 < bval l := fun h => hr ⟨by have := (HBIG.out.1 h).1; omega, (HBIG.out.1 h).2⟩
          omega
        have HN3 : Hid (NumR (b :: y :: t') = .tuple #[.int .i64 (bval l : Int), .int .i64 ((b.toNat : Int) + 1), .int .i64 0]) := by
          show _ = _
          rw [HN2.out, if_neg (by omega)]
        have HSM := Lib.hid hsm
        clear HN2 hr hsm HBIG
        rcases q4 with q4 | ⟨q4, q5⟩
        all_goals
          go_enter Try.func52, Try.ntmps52
          go_wp2_with fail
          clear q4
          go_loopw [6, 7] (fun v i wr => ∃ j : Nat, v = .int .i64 (bval (l.take j) : Int) ∧ i = .int .i64 ((j : Int) + 1) ∧ j ≤ l.length ∧ wr = w) (fun _ i _ => l.length + 1 - (intOf i).toNat)
          case atStart => exact ⟨0, rfl, rfl, by omega, rfl⟩
          case round =>
            obtain ⟨j, rfl, rfl, hj, rfl⟩ := hrel
            by_cases hlt : j < l.length
            · obtain ⟨x, hx⟩ : ∃ x, l[j]? = some x := ⟨_, List.getElem?_eq_getElem hlt⟩
              have hx2 : (b :: y :: t')[j + 1]? = some x := by
                rw [List.getElem?_cons_succ]
                rw [HL.out, List.getElem?_take_of_lt (by omega)] at hx
                exact hx
              obtain ⟨g3, o3, he3, _, _, hc3⟩ := HH.out.flat_at hx2
              simp only [Option.some.injEq, Addr.mk.injEq, and_true] at he3
              obtain ⟨rfl, rfl⟩ := he3
              have d3 := hc3 0 _ rfl
              simp only [Nat.add_zero, Nat.mul_one] at d3
              have ht : l.take (j + 1) = l.take j ++ [x] := by rw [List.take_add_one, hx]; rfl
              have hb1 := bval_take_le l (j + 1)
              rw [ht, bval_app] at hb1
              have hs := HSM.out
              have HTT := Lib.hid ht
              have hxl := x.toNat_lt
              obtain ⟨V, hV⟩ : ∃ V, V = bval (l.take j) := ⟨_, rfl⟩
              rw [← hV] at hb1 ⊢
              have HV := Lib.hid hV
              have hvx : 256 * V + x.toNat ≤ 9223372036854775807 := Nat.le_trans hb1 hs
              have P6 := Lib.hid (wrap_byte (V := V) hxl hvx)
              have p0 : wrap64 (256 * (V : Int)) = 256 * (V : Int) := by unfold wrap64; omega
              have p1 : wrap64 (256 * (V : Int) + (x.toNat : Int)) = 256 * (V : Int) + (x.toNat : Int) := by unfold wrap64; omega
              have p2 : (j : Int) + 1 ≤ (b.toNat : Int) := by omega
              have p3 : (0 : Int) ≤ (j : Int) + 1 := by omega
              have p4 : (j : Int) + 1 < (n : Int) := by omega
              clear hx hx2 hc3 ht hb1 hs hxl hV hvx
              go_wp2_with fail
              refine ⟨⟨j + 1, ?_, by simp, by omega, trivial⟩, by simp [intOf]; omega⟩
              rw [HTT.out, bval_app, ← HV.out]
              rw [P6.out, Int.natCast_add, Int.natCast_mul]
              rfl
            · obtain rfl : j = l.length := by omega
              have p2 : ¬ (l.length : Int) + 1 ≤ (b.toNat : Int) := by omega
              rw [List.take_length]
              go_wp2_with fail
              go_ret3
              exact ⟨HN3.out.symm ▸ rfl, rfl⟩

end Go.Proofs.Ytiebnjkjgobklaa
