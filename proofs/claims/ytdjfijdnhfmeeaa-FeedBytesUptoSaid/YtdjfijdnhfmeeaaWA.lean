/- Bytes that a law is handed. A slice that is made with a length of none and some room. No program in sight. Numbers as bytes, the greatest byte first: plain words. wire.Number. wire.Number of a number below 0. wire.Numbers. Numbers as bytes, read back: plain words. wire.Reader: its small functions. wire.Reader: Number. -/
import Derived.Test.YtdjfijdnhfmeeaaMA
import Derived.Test.YtdjfijdnhfmeeaaSA
import Derived.Test.YtdjfijdnhfmeeaaHB
import Derived.Laws.MakeOwn
import Derived.Laws.Bits64b
namespace Go.Proofs.Ytdjfijdnhfmeeaa
open Go.RowKit Go.TM Go.ChangeShapes Go.WideShapes Go.ChangeAt Go.Deep

section
variable {H : Type} {enc : TypeId × Value → H} {w : World} {base b0 : Nat} {spare : Nat → Bool} {held : Bool} {r : Reach}
end
end Go.Proofs.Ytdjfijdnhfmeeaa

namespace Go.TM
open Go.RowKit

set_option maxRecDepth 100000 in
theorem run_make_rd {α : Type} {P : Program} (d : Kd α) {w : World} {ok : Nat → Prop} (base : Nat) (t e : TypeId) (z : Value) (bytes : Nat) (kl kc : IntKind) (c : Nat)
    (ht : P.underlying t = some (.slice e)) (hinfo : (P.info? e).map (fun i => (i.zero, i.size, i.bytes)) = some (some z, d.sz, bytes)) (hl : bytes * c ≤ 281474976710656) (hb : c ≤ 9223372036854775807) (hbase : base ≤ w.heap.size) (hok : ok w.heap.size) :
    ∃ w', (Instr.makeSlice t (.int kl 0) (.int kc (c : Int))).run P w = .ok (.slice (some ⟨w.heap.size, 0, none⟩) 0 c) w' ∧ Own d e w' base ok (.slice (some ⟨w.heap.size, 0, none⟩) 0 c) [] ∧ Ext Non w w' := by
  obtain ⟨i0, hi, hzz⟩ := Option.map_eq_some_iff.1 hinfo
  simp only [Prod.mk.injEq] at hzz
  obtain ⟨hz0, hz1, hz2⟩ := hzz
  obtain ⟨w', hr, ho, hg⟩ := run_make_own (P := P) w base t e i0 z d.sz ht hi hz0 hz1 kl kc c (by rw [hz2]; exact hl) (by simpa [maxLen] using hb) hbase
  refine ⟨w', hr, ⟨fun k hk => ?_, [], ho, Reps.nil _ _ _⟩, hg.os, hg.tape, hg.output, hg.size, fun k hk _ => hg.block k hk (fun h => by cases h)⟩
  simp [Value.ownBlock] at hk
  subst hk
  exact hok

set_option maxRecDepth 100000 in
theorem wpList_make {α : Type} {P : Program} (d : Kd α) {w : World} {ops : Array Oper} {rest : List Oper} {o : Oper} {a : Act} {Q : Exit → Act → World → Prop} {ok : Nat → Prop} (base : Nat)
    (hgd : o.guard = none) (x y : Operand) (t e : TypeId) (z : Value) (bytes : Nat) (kl kc : IntKind) (c : Nat) (ho : o.op = .makeSlice t x y)
    (ht : P.underlying t = some (.slice e)) (hinfo : (P.info? e).map (fun i => (i.zero, i.size, i.bytes)) = some (some z, d.sz, bytes)) (hx : a.eval x = .int kl 0) (hy : a.eval y = .int kc (c : Int))
    (hl : bytes * c ≤ 281474976710656) (hb : c ≤ 9223372036854775807) (hbase : base ≤ w.heap.size) (hok : ok w.heap.size)
    (h : ∀ w', Own d e w' base ok (.slice (some ⟨w.heap.size, 0, none⟩) 0 c) [] → Ext Non w w' → wpList P ops Q rest (a.put o.dst (.slice (some ⟨w.heap.size, 0, none⟩) 0 c)) w') : wpList P ops Q (o :: rest) a w := by
  obtain ⟨w', hr, h1, h2⟩ := run_make_rd (P := P) d base t e z bytes kl kc c ht hinfo hl hb hbase hok
  refine wpList_plain hgd fun K hK => ?_
  unfold Oper.wp execOp
  simp only [ho, hx, hy, Sem.run_bind, Result.andThen_ok, hr, Sem.run_pure]
  exact hK _ _ (h w' h1 h2)
end Go.TM

namespace Go.TM

/-- A number's bytes, the greatest first, none for 0. -/
def be (m : Nat) : List UInt8 := if m = 0 then [] else be (m / 256) ++ [UInt8.ofNat (m % 256)]
decreasing_by omega

set_option maxRecDepth 100000 in
theorem be_zero : be 0 = [] := by unfold be; rfl
set_option maxRecDepth 100000 in
theorem be_pos {m : Nat} (h : 0 < m) : be m = be (m / 256) ++ [UInt8.ofNat (m % 256)] := by
  conv => lhs; unfold be
  rw [if_neg (by omega)]

set_option maxRecDepth 100000 in
theorem be_length : ∀ (k m : Nat), m < 256 ^ k → (k = 0 ∨ 256 ^ (k - 1) ≤ m) → (be m).length = k
  | 0, m, h, _ => by
    have : m = 0 := by simpa using h
    subst this
    rw [be_zero]
    rfl
  | k + 1, m, h, h2 => by
    have hm : 256 ^ k ≤ m := by
      rcases h2 with h2 | h2
      · omega
      · simpa using h2
    have hpos : 0 < 256 ^ k := Nat.pow_pos (by omega)
    rw [be_pos (by omega), List.length_append, be_length k (m / 256) (by rw [Nat.div_lt_iff_lt_mul (by omega)]; rwa [Nat.pow_succ] at h) ?_]
    · rfl
    · rcases k with _ | k
      · exact .inl rfl
      · right
        show 256 ^ k ≤ m / 256
        rw [Nat.le_div_iff_mul_le (by omega), ← Nat.pow_succ]
        exact hm

set_option maxRecDepth 100000 in
theorem be_get : ∀ (k m j : Nat), (be m).length = k → j < k → (be m)[j]? = some (UInt8.ofNat (m / 256 ^ (k - 1 - j) % 256))
  | 0, m, j, _, h => by omega
  | k + 1, m, j, hl, hj => by
    have hm : 0 < m := by
      rcases Nat.eq_zero_or_pos m with h | h
      · subst h
        rw [be_zero] at hl
        cases hl
      · exact h
    rw [be_pos hm] at hl ⊢
    rw [List.length_append, List.length_singleton] at hl
    have hl' : (be (m / 256)).length = k := by omega
    rcases Nat.lt_or_ge j k with h | h
    · rw [List.getElem?_append_left (by omega), be_get k (m / 256) j hl' h, Nat.div_div_eq_div_mul, show k + 1 - 1 - j = (k - 1 - j) + 1 from by omega, Nat.pow_succ, Nat.mul_comm 256]
    · have : j = k := by omega
      subst this
      rw [List.getElem?_append_right (by omega), hl']
      simp
end Go.TM

namespace Go.Proofs.Ytdjfijdnhfmeeaa
open Go.RowKit Go.TM

set_option maxRecDepth 100000 in
theorem info5 : (Try.prog.info? 5).map (fun i => (i.zero, i.size, i.bytes)) = some (some (.int .u8 0), Kd.u8.sz, 1) := by kernel_rfl

set_option maxRecDepth 100000 in
theorem pow8 (j : Nat) : (2 : Int) ^ (8 * j) = ((256 ^ j : Nat) : Int) := by
  rw [show (256 : Nat) = 2 ^ 8 from rfl, ← Nat.pow_mul]
  simp
set_option maxRecDepth 100000 in
theorem shr_pos {m j : Nat} (h : 0 < (m : Int) / 2 ^ (8 * j)) : 256 ^ j ≤ m := by
  rw [pow8, ← Int.natCast_ediv] at h
  have h' : 0 < m / 256 ^ j := by
    generalize m / 256 ^ j = a at h
    omega
  exact Nat.le_of_not_lt (fun hlt => by rw [Nat.div_eq_of_lt hlt] at h'; omega)
set_option maxRecDepth 100000 in
theorem shr_zero {m j : Nat} (h : (m : Int) / 2 ^ (8 * j) ≤ 0) : m < 256 ^ j := by
  rw [pow8, ← Int.natCast_ediv] at h
  have h' : m / 256 ^ j = 0 := by
    generalize m / 256 ^ j = a at h
    omega
  have hp : 0 < 256 ^ j := Nat.pow_pos (by omega)
  rcases Nat.lt_or_ge m (256 ^ j) with h1 | h1
  · exact h1
  · have := Nat.div_pos h1 hp
    omega

/-- A number as bytes. -/
def numB (m : Nat) : List UInt8 := UInt8.ofNat (be m).length :: be m

def NumPost (ok : Nat → Prop) (bs : List UInt8) (w : World) (e : Ending) (w' : World) : Prop :=
  ∃ v', e = .returned v' ∧ Own Kd.u8 5 w' w.heap.size ok v' bs ∧ Ext Non w w'

set_option maxHeartbeats 2000000 in
set_option maxRecDepth 100000 in
theorem Number_nn {w : World} {ok : Nat → Prop} {A : Option Addr} {c : Nat} {bs : List UInt8} (H : Rd Kd.u8 w ok (.slice A bs.length c) bs) (m : Nat) (h1 : (m : Int) ≤ 9223372036854775807) (hbl : bs.length ≤ 1099511627776) (hf : ∀ k, w.heap.size ≤ k → ok k) :
    Calls Try.prog 65 #[.slice A bs.length c, .int .i64 (m : Int)] w (NumPost ok (bs ++ numB m) w) := by
  have HH := Lib.hid H
  have HF := Lib.hid hf
  obtain ⟨hc, hm⟩ : bs.length ≤ c ∧ bs.length ≤ 9223372036854775807 := by
    obtain ⟨A', c', he, h2, h3⟩ := H.slice
    simp only [Value.slice.injEq] at he
    obtain ⟨_, _, rfl⟩ := he
    exact ⟨h2, h3⟩
  clear H hf
  have hm0 : ¬ (m : Int) < 0 := by omega
  go_enter Try.func65, Try.ntmps65
  go_wp2_with fail
  go_loopw [5] (fun i wr => ∃ j : Nat, i = .int .i64 (j : Int) ∧ j ≤ 8 ∧ (j = 0 ∨ 256 ^ (j - 1) ≤ m) ∧ wr = w) (fun i _ => (8 - intOf i).toNat)
  case atStart => exact ⟨0, rfl, by omega, .inl rfl, rfl⟩
  case round =>
    obtain ⟨j, rfl, hj, hlow, rfl⟩ := hrel
    obtain ⟨w0, hw0⟩ : ∃ w0, w0 = wr := ⟨_, rfl⟩
    subst hw0
    have HLOW := Lib.hid hlow
    clear hlow
    have q1 : (0 : Int) ≤ (j : Int) := by omega
    have q2 : IntKind.i64.wrap (8 * (j : Int)) = 8 * (j : Int) := IntWalk.i64_in _ (by omega)
    by_cases hlt : j < 8 ∧ 0 < (m : Int) / 2 ^ (8 * j)
    · obtain ⟨hlt, hp⟩ := hlt
      have q : (j : Int) < 8 := by omega
      go_wp2_with fail
      go_roundw
      case rel => exact ⟨j + 1, by simp, by omega, .inr (shr_pos hp), trivial⟩
      case measure => simp [intOf]; omega
    · have hex : m < 256 ^ j := by
        by_cases h8 : j < 8
        · exact shr_zero (by
            have : ¬ 0 < (m : Int) / 2 ^ (8 * j) := fun h => hlt ⟨h8, h⟩
            omega)
        · have : j = 8 := by omega
          subst this
          have : (256 : Nat) ^ 8 = 18446744073709551616 := by decide
          omega
      have hbe := be_length j m hex HLOW.out
      have HBE := Lib.hid hbe
      clear hbe hex
      have q3 : decide ((j : Int) < 8) = false ∨ (decide ((j : Int) < 8) = true ∧ decide (0 < (m : Int) / 2 ^ (8 * j)) = false) := by
        by_cases h8 : j < 8
        · exact .inr ⟨by simp; omega, by simpa using fun h => hlt ⟨h8, h⟩⟩
        · exact .inl (by simp; omega)
      have q4 : wrap64 ((bs.length : Int) + (j : Int)) = (bs.length : Int) + (j : Int) := by unfold wrap64; omega
      have q5 : wrap64 ((bs.length : Int) + (j : Int) + 1) = (bs.length : Int) + (j : Int) + 1 := by unfold wrap64; omega
      have q6 : IntKind.u8.wrap (j : Int) = (j : Int) := IntWalk.u8_in _ (by omega)
      have q7 : ((UInt8.ofNat j).toNat : Int) = (j : Int) := by
        have : (UInt8.ofNat j).toNat = j % 256 := by simp
        rw [this]
        omega
      have Q7 := Lib.hid q7
      clear q7
      rcases q3 with q3 | ⟨q3, q3'⟩
      all_goals
        go_wp2_with (first
          | (refine wpList_make Kd.u8 (ok := ok) w0.heap.size rfl _ _ 70 5 _ 1 .i64 .i64 (bs.length + j + 1) rfl Try.underlying70 info5 rfl (by simp [Act.eval]) ?_ ?_ ?_ ?_ ?_
             · omega
             · omega
             · exact Nat.le_refl _
             · exact HF.out _ (Nat.le_refl _)
             intro w2 hown hext
             have O2 := Lib.hid hown
             have E2 := Lib.hid hext
             have z2 := hext.size
             clear hown hext)
          | (at_builtin
             refine wpList_app Kd.u8 (v := .slice (some ⟨w0.heap.size, 0, none⟩) 0 (bs.length + j + 1)) (vx := .slice A bs.length c) (ok := ok) (xs := ([] : List UInt8)) (ys := bs) w0.heap.size rfl _ _ 70 5 _ 1 rfl Try.underlying70 info5 rfl (by decide) rfl rfl O2.out ?_ ?_ ?_ ?_ ?_ ?_
             · refine (HH.out.bound.ext0 E2.out).mono (fun i hi => ⟨hi.1, fun e => ?_⟩)
               simp [Value.ownBlock] at e
               omega
             · exact fun i hi => HF.out i (by omega)
             · simp; omega
             · simp; omega
             · exact z2
             intro v3 w3 hown hext hblk
             obtain ⟨A3, c3, rfl, hc3, hm3⟩ := hown.slice
             have O3 : Hid (Own Kd.u8 5 w3 w0.heap.size ok (.slice A3 ([] ++ bs).length c3) bs) := hown
             have E3 : Hid (Ext Non w0 w3) := E2.out.trans hext (fun i hi e => by simp [Value.ownBlock] at e; omega)
             have z3 := E3.out.size
             have hA3 : Hid (∀ k, some k = (Value.slice A3 ([] ++ bs).length c3).ownBlock → w0.heap.size ≤ k ∧ k < w3.heap.size) := fun k hk => O3.out.base_le k hk.symm
             clear hown hext hblk hc3 hm3)
          | (at_builtin
             refine wpList_app Kd.u8 (v := .slice A3 ([] ++ bs).length c3) (vx := .slice (some ⟨w3.heap.size, 0, none⟩) 1 1) (ok := ok) (xs := bs) (ys := [UInt8.ofNat j]) w0.heap.size rfl _ _ 70 5 _ 1 rfl Try.underlying70 info5 rfl (by decide) (by simp [Act.eval]) rfl (O3.out.ext0 ((Ext.refl Non w3).alloc _)) ?_ ?_ ?_ ?_ ?_ ?_
             · refine Rd.lit_at (cs := [.int .u8 (j : Int)]) (e := 5) (fr := (0, 0)) (heap_alloc_new w3 _) ?_ ⟨HF.out _ (by omega), fun e => ?_⟩
               · show [Value.int .u8 (j : Int)] = [Value.int .u8 ((UInt8.ofNat j).toNat : Int)]
                 rw [Q7.out]
               · have := (hA3.out _ e).2
                 omega
             · exact fun i hi => HF.out i (by simp at hi; omega)
             · simp; omega
             · simp; omega
             · simp; omega
             intro v4 w4 hown hext hblk
             obtain ⟨A4, c4, rfl, hc4, hm4⟩ := hown.slice
             have O4 := Lib.hid hown
             have E4 : Hid (Ext Non w0 w4) := ((E3.out.alloc _).trans hext (fun i hi e => by have := (hA3.out _ e).1; omega))
             clear hown hext hblk hc4 hm4)
          | fail)
        clear q3 q4 q5 q6 q2
        go_loopw [6, 7] (fun v i wq => ∃ (d : Nat) (A5 : Option Addr) (N5 c5 : Nat) (iv : Int), d ≤ j ∧ iv = (j : Int) - 1 - (d : Int) ∧ i = .int .i64 iv ∧ v = .slice A5 N5 c5 ∧ Hid (N5 = (bs ++ UInt8.ofNat j :: (be m).take d).length) ∧ Hid (Own Kd.u8 5 wq w0.heap.size ok (.slice A5 N5 c5) (bs ++ UInt8.ofNat j :: (be m).take d)) ∧ Hid (Ext Non w0 wq)) (fun _ i _ => (intOf i + 1).toNat)
        case atStart => exact ⟨0, A4, bs.length + 1, c4, (j : Int) - 1, by omega, by simp, rfl, by simp, by simp [Hid], by simpa [Hid] using O4.out, E4.out⟩
        case round =>
          obtain ⟨d, A5, N5, c5, iv, hd, hiv, rfl, rfl, HN, O5, E5⟩ := hrel
          by_cases hdj : d < j
          · obtain ⟨i, rfl⟩ : ∃ i : Nat, iv = (i : Int) := ⟨j - 1 - d, by omega⟩
            have hi : i = j - 1 - d := by omega
            have q0 : (0 : Int) ≤ (i : Int) := by omega
            have q2 : IntKind.i64.wrap (8 * (i : Int)) = 8 * (i : Int) := IntWalk.i64_in _ (by omega)
            obtain ⟨b, hb, hb2⟩ : ∃ b : UInt8, (be m)[d]? = some b ∧ (m : Int) / 2 ^ (8 * i) % 256 = (b.toNat : Int) := by
              refine ⟨_, be_get j m d HBE.out hdj, ?_⟩
              rw [← hi, pow8, ← Int.natCast_ediv]
              have : (UInt8.ofNat (m / 256 ^ i % 256)).toNat = m / 256 ^ i % 256 := by simp
              rw [this]
              generalize m / 256 ^ i = a
              omega
            have HB := Lib.hid hb
            have z5 := E5.out.size
            have hA5 : Hid (∀ k, some k = (Value.slice A5 N5 c5).ownBlock → w0.heap.size ≤ k ∧ k < wr.heap.size) := fun k hk => O5.out.base_le k hk.symm
            have hlen : (bs ++ UInt8.ofNat j :: (be m).take d).length ≤ 1099511627790 := by
              rw [List.length_append, List.length_cons, List.length_take]
              omega
            have q3 : (i : Int) < 8 := by omega
            have q4 : i < 8 := by omega
            have HI := Lib.hid hi
            have HV := Lib.hid hiv
            clear hb hi hiv
            go_wp2_with (first
              | (at_builtin
                 refine wpList_app Kd.u8 (v := .slice A5 N5 c5) (vx := .slice (some ⟨wr.heap.size, 0, none⟩) 1 1) (ok := ok) (xs := bs ++ UInt8.ofNat j :: (be m).take d) (ys := [b]) w0.heap.size rfl _ _ 70 5 _ 1 rfl Try.underlying70 info5 rfl (by decide) (by simp [Act.eval]) rfl (O5.out.ext0 ((Ext.refl Non wr).alloc _)) ?_ ?_ ?_ ?_ ?_ ?_
                 · refine Rd.lit_at (cs := [.int .u8 (b.toNat : Int)]) (e := 5) (fr := (0, 0)) (heap_alloc_new wr _) rfl ⟨HF.out _ (by omega), fun e => ?_⟩
                   have := (hA5.out _ e).2
                   omega
                 · exact fun i hi => HF.out i (by simp at hi; omega)
                 · rw [List.length_singleton]; omega
                 · rw [List.length_singleton]; omega
                 · simp; omega
                 intro v6 w6 hown hext hblk
                 have ht : (bs ++ UInt8.ofNat j :: (be m).take d) ++ [b] = bs ++ UInt8.ofNat j :: (be m).take (d + 1) := by
                   rw [List.take_add_one, HB.out]
                   simp
                 rw [ht] at hown
                 obtain ⟨A6, c6, rfl, hc6, hm6⟩ := hown.slice
                 obtain ⟨N6, hN6⟩ : ∃ N6, (bs ++ UInt8.ofNat j :: (be m).take (d + 1)).length = N6 := ⟨_, rfl⟩
                 rw [hN6] at hown ⊢
                 have HN6 := Lib.hid hN6
                 have O6 := Lib.hid hown
                 have E6 : Hid (Ext Non w0 w6) := ((E5.out.alloc _).trans hext (fun i hi e => by have := (hA5.out _ e).1; omega))
                 clear hown hext hblk hc6 hm6 ht hN6)
              | fail)
            go_roundw
            case rel => exact ⟨d + 1, A6, N6, c6, (i : Int) - 1, by omega, by have := HV.out; omega, by simp, rfl, HN6.out.symm, O6.out, E6.out⟩
            case measure => simp [intOf]
          · obtain rfl : d = j := by omega
            have q0 : iv = -1 := by omega
            subst q0
            go_wp2_with fail
            go_ret
            have R := O5.out
            rw [List.take_of_length_le (by rw [HBE.out]; exact Nat.le_refl _)] at R
            have e : bs ++ numB m = bs ++ UInt8.ofNat d :: be m := by
              unfold numB
              rw [HBE.out]
            exact ⟨_, rfl, by rw [e]; exact R, E5.out⟩
end Go.Proofs.Ytdjfijdnhfmeeaa

namespace Go.Proofs.Ytdjfijdnhfmeeaa
open Go.RowKit Go.TM

set_option maxHeartbeats 2000000 in
set_option maxRecDepth 100000 in
theorem Number_neg {w : World} {ok : Nat → Prop} {A : Option Addr} {c : Nat} {bs : List UInt8} (H : Rd Kd.u8 w ok (.slice A bs.length c) bs) (n : Int) (h0 : n < 0) (h1 : -9223372036854775808 ≤ n) (hbl : bs.length ≤ 1099511627776) (hf : ∀ k, w.heap.size ≤ k → ok k) :
    Calls Try.prog 65 #[.slice A bs.length c, .int .i64 n] w (NumPost ok (bs ++ numB 0) w) := by
  have HH := Lib.hid H
  have HF := Lib.hid hf
  clear H hf
  have hm0 : ¬ 0 ≤ n := by omega
  have q5 : wrap64 ((bs.length : Int) + 1) = (bs.length : Int) + 1 := by unfold wrap64; omega
  have q6 : wrap64 (bs.length : Int) = (bs.length : Int) := by unfold wrap64; omega
  go_enter Try.func65, Try.ntmps65
  go_wp2_with fail
  go_loopw [5] (fun i wr => i = .int .i64 0 ∧ wr = w) (fun _ _ => 0)
  case atStart => exact ⟨rfl, rfl⟩
  case round =>
    obtain ⟨rfl, rfl⟩ := hrel
    obtain ⟨w0, hw0⟩ : ∃ w0, w0 = wr := ⟨_, rfl⟩
    subst hw0
    go_wp2_with (first
      | (refine wpList_make Kd.u8 (ok := ok) w0.heap.size rfl _ _ 70 5 _ 1 .i64 .i64 (bs.length + 1) rfl Try.underlying70 info5 rfl (by simp [Act.eval]) ?_ ?_ ?_ ?_ ?_
         · omega
         · omega
         · exact Nat.le_refl _
         · exact HF.out _ (Nat.le_refl _)
         intro w2 hown hext
         have O2 := Lib.hid hown
         have E2 := Lib.hid hext
         have z2 := hext.size
         clear hown hext)
      | (at_builtin
         refine wpList_app Kd.u8 (v := .slice (some ⟨w0.heap.size, 0, none⟩) 0 (bs.length + 1)) (vx := .slice A bs.length c) (ok := ok) (xs := ([] : List UInt8)) (ys := bs) w0.heap.size rfl _ _ 70 5 _ 1 rfl Try.underlying70 info5 rfl (by decide) rfl rfl O2.out ?_ ?_ ?_ ?_ ?_ ?_
         · refine (HH.out.bound.ext0 E2.out).mono (fun i hi => ⟨hi.1, fun e => ?_⟩)
           simp [Value.ownBlock] at e
           omega
         · exact fun i hi => HF.out i (by omega)
         · simp; omega
         · simp; omega
         · exact z2
         intro v3 w3 hown hext hblk
         obtain ⟨A3, c3, rfl, hc3, hm3⟩ := hown.slice
         have O3 : Hid (Own Kd.u8 5 w3 w0.heap.size ok (.slice A3 ([] ++ bs).length c3) bs) := hown
         have E3 : Hid (Ext Non w0 w3) := E2.out.trans hext (fun i hi e => by simp [Value.ownBlock] at e; omega)
         have z3 := E3.out.size
         have hA3 : Hid (∀ k, some k = (Value.slice A3 ([] ++ bs).length c3).ownBlock → w0.heap.size ≤ k ∧ k < w3.heap.size) := fun k hk => O3.out.base_le k hk.symm
         clear hown hext hblk hc3 hm3)
      | (at_builtin
         refine wpList_app Kd.u8 (v := .slice A3 ([] ++ bs).length c3) (vx := .slice (some ⟨w3.heap.size, 0, none⟩) 1 1) (ok := ok) (xs := bs) (ys := [0]) w0.heap.size rfl _ _ 70 5 _ 1 rfl Try.underlying70 info5 rfl (by decide) (by simp [Act.eval]) rfl (O3.out.ext0 ((Ext.refl Non w3).alloc _)) ?_ ?_ ?_ ?_ ?_ ?_
         · refine Rd.lit_at (cs := [.int .u8 0]) (e := 5) (fr := (0, 0)) (heap_alloc_new w3 _) rfl ⟨HF.out _ (by omega), fun e => ?_⟩
           have := (hA3.out _ e).2
           omega
         · exact fun i hi => HF.out i (by simp at hi; omega)
         · simp; omega
         · simp; omega
         · simp; omega
         intro v4 w4 hown hext hblk
         obtain ⟨A4, c4, rfl, hc4, hm4⟩ := hown.slice
         have O4 := Lib.hid hown
         have E4 : Hid (Ext Non w0 w4) := ((E3.out.alloc _).trans hext (fun i hi e => by have := (hA3.out _ e).1; omega))
         clear hown hext hblk hc4 hm4)
      | fail)
    go_loopw [6, 7] (fun v i wq => v = .slice A4 (bs.length + 1) c4 ∧ i = .int .i64 (-1) ∧ wq = w4) (fun _ _ _ => 0)
    case atStart => exact ⟨by simp, rfl, rfl⟩
    case round =>
      obtain ⟨rfl, rfl, rfl⟩ := hrel
      go_wp2_with fail
      go_ret
      have R := O4.out
      have e : bs ++ numB 0 = bs ++ [0] := by
        unfold numB
        rw [be_zero]
        rfl
      exact ⟨_, rfl, by rw [e]; simpa using R, E4.out⟩

set_option maxRecDepth 100000 in
theorem Number_calls {w : World} {ok : Nat → Prop} {A : Option Addr} {c : Nat} {bs : List UInt8} (H : Rd Kd.u8 w ok (.slice A bs.length c) bs) (n : Int) (h0 : -9223372036854775808 ≤ n) (h1 : n ≤ 9223372036854775807) (hbl : bs.length ≤ 1099511627776) (hf : ∀ k, w.heap.size ≤ k → ok k) :
    Calls Try.prog 65 #[.slice A bs.length c, .int .i64 n] w (NumPost ok (bs ++ numB n.toNat) w) := by
  by_cases h : n < 0
  · rw [show n.toNat = 0 from by omega]
    exact Number_neg H n h h0 hbl hf
  · obtain ⟨m, rfl⟩ : ∃ m : Nat, n = (m : Int) := ⟨n.toNat, by omega⟩
    exact Number_nn H m h1 hbl hf
end Go.Proofs.Ytdjfijdnhfmeeaa

namespace Go.Proofs.Ytdjfijdnhfmeeaa
open Go.RowKit Go.TM

set_option maxRecDepth 100000 in
theorem be_le : ∀ (k m : Nat), m < 256 ^ k → (be m).length ≤ k
  | 0, m, h => by
    have : m = 0 := by simpa using h
    subst this
    rw [be_zero]
    simp
  | k + 1, m, h => by
    rcases Nat.eq_zero_or_pos m with h0 | h0
    · subst h0
      rw [be_zero]
      simp
    · rw [be_pos h0, List.length_append, List.length_singleton]
      have := be_le k (m / 256) (by rw [Nat.div_lt_iff_lt_mul (by omega)]; rwa [Nat.pow_succ] at h)
      omega
def numI (n : Int) : List UInt8 := numB n.toNat
set_option maxRecDepth 100000 in
theorem numI_le {n : Int} (h : n ≤ 9223372036854775807) : (numI n).length ≤ 9 := by
  unfold numI numB
  rw [List.length_cons]
  have := be_le 8 n.toNat (by have : (256 : Nat) ^ 8 = 18446744073709551616 := by decide
                              omega)
  omega
set_option maxRecDepth 100000 in
theorem nums_le : ∀ (ns : List Int), (∀ n ∈ ns, n ≤ 9223372036854775807) → (ns.flatMap numI).length ≤ 9 * ns.length
  | [], _ => by simp
  | n :: ns, h => by
    rw [List.flatMap_cons, List.length_append, List.length_cons]
    have h1 := numI_le (h n (by simp))
    have h2 := nums_le ns (fun x hx => h x (by simp [hx]))
    omega

def RdPost (ok : Nat → Prop) (bs : List UInt8) (w : World) (e : Ending) (w' : World) : Prop :=
  ∃ v', e = .returned v' ∧ Rd Kd.u8 w' ok v' bs ∧ Ext Non w w'

end Go.Proofs.Ytdjfijdnhfmeeaa

namespace Go.TM

def bval (l : List UInt8) : Nat := l.foldl (fun n x => 256 * n + x.toNat) 0
set_option maxRecDepth 100000 in
theorem bval_app (l : List UInt8) (x : UInt8) : bval (l ++ [x]) = 256 * bval l + x.toNat := by simp [bval]
set_option maxRecDepth 100000 in
theorem fold_lt : ∀ (l : List UInt8) (n : Nat), l.foldl (fun n x => 256 * n + x.toNat) n + 1 ≤ (n + 1) * 256 ^ l.length
  | [], n => by simp
  | x :: l, n => by
    rw [List.foldl_cons, List.length_cons, Nat.pow_succ, Nat.mul_comm (256 ^ l.length), ← Nat.mul_assoc]
    have := fold_lt l (256 * n + x.toNat)
    have hx := x.toNat_lt
    refine Nat.le_trans this (Nat.mul_le_mul_right _ ?_)
    omega
set_option maxRecDepth 100000 in
theorem bval_lt (l : List UInt8) : bval l < 256 ^ l.length := by
  have := fold_lt l 0
  unfold bval
  omega
set_option maxRecDepth 100000 in
theorem bval_be (m : Nat) : bval (be m) = m := by
  rcases Nat.eq_zero_or_pos m with h | h
  · subst h
    rw [be_zero]
    rfl
  · rw [be_pos h, bval_app, bval_be (m / 256)]
    have : (UInt8.ofNat (m % 256)).toNat = m % 256 := by simp
    rw [this]
    omega
termination_by m
decreasing_by omega
set_option maxRecDepth 100000 in
theorem be_head (m : Nat) : (be m).head? ≠ some 0 := by
  rcases Nat.eq_zero_or_pos m with h | h
  · subst h
    rw [be_zero]
    simp
  · rw [be_pos h]
    rcases Nat.eq_zero_or_pos (m / 256) with h1 | h1
    · rw [h1, be_zero]
      intro e
      have e' : UInt8.ofNat (m % 256) = 0 := by simpa using e
      have e2 : (UInt8.ofNat (m % 256)).toNat = 0 := by rw [e']; rfl
      have e3 : (UInt8.ofNat (m % 256)).toNat = m % 256 := by simp
      omega
    · have hne : be (m / 256) ≠ [] := by
        intro e
        have := bval_be (m / 256)
        rw [e] at this
        simp [bval] at this
        omega
      have := be_head (m / 256)
      cases hb : be (m / 256) with
      | nil => exact absurd hb hne
      | cons x t =>
        rw [hb] at this
        simpa using this
termination_by m
decreasing_by omega
set_option maxRecDepth 100000 in
theorem bval_le (x : UInt8) (l : List UInt8) : x.toNat * 256 ^ l.length ≤ bval (x :: l) := by
  have key : ∀ (l : List UInt8) (n : Nat), n * 256 ^ l.length ≤ l.foldl (fun n x => 256 * n + x.toNat) n := by
    intro l
    induction l with
    | nil => intro n; simp
    | cons y l ih =>
      intro n
      rw [List.foldl_cons, List.length_cons, Nat.pow_succ, Nat.mul_comm (256 ^ l.length), ← Nat.mul_assoc]
      refine Nat.le_trans (Nat.mul_le_mul_right _ ?_) (ih _)
      omega
  have := key l (256 * 0 + x.toNat)
  simpa [bval] using this
set_option maxRecDepth 100000 in
theorem be_bval : ∀ (n : Nat) (l : List UInt8), l.length = n → l.head? ≠ some 0 → be (bval l) = l
  | 0, l, hn, _ => by
    have : l = [] := List.length_eq_zero_iff.1 hn
    subst this
    simp [bval, be_zero]
  | n + 1, l, hn, h0 => by
    have hne : l ≠ [] := by intro e; subst e; simp at hn
    obtain ⟨l', x, rfl⟩ : ∃ l' x, l = l' ++ [x] := ⟨l.dropLast, l.getLast hne, (List.dropLast_concat_getLast hne).symm⟩
    have hl : l'.length = n := by simpa using hn
    have hx := x.toNat_lt
    have hofn : ∀ b : Nat, UInt8.ofNat ((256 * b + x.toNat) % 256) = x := by
      intro b
      rw [show (256 * b + x.toNat) % 256 = x.toNat from by omega]
      simp
    rw [bval_app]
    cases l' with
    | nil =>
      have hx0 : x ≠ 0 := by simpa using h0
      have hx1 : 0 < x.toNat := by
        rcases Nat.eq_zero_or_pos x.toNat with h | h
        · exact absurd (UInt8.toNat_inj.1 (by rw [h]; rfl)) hx0
        · exact h
      rw [be_pos (by omega), hofn, show (256 * bval [] + x.toNat) / 256 = 0 from by simp [bval]; omega, be_zero]
    | cons y t =>
      have hy : (y :: t).head? ≠ some 0 := by simpa using h0
      have hy1 : 0 < y.toNat := by
        rcases Nat.eq_zero_or_pos y.toNat with h | h
        · have : y = 0 := UInt8.toNat_inj.1 h
          subst this
          simp at hy
        · exact h
      have hpos : 0 < bval (y :: t) := Nat.lt_of_lt_of_le (Nat.mul_pos hy1 (Nat.pow_pos (by omega))) (bval_le y t)
      rw [be_pos (by omega), hofn, show (256 * bval (y :: t) + x.toNat) / 256 = bval (y :: t) from by omega, be_bval n (y :: t) hl hy]

/-- The number at the beginning: it, how many bytes it has, why there is none. -/
def numR : List UInt8 → Nat × Nat × Int
  | [] => (0, 0, 2)
  | k :: t => if 8 < k.toNat then (0, 0, 11) else if t.length < k.toNat then (0, 0, 2) else if 0 < k.toNat ∧ t.head? = some 0 then (0, 0, 11) else
    if 9223372036854775807 < bval (t.take k.toNat) then (0, 0, 5) else (bval (t.take k.toNat), k.toNat + 1, 0)
end Go.TM
namespace Go.Proofs.Ytdjfijdnhfmeeaa
open Go.TM
set_option maxRecDepth 100000 in
theorem be_le8 {m : Nat} (h : m ≤ 9223372036854775807) : (be m).length ≤ 8 := by
  have : (256 : Nat) ^ 8 = 18446744073709551616 := by decide
  exact be_le 8 m (by omega)
set_option maxRecDepth 100000 in
theorem numR_numB {m : Nat} (h : m ≤ 9223372036854775807) (r : List UInt8) : numR (numB m ++ r) = (m, (numB m).length, 0) := by
  have h8 := be_le8 h
  have hk : (UInt8.ofNat (be m).length).toNat = (be m).length := by
    have : (UInt8.ofNat (be m).length).toNat = (be m).length % 256 := by simp
    omega
  unfold numB
  rw [List.cons_append]
  simp only [numR]
  rw [hk, if_neg (by omega), if_neg (by rw [List.length_append]; omega), List.take_left', bval_be, if_neg, if_neg (by omega), List.length_cons]
  · rintro ⟨h0, h1⟩
    have := be_head m
    cases hb : be m with
    | nil => rw [hb] at h0; simp at h0
    | cons x t =>
      rw [hb] at this h1
      exact this (by simpa using h1)
  · rfl
set_option maxRecDepth 100000 in
theorem numR_ok {l : List UInt8} {n k : Nat} (h : numR l = (n, k, 0)) : 0 < k ∧ k ≤ l.length ∧ numB n = l.take k ∧ n ≤ 9223372036854775807 := by
  cases l with
  | nil => simp [numR] at h
  | cons b t =>
    simp only [numR] at h
    split at h
    · simp at h
    split at h
    · simp at h
    split at h
    · simp at h
    split at h
    · simp at h
    · rename_i h1 h2 h3 h4
      simp only [Prod.mk.injEq, and_true] at h
      obtain ⟨rfl, rfl⟩ := h
      have hl : (t.take b.toNat).length = b.toNat := by rw [List.length_take]; omega
      refine ⟨by omega, by rw [List.length_cons]; omega, ?_, by omega⟩
      unfold numB
      rw [be_bval b.toNat _ hl, hl, List.take_succ_cons]
      · simp
      · intro e
        refine h3 ⟨?_, ?_⟩
        · rcases Nat.eq_zero_or_pos b.toNat with h | h
          · rw [h] at e; simp at e
          · exact h
        · cases t with
          | nil => simp at e
          | cons y t' =>
            rcases Nat.eq_zero_or_pos b.toNat with h | h
            · rw [h] at e; simp at e
            · obtain ⟨q, hq⟩ : ∃ q, b.toNat = q + 1 := ⟨b.toNat - 1, by omega⟩
              rw [hq] at e
              simpa using e
set_option maxRecDepth 100000 in
theorem numR_bad {l : List UInt8} {n k : Nat} {e : Int} (h : numR l = (n, k, e)) : (e = 0 ∨ e = 2 ∨ e = 5 ∨ e = 11) ∧ (e ≠ 0 → n = 0 ∧ k = 0) := by
  cases l with
  | nil =>
    simp only [numR, Prod.mk.injEq] at h
    obtain ⟨rfl, rfl, rfl⟩ := h
    simp
  | cons b t =>
    unfold numR at h
    repeat' split at h
    all_goals
      simp only [Prod.mk.injEq] at h
      obtain ⟨rfl, rfl, rfl⟩ := h
      simp
end Go.Proofs.Ytdjfijdnhfmeeaa

namespace Go.TM
end Go.TM
namespace Go.Proofs.Ytdjfijdnhfmeeaa
open Go.RowKit Go.TM

/-- A reader: bytes, a place, the first error. -/
def RdrAt (w : World) (ok : Nat → Prop) (g : Nat) (bs : List UInt8) (at' : Nat) (err : Int) : Prop :=
  ∃ v, w.heap[g]? = some (.cells #[v, .int .i64 (at' : Int), .int .i64 err, .bool true] 103 (0, 0)) ∧ Rd Kd.u8 w ok v bs

set_option maxRecDepth 100000 in
theorem RdrAt.ext {w w' : World} {ok : Nat → Prop} {g : Nat} {bs : List UInt8} {a : Nat} {err : Int} (h : RdrAt w ok g bs a err) (he : Ext Non w w') : RdrAt w' ok g bs a err := by
  obtain ⟨v, hb, hr⟩ := h
  exact ⟨v, he.obj hb (fun e => e), hr.ext0 he⟩
set_option maxRecDepth 100000 in
theorem RdrAt.only {w w' : World} {ok : Nat → Prop} {g q : Nat} {bs : List UInt8} {a : Nat} {err : Int} (h : RdrAt w ok g bs a err) (he : Ext (Only q) w w') (hq : ¬ ok q) (hne : g ≠ q) : RdrAt w' ok g bs a err := by
  obtain ⟨v, hb, hr⟩ := h
  exact ⟨v, he.obj hb hne, hr.ext he (fun k hk _ e => hq (e ▸ hk))⟩

set_option maxRecDepth 100000 in
theorem rdead_nil (w : World) : Calls Try.prog 77 #[.pointer none] w fun e w' => e = .returned (.bool true) ∧ w = w' := by
  go_enter Try.func77, Try.ntmps77
  go_wp2
  go_ret
  exact ⟨rfl, rfl⟩
set_option maxRecDepth 100000 in
theorem rdead_at (g : Nat) (w : World) (b : Bool) (h3 : w.cell? ⟨g, 3, none⟩ = some (.bool b)) : Calls Try.prog 77 #[.pointer (some ⟨g, 0, none⟩)] w fun e w' => e = .returned (.bool (!b)) ∧ w = w' := by
  go_enter Try.func77, Try.ntmps77
  go_wp2
  go_ret
  exact ⟨rfl, rfl⟩

section
variable {w : World} {ok : Nat → Prop} {g : Nat} {bs : List UInt8} {a : Nat} {err : Int}

set_option maxRecDepth 100000 in
theorem fail_no (hR : RdrAt w ok g bs a err) (h : err ≠ 0) (n : Int) : Calls Try.prog 88 #[.pointer (some ⟨g, 0, none⟩), .int .i64 n] w fun e w' => e = .returned (.tuple #[]) ∧ w = w' := by
  obtain ⟨v, hb, hr⟩ := hR
  have c2 := blk_cell hb 2
  simp at c2
  clear hb hr
  go_enter Try.func88, Try.ntmps88
  go_wp2_with fail
  refine bodyPost_end (results_none rfl _ _ _) rfl ?_
  exact ⟨rfl, rfl⟩
set_option maxRecDepth 100000 in
theorem fail_yes (hR : RdrAt w ok g bs a 0) (hg : ¬ ok g) (n : Int) : Calls Try.prog 88 #[.pointer (some ⟨g, 0, none⟩), .int .i64 n] w fun e w' => e = .returned (.tuple #[]) ∧ RdrAt w' ok g bs a n ∧ Ext (Only g) w w' := by
  obtain ⟨v, hb, hr⟩ := hR
  have c2 := blk_cell hb 2
  have y2 := blk_frozen hb 2
  simp at c2
  have HB := Lib.hid hb
  have HR := Lib.hid hr
  clear hb hr
  go_enter Try.func88, Try.ntmps88
  go_wp2_with fail
  refine bodyPost_end (results_none rfl _ _ _) rfl ?_
  have HE : Ext (Only g) w (w.setCell ⟨g, 2, none⟩ (.int .i64 n)) := (Ext.refl (Only g) w).setCell (p := ⟨g, 2, none⟩) (fun _ => rfl) _
  refine ⟨rfl, ⟨v, by simpa using blk_set HB.out 2 (.int .i64 n), HR.out.ext HE (fun k hk _ e => hg (e ▸ hk))⟩, HE⟩
set_option maxRecDepth 100000 in
theorem Left_calls (hR : RdrAt w ok g bs a err) (ha : a ≤ bs.length) : Calls Try.prog 46 #[.pointer (some ⟨g, 0, none⟩)] w fun e w' => e = .returned (.int .i64 ((bs.length - a : Nat) : Int)) ∧ Ext Non w w' := by
  obtain ⟨v, hb, hr⟩ := hR
  obtain ⟨A, c, rfl, hc, hm⟩ := hr.slice
  have c0 := blk_cell hb 0
  have c1 := blk_cell hb 1
  have c3 := blk_cell hb 3
  simp at c0 c1 c3
  clear hb hr
  have q : ((bs.length - a : Nat) : Int) = (bs.length : Int) - (a : Int) := by omega
  rw [q]
  clear q
  go_enter Try.func46, Try.ntmps46
  go_wp2_with (first | (go_at_call 77; refine (rdead_at g _ true c3).mono ?_; rintro e w1 ⟨rfl, rfl⟩) | fail)
  go_region
  go_wp2_with fail
  go_ret
  exact ⟨rfl, (Ext.refl _ _).drew⟩
set_option maxRecDepth 100000 in
theorem Err_calls (hR : RdrAt w ok g bs a err) : Calls Try.prog 76 #[.pointer (some ⟨g, 0, none⟩)] w fun e w' => e = .returned (.int .i64 err) ∧ w = w' := by
  obtain ⟨v, hb, hr⟩ := hR
  have c2 := blk_cell hb 2
  have c3 := blk_cell hb 3
  simp at c2 c3
  clear hb hr
  go_enter Try.func76, Try.ntmps76
  go_wp2_with (first | (go_at_call 77; refine (rdead_at g _ true c3).mono ?_; rintro e w1 ⟨rfl, rfl⟩) | fail)
  go_ret
  exact ⟨rfl, rfl⟩

set_option maxRecDepth 100000 in
theorem bytes_bad (hR : RdrAt w ok g bs a err) (h : err ≠ 0) (n : Int) : Calls Try.prog 89 #[.pointer (some ⟨g, 0, none⟩), .int .i64 n] w fun e w' => e = .returned (.slice none 0 0) ∧ Ext Non w w' := by
  obtain ⟨v, hb, hr⟩ := hR
  obtain ⟨A, c, rfl, hc, hm⟩ := hr.slice
  have c0 := blk_cell hb 0
  have c1 := blk_cell hb 1
  have c2 := blk_cell hb 2
  simp at c0 c1 c2
  have q : (err == 0) = false := by simpa using h
  have q' : (err != 0) = true := by simpa using h
  clear hb hr h
  go_enter Try.func89, Try.ntmps89
  go_wp2_with fail
  go_region
  go_wp2_with fail
  go_ret
  exact ⟨rfl, (Ext.refl _ _).drew⟩

set_option maxRecDepth 100000 in
theorem bytes_short (hR : RdrAt w ok g bs a 0) (hg : ¬ ok g) (ha : a ≤ bs.length) (n : Int) (hn : (bs.length : Int) - a < n) : Calls Try.prog 89 #[.pointer (some ⟨g, 0, none⟩), .int .i64 n] w fun e w' => e = .returned (.slice none 0 0) ∧ RdrAt w' ok g bs a 2 ∧ Ext (Only g) w w' := by
  have HR := Lib.hid hR
  obtain ⟨v, hb, hr⟩ := hR
  obtain ⟨A, c, rfl, hc, hm⟩ := hr.slice
  have c0 := blk_cell hb 0
  have c1 := blk_cell hb 1
  have c2 := blk_cell hb 2
  simp at c0 c1 c2
  clear hb hr
  go_enter Try.func89, Try.ntmps89
  go_wp2_with fail
  go_region
  go_wp2_with fail
  refine (fail_yes (HR.out.ext (Ext.refl Non w).drew) hg 2).mono ?_
  rintro e w1 ⟨rfl, h1, h2⟩
  have R1 := Lib.hid h1
  have E1 : Hid (Ext (Only g) w w1) := (Ext.refl Non w).drew.of0.trans h2 (fun _ _ e => e)
  obtain ⟨v1, hb, hr⟩ := h1
  have c2 := blk_cell hb 2
  simp at c2
  clear hb hr h2 c0 c1
  go_wp2_with fail
  go_ret
  exact ⟨rfl, R1.out, E1.out⟩

set_option maxRecDepth 100000 in
theorem bytes_yes (hR : RdrAt w ok g bs a 0) (hg : ¬ ok g) (m : Nat) (hn : a + m ≤ bs.length) (h0 : bs ≠ []) : Calls Try.prog 89 #[.pointer (some ⟨g, 0, none⟩), .int .i64 (m : Int)] w fun e w' => ∃ v, e = .returned v ∧ Rd Kd.u8 w' ok v ((bs.drop a).take m) ∧ RdrAt w' ok g bs (a + m) 0 ∧ Ext (Only g) w w' := by
  have HR := Lib.hid hR
  obtain ⟨v, hb, hr⟩ := hR
  obtain ⟨A, c, rfl, hc, hm⟩ := hr.slice
  have c0 := blk_cell hb 0
  have c1 := blk_cell hb 1
  have c2 := blk_cell hb 2
  have y1 := blk_frozen hb 1
  simp at c0 c1 c2
  have hlt := blk_lt hb
  have HRR := Lib.hid hr
  have HB := Lib.hid hb
  obtain ⟨gs, off, rfl⟩ : ∃ gs off, A = some ⟨gs, off, none⟩ := by
    obtain ⟨A', c', he, _, _, hx⟩ := hr
    simp only [Value.slice.injEq] at he
    obtain ⟨rfl, _, rfl⟩ := he
    obtain ⟨g', off', he, _⟩ := hx (List.length_pos_iff.2 h0)
    exact ⟨g', off', he⟩
  clear hb hr
  go_enter Try.func89, Try.ntmps89
  go_wp2_with fail
  go_region
  go_wp2_with fail
  have hb3 := blk_drew (blk_set HB.out 1 (.int .i64 ((a : Int) + (m : Int))))
  simp only [List.setIfInBounds_toArray, List.set_cons_succ, List.set_cons_zero] at hb3
  have E3 : Hid (Ext (Only g) w (w.setCell ⟨g, 1, none⟩ (.int .i64 ((a : Int) + (m : Int)))).drew) := ((Ext.refl (Only g) w).setCell (p := ⟨g, 1, none⟩) (fun _ => rfl) _).drew
  have HRR3 := Lib.hid (HRR.out.ext E3.out (fun k hk _ e => hg (e ▸ hk)))
  generalize (w.setCell ⟨g, 1, none⟩ (.int .i64 ((a : Int) + (m : Int)))).drew = w3 at hb3 E3 HRR3 ⊢
  have c0 := blk_cell hb3 0
  have c1 := blk_cell hb3 1
  simp at c0 c1
  have HB3 := Lib.hid hb3
  clear hb3
  have E4 : Ext Non w3 w3.drew := (Ext.refl Non w3).drew
  have r1 := ((HRR3.out.ext0 E4).take (k := a + m) (by omega)).drop (k := a) (by rw [List.length_take]; omega)
  have e1 : (bs.take (a + m)).drop a = (bs.drop a).take m := by rw [List.drop_take]; congr 1; omega
  rw [e1, show a * Kd.u8.sz = a from Nat.mul_one a] at r1
  go_region
  generalize (if c = a then some (⟨gs, off, none⟩ : Addr) else some ⟨gs, off + a, none⟩) = A9 at r1 ⊢
  have R1 := Lib.hid r1
  clear r1
  go_wp2_with fail
  go_ret
  refine ⟨_, rfl, R1.out, ⟨_, ?_, HRR3.out.ext0 E4⟩, E3.out.trans0 E4⟩
  have := HB3.out
  rw [← Int.natCast_add] at this
  exact this
end
end Go.Proofs.Ytdjfijdnhfmeeaa

namespace Go.Proofs.Ytdjfijdnhfmeeaa
open Go.RowKit Go.TM

section
variable {w : World} {ok : Nat → Prop} {g : Nat} {bs : List UInt8} {a : Nat} {err : Int}

set_option maxRecDepth 100000 in
theorem RdrAt.cells (hR : RdrAt w ok g bs a err) : ∃ v, w.cell? ⟨g, 0, none⟩ = some v ∧ w.cell? ⟨g, 1, none⟩ = some (.int .i64 (a : Int)) ∧ w.cell? ⟨g, 2, none⟩ = some (.int .i64 err) ∧ w.cell? ⟨g, 3, none⟩ = some (.bool true) ∧ w.frozen? ⟨g, 1, none⟩ = false ∧ w.frozen? ⟨g, 2, none⟩ = false ∧ Rd Kd.u8 w ok v bs := by
  obtain ⟨v, hb, hr⟩ := hR
  exact ⟨v, by simpa using blk_cell hb 0, by simpa using blk_cell hb 1, by simpa using blk_cell hb 2, by simpa using blk_cell hb 3, blk_frozen hb 1, blk_frozen hb 2, hr⟩
set_option maxRecDepth 100000 in
theorem RdrAt.set_at (hR : RdrAt w ok g bs a err) (hg : ¬ ok g) (b : Nat) : RdrAt (w.setCell ⟨g, 1, none⟩ (.int .i64 (b : Int))) ok g bs b err ∧ Ext (Only g) w (w.setCell ⟨g, 1, none⟩ (.int .i64 (b : Int))) := by
  obtain ⟨v, hb, hr⟩ := hR
  have HE : Ext (Only g) w (w.setCell ⟨g, 1, none⟩ (.int .i64 (b : Int))) := (Ext.refl (Only g) w).setCell (p := ⟨g, 1, none⟩) (fun _ => rfl) _
  exact ⟨⟨v, by simpa using blk_set hb 1 (.int .i64 (b : Int)), hr.ext HE (fun k hk _ e => hg (e ▸ hk))⟩, HE⟩

/-- What Number says, and where the reader stands behind it. -/
def rNum (bs : List UInt8) (a : Nat) (err : Int) : Int × Nat × Int :=
  if err ≠ 0 then (0, a, err) else if (numR (bs.drop a)).2.2 ≠ 0 then (0, a, (numR (bs.drop a)).2.2) else ((numR (bs.drop a)).1, a + (numR (bs.drop a)).2.1, 0)

def RPost (ok : Nat → Prop) (g : Nat) (bs : List UInt8) (w : World) (v : Value) (s : Nat × Int) (e : Ending) (w' : World) : Prop :=
  e = .returned v ∧ RdrAt w' ok g bs s.1 s.2 ∧ Ext (Only g) w w'

set_option maxRecDepth 100000 in
theorem RNumber_bad (hR : RdrAt w ok g bs a err) (h : err ≠ 0) : Calls Try.prog 87 #[.pointer (some ⟨g, 0, none⟩)] w (RPost ok g bs w (.int .i64 0) (a, err)) := by
  obtain ⟨v, c0, c1, c2, c3, y1, y2, hr⟩ := hR.cells
  have HR := Lib.hid hR
  clear hR hr
  go_enter Try.func87, Try.ntmps87
  go_wp2_with (first | (go_at_call 77; refine (rdead_at g _ true c3).mono ?_; rintro e w1 ⟨rfl, rfl⟩) | fail)
  refine (bytes_bad HR.out h 1).mono ?_
  rintro e w1 ⟨rfl, he⟩
  have HE := Lib.hid he
  clear he
  go_wp2_with fail
  go_ret
  exact ⟨rfl, HR.out.ext HE.out, HE.out.of0⟩

set_option maxRecDepth 100000 in
theorem RNumber_end (hR : RdrAt w ok g bs a 0) (hg : ¬ ok g) (h : bs.length ≤ a) (ha : a ≤ bs.length) : Calls Try.prog 87 #[.pointer (some ⟨g, 0, none⟩)] w (RPost ok g bs w (.int .i64 0) (a, 2)) := by
  obtain ⟨v, c0, c1, c2, c3, y1, y2, hr⟩ := hR.cells
  have HR := Lib.hid hR
  clear hR hr
  go_enter Try.func87, Try.ntmps87
  go_wp2_with (first | (go_at_call 77; refine (rdead_at g _ true c3).mono ?_; rintro e w1 ⟨rfl, rfl⟩) | fail)
  refine (bytes_short HR.out hg ha 1 (by omega)).mono ?_
  rintro e w1 ⟨rfl, h1, he⟩
  have HE := Lib.hid he
  have H1 := Lib.hid h1
  clear he h1
  go_wp2_with fail
  go_ret
  exact ⟨rfl, H1.out, HE.out⟩

set_option maxRecDepth 100000 in
theorem RNumber_form (hR : RdrAt w ok g bs a 0) (hg : ¬ ok g) {b : UInt8} {t : List UInt8} (hd : bs.drop a = b :: t) (h8 : 8 < b.toNat) : Calls Try.prog 87 #[.pointer (some ⟨g, 0, none⟩)] w (RPost ok g bs w (.int .i64 0) (a, 11)) := by
  obtain ⟨v, c0, c1, c2, c3, y1, y2, hr⟩ := hR.cells
  have HR := Lib.hid hR
  have HD := Lib.hid hd
  have hlen : a + 1 ≤ bs.length := by
    have := congrArg List.length hd
    rw [List.length_drop, List.length_cons] at this
    omega
  have hne : bs ≠ [] := by intro e; subst e; simp only [List.length_nil] at hlen; omega
  clear hR hr hd
  go_enter Try.func87, Try.ntmps87
  go_wp2_with (first | (go_at_call 77; refine (rdead_at g _ true c3).mono ?_; rintro e w1 ⟨rfl, rfl⟩) | fail)
  refine (bytes_yes HR.out hg 1 hlen hne).mono ?_
  rintro e w1 ⟨v1, rfl, h1, h2, he⟩
  rw [HD.out, show (b :: t).take 1 = [b] from rfl] at h1
  obtain ⟨A1, c1', rfl, _, _⟩ := h1.slice
  obtain ⟨g1, o1, rfl, hg1, hl1, hc1⟩ := h1.flat_at (show [b][0]? = some b from rfl)
  have d0 := hc1 0 _ rfl
  simp only [Nat.add_zero, Nat.zero_mul] at d0
  obtain ⟨v', e0, e1, e2, e3, y1, y2, hr⟩ := h2.cells
  have H2 := Lib.hid h2
  have HE := Lib.hid he
  have q : (8 : Int) < (b.toNat : Int) := by omega
  clear h1 h2 he hc1 hr
  go_wp2_with fail
  have S := H2.out.set_at hg a
  refine (fail_yes S.1 hg 11).mono ?_
  rintro e w2 ⟨rfl, h3, h4⟩
  have H3 := Lib.hid h3
  have H4 : Hid (Ext (Only g) w w2) := (HE.out.trans S.2 (fun _ _ e => e)).trans h4 (fun _ _ e => e)
  clear h3 h4 S
  go_wp2_with fail
  go_ret
  exact ⟨rfl, H3.out, H4.out⟩

set_option maxRecDepth 100000 in
theorem RNumber_short (hR : RdrAt w ok g bs a 0) (hg : ¬ ok g) {b : UInt8} {t : List UInt8} (hd : bs.drop a = b :: t) (h8 : b.toNat ≤ 8) (ht : t.length < b.toNat) : Calls Try.prog 87 #[.pointer (some ⟨g, 0, none⟩)] w (RPost ok g bs w (.int .i64 0) (a, 2)) := by
  obtain ⟨v, c0, c1, c2, c3, y1, y2, hr⟩ := hR.cells
  have HR := Lib.hid hR
  have HD := Lib.hid hd
  have hlen : bs.length = a + 1 + t.length := by
    have := congrArg List.length hd
    rw [List.length_drop, List.length_cons] at this
    omega
  have hne : bs ≠ [] := by intro e; subst e; simp only [List.length_nil] at hlen; omega
  clear hR hr hd
  go_enter Try.func87, Try.ntmps87
  go_wp2_with (first | (go_at_call 77; refine (rdead_at g _ true c3).mono ?_; rintro e w1 ⟨rfl, rfl⟩) | fail)
  refine (bytes_yes HR.out hg 1 (by omega) hne).mono ?_
  rintro e w1 ⟨v1, rfl, h1, h2, he⟩
  rw [HD.out, show (b :: t).take 1 = [b] from rfl] at h1
  obtain ⟨A1, c1', rfl, _, _⟩ := h1.slice
  obtain ⟨g1, o1, rfl, hg1, hl1, hc1⟩ := h1.flat_at (show [b][0]? = some b from rfl)
  have d0 := hc1 0 _ rfl
  simp only [Nat.add_zero, Nat.zero_mul] at d0
  have H2 := Lib.hid h2
  have HE := Lib.hid he
  have q : ¬ (8 : Int) < (b.toNat : Int) := by omega
  clear h1 h2 he hc1
  go_wp2_with fail
  refine (bytes_short H2.out hg (by omega) (b.toNat : Int) (by omega)).mono ?_
  rintro e w2 ⟨rfl, h1, he⟩
  obtain ⟨v', e0, e1, e2, e3, y1, y2, hr⟩ := h1.cells
  have H3 := Lib.hid h1
  have HE3 : Hid (Ext (Only g) w w2) := HE.out.trans he (fun _ _ e => e)
  clear h1 he hr c0 c1 c2 c3
  go_wp2_with fail
  go_loopw [5, 38] (fun n i wr => n = .int .u64 0 ∧ i = .int .i64 0 ∧ wr = w2) (fun _ _ _ => 0)
  case atStart => exact ⟨rfl, rfl, rfl⟩
  case round =>
    obtain ⟨rfl, rfl, rfl⟩ := hrel
    go_wp2_with fail
    go_ret
    have S := H3.out.set_at hg a
    exact ⟨rfl, S.1, HE3.out.trans S.2 (fun _ _ e => e)⟩

set_option maxRecDepth 100000 in
theorem or_byte {n x : Nat} (hn : n < 256 ^ 7) (hx : x < 256) : bits .or .u64 (((256 * n : Nat)) : Int) (x : Int) = ((256 * n + x : Nat) : Int) := by
  have h7 : (256 : Nat) ^ 7 = 72057594037927936 := by decide
  rw [bits_or_u64_nat _ _ (by omega) (by omega)]
  congr 1
  have := Nat.two_pow_add_eq_or_of_lt (i := 8) (b := x) (by omega) n
  rw [show (2 : Nat) ^ 8 = 256 from rfl] at this
  exact this.symm
set_option maxRecDepth 100000 in
theorem shl_byte {n x : Nat} (hn : n < 256 ^ 7) (hx : x < 256) : bits .or .u64 (IntKind.u64.wrap ((n : Int) * 256)) (IntKind.u64.wrap (x : Int)) = ((256 * n + x : Nat) : Int) := by
  have h7 : (256 : Nat) ^ 7 = 72057594037927936 := by decide
  rw [IntKind.wrap_u64, IntKind.wrap_u64, ← or_byte hn hx]
  congr 1 <;> omega

set_option maxRecDepth 100000 in
theorem rNum_of {r : Nat × Nat × Int} (h : numR (bs.drop a) = r) : rNum bs a 0 = if r.2.2 ≠ 0 then (0, a, r.2.2) else ((r.1 : Int), a + r.2.1, 0) := by
  subst h
  simp [rNum]
set_option maxRecDepth 100000 in
theorem rNum_read {b : UInt8} {t : List UInt8} (hd : bs.drop a = b :: t) (h8 : b.toNat ≤ 8) (ht : b.toNat ≤ t.length) : rNum bs a 0 = if (t.take b.toNat).head? = some 0 then (0, a, 11) else if 9223372036854775807 < bval (t.take b.toNat) then (0, a, 5) else ((bval (t.take b.toNat) : Int), a + 1 + b.toNat, 0) := by
  have hh : (0 < b.toNat ∧ t.head? = some 0) ↔ (t.take b.toNat).head? = some 0 := by
    cases t with
    | nil => simp
    | cons y t' =>
      rcases Nat.eq_zero_or_pos b.toNat with h | h
      · rw [h]; simp
      · obtain ⟨q, hq⟩ : ∃ q, b.toNat = q + 1 := ⟨b.toNat - 1, by omega⟩
        rw [hq]
        simp
  by_cases h1 : (t.take b.toNat).head? = some 0
  · rw [rNum_of (r := (0, 0, 11)) (by rw [hd]; simp only [numR]; rw [if_neg (by omega), if_neg (by omega), if_pos (hh.2 h1)]), if_pos h1]
    simp
  · by_cases h2 : 9223372036854775807 < bval (t.take b.toNat)
    · rw [rNum_of (r := (0, 0, 5)) (by rw [hd]; simp only [numR]; rw [if_neg (by omega), if_neg (by omega), if_neg (fun h => h1 (hh.1 h)), if_pos h2]), if_neg h1, if_pos h2]
      simp
    · rw [rNum_of (r := (bval (t.take b.toNat), b.toNat + 1, 0)) (by rw [hd]; simp only [numR]; rw [if_neg (by omega), if_neg (by omega), if_neg (fun h => h1 (hh.1 h)), if_neg h2]), if_neg h1, if_neg h2]
      simp
      omega

set_option maxRecDepth 100000 in
theorem RNumber_read (hR : RdrAt w ok g bs a 0) (hg : ¬ ok g) {b : UInt8} {t : List UInt8} (hd : bs.drop a = b :: t) (h8 : b.toNat ≤ 8) (ht : b.toNat ≤ t.length) : Calls Try.prog 87 #[.pointer (some ⟨g, 0, none⟩)] w (RPost ok g bs w (.int .i64 (rNum bs a 0).1) (rNum bs a 0).2) := by
  obtain ⟨v, c0, c1, c2, c3, y1, y2, hr⟩ := hR.cells
  have HR := Lib.hid hR
  have HD := Lib.hid hd
  have hlen : bs.length = a + 1 + t.length := by
    have := congrArg List.length hd
    rw [List.length_drop, List.length_cons] at this
    omega
  have hd2 : bs.drop (a + 1) = t := by rw [← List.drop_drop, hd]; rfl
  have HD2 := Lib.hid hd2
  have hne : bs ≠ [] := by intro e; subst e; simp only [List.length_nil] at hlen; omega
  clear hR hr hd hd2
  go_enter Try.func87, Try.ntmps87
  go_wp2_with (first | (go_at_call 77; refine (rdead_at g _ true c3).mono ?_; rintro e w1 ⟨rfl, rfl⟩) | fail)
  refine (bytes_yes HR.out hg 1 (by omega) hne).mono ?_
  rintro e w1 ⟨v1, rfl, h1, h2, he⟩
  rw [HD.out, show (b :: t).take 1 = [b] from rfl] at h1
  obtain ⟨A1, c1', rfl, _, _⟩ := h1.slice
  obtain ⟨g1, o1, rfl, hg1, hl1, hc1⟩ := h1.flat_at (show [b][0]? = some b from rfl)
  have d0 := hc1 0 _ rfl
  simp only [Nat.add_zero, Nat.zero_mul] at d0
  have H2 := Lib.hid h2
  have HE := Lib.hid he
  have q : ¬ (8 : Int) < (b.toNat : Int) := by omega
  clear h1 h2 he hc1
  go_wp2_with fail
  refine (bytes_yes H2.out hg b.toNat (by omega) hne).mono ?_
  rintro e w2 ⟨v2, rfl, h1, h2, he⟩
  rw [HD2.out] at h1
  obtain ⟨A2, c2', rfl, _, _⟩ := h1.slice
  obtain ⟨v', e0, e1, e2, e3, y1, y2, hr⟩ := h2.cells
  have H3 := Lib.hid h2
  have R3 := Lib.hid h1
  have HE3 : Hid (Ext (Only g) w w2) := HE.out.trans he (fun _ _ e => e)
  obtain ⟨l, hl⟩ : ∃ l, l = t.take b.toNat := ⟨_, rfl⟩
  rw [← hl] at R3 ⊢
  have hll : l.length = b.toNat := by rw [hl, List.length_take]; omega
  have HL := Lib.hid hl
  clear h1 h2 he hr c0 c1 c2 c3 hl
  go_wp2_with fail
  go_loopw [5, 38] (fun n i wr => ∃ j : Nat, n = .int .u64 (bval (l.take j) : Int) ∧ i = .int .i64 (j : Int) ∧ j ≤ l.length ∧ wr = w2) (fun _ i _ => l.length - (intOf i).toNat)
  case atStart => exact ⟨0, rfl, rfl, by omega, rfl⟩
  case round =>
    obtain ⟨j, rfl, rfl, hj, rfl⟩ := hrel
    by_cases hlt : j < l.length
    · obtain ⟨x, hx⟩ : ∃ x, l[j]? = some x := ⟨_, List.getElem?_eq_getElem hlt⟩
      obtain ⟨g3, o3, rfl, hg3, hl3, hc3⟩ := R3.out.flat_at hx
      have d3 := hc3 0 _ rfl
      simp only [Nat.add_zero, Nat.mul_one] at d3
      have q0 : (j : Int) < (l.length : Int) := by omega
      have q1 : (0 : Int) ≤ (j : Int) := by omega
      have HX := Lib.hid hx
      clear hx hc3
      go_wp2_with fail
      have hpow : bval (l.take j) < 256 ^ 7 := by
        refine Nat.lt_of_lt_of_le (bval_lt _) (Nat.pow_le_pow_right (by omega) ?_)
        rw [List.length_take]
        omega
      have ht : l.take (j + 1) = l.take j ++ [x] := by rw [List.take_add_one, HX.out]; rfl
      refine ⟨⟨j + 1, ?_, by simp, by omega, trivial⟩, by simp [intOf]; omega⟩
      rw [ht, bval_app, shl_byte hpow x.toNat_lt]
    · obtain rfl : j = l.length := by omega
      have hnum := rNum_read HD.out h8 ht
      rw [← HL.out] at hnum
      have HNUM := Lib.hid hnum
      clear hnum
      simp only [List.take_length]
      cases l with
      | nil =>
        rw [show bval [] = 0 from rfl]
        have hb0 : b.toNat = 0 := hll.symm
        have HB0 := Lib.hid hb0
        rw [hb0]
        clear hll hb0 q
        go_wp2_with fail
        go_ret
        have h : rNum bs a 0 = (0, a + 1 + b.toNat, 0) := by have := HNUM.out; simpa [bval] using this
        rw [h]
        exact ⟨rfl, H3.out, HE3.out⟩
      | cons x l' =>
        obtain ⟨g3, o3, rfl, hg3, hl3, hc3⟩ := R3.out.flat_at (show (x :: l')[0]? = some x from rfl)
        have d3 := hc3 0 _ rfl
        simp only [Nat.add_zero, Nat.zero_mul] at d3
        have q0 : (0 : Int) < ((x :: l').length : Int) := by rw [List.length_cons]; omega
        have q1 : ¬ ((x :: l').length : Int) < ((x :: l').length : Int) := by omega
        have q2 : ¬ (x :: l').length < (x :: l').length := by omega
        generalize (x :: l').length = N at *
        by_cases hx : x = 0
        · subst hx
          have HNUM2 : Hid (rNum bs a 0 = (0, a, 11)) := by have := HNUM.out; show _ = _; simpa using this
          generalize bval (0 :: l') = V at *
          clear HNUM hc3
          go_wp2_with fail
          refine (fail_yes H3.out hg 11).mono ?_
          rintro e w3 ⟨rfl, h3, h4⟩
          obtain ⟨v', e0, e1, e2, e3, y1, y2, hr⟩ := h3.cells
          have H4 := Lib.hid h3
          have HE4 : Hid (Ext (Only g) w w3) := HE3.out.trans h4 (fun _ _ e => e)
          clear h3 h4 hr
          go_wp2_with fail
          go_ret
          have S := H4.out.set_at hg a
          rw [HNUM2.out]
          exact ⟨rfl, S.1, HE4.out.trans S.2 (fun _ _ e => e)⟩
        · have q3 : ((x.toNat : Int) == 0) = false := by
            have : x.toNat ≠ 0 := fun h => hx (UInt8.toNat_inj.1 h)
            simpa using this
          have HNUM2 : Hid (rNum bs a 0 = if 9223372036854775807 < bval (x :: l') then (0, a, 5) else ((bval (x :: l') : Int), a + 1 + b.toNat, 0)) := by have := HNUM.out; show _ = _; rw [if_neg (by simpa using hx)] at this; exact this
          generalize bval (x :: l') = V at *
          clear HNUM hc3 hx
          by_cases hV : 9223372036854775807 < V
          · have q4 : (9223372036854775807 : Int) < (V : Int) := by omega
            go_wp2_with fail
            refine (fail_yes H3.out hg 5).mono ?_
            rintro e w3 ⟨rfl, h3, h4⟩
            obtain ⟨v', e0, e1, e2, e3, y1, y2, hr⟩ := h3.cells
            have H4 := Lib.hid h3
            have HE4 : Hid (Ext (Only g) w w3) := HE3.out.trans h4 (fun _ _ e => e)
            clear h3 h4 hr
            go_wp2_with fail
            go_ret
            have S := H4.out.set_at hg a
            rw [HNUM2.out, if_pos hV]
            exact ⟨rfl, S.1, HE4.out.trans S.2 (fun _ _ e => e)⟩
          · have q4 : ¬ (9223372036854775807 : Int) < (V : Int) := by omega
            have q5 : IntKind.i64.wrap (V : Int) = (V : Int) := IntWalk.i64_in _ (by omega)
            go_wp2_with fail
            go_ret
            rw [HNUM2.out, if_neg hV]
            exact ⟨rfl, H3.out, HE3.out⟩

set_option maxRecDepth 100000 in
theorem RNumber_calls (hR : RdrAt w ok g bs a err) (hg : ¬ ok g) (ha : a ≤ bs.length) : Calls Try.prog 87 #[.pointer (some ⟨g, 0, none⟩)] w (RPost ok g bs w (.int .i64 (rNum bs a err).1) (rNum bs a err).2) := by
  by_cases he : err = 0
  · subst he
    cases hd : bs.drop a with
    | nil =>
      rw [rNum_of (r := (0, 0, 2)) (by rw [hd]; rfl)]
      exact RNumber_end hR hg (by have := congrArg List.length hd; rw [List.length_drop, List.length_nil] at this; omega) ha
    | cons b t =>
      by_cases h8 : 8 < b.toNat
      · rw [rNum_of (r := (0, 0, 11)) (by rw [hd]; simp only [numR]; rw [if_pos h8])]
        exact RNumber_form hR hg hd h8
      · by_cases ht : t.length < b.toNat
        · rw [rNum_of (r := (0, 0, 2)) (by rw [hd]; simp only [numR]; rw [if_neg h8, if_pos ht])]
          exact RNumber_short hR hg hd (by omega) ht
        · exact RNumber_read hR hg hd (by omega) (by omega)
  · rw [show rNum bs a err = (0, a, err) from by unfold rNum; rw [if_pos he]]
    exact RNumber_bad hR he
set_option maxRecDepth 100000 in
theorem rNum_le (ha : a ≤ bs.length) : (rNum bs a err).2.1 ≤ bs.length ∧ 0 ≤ (rNum bs a err).1 ∧ (rNum bs a err).1 ≤ 9223372036854775807 ∧ a ≤ (rNum bs a err).2.1 := by
  unfold rNum
  split
  · exact ⟨ha, by simp, by simp, by simp⟩
  split
  · exact ⟨ha, by simp, by simp, by simp⟩
  · rename_i h
    generalize hr : numR (bs.drop a) = r at h ⊢
    obtain ⟨n, k, e⟩ := r
    have he : e = 0 := by simpa using h
    subst he
    obtain ⟨h1, h2, _, h3⟩ := numR_ok hr
    rw [List.length_drop] at h2
    refine ⟨?_, ?_, ?_, ?_⟩ <;> simp <;> omega
end
end Go.Proofs.Ytdjfijdnhfmeeaa

