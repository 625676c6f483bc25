/- wire.Numbers. -/
import Derived.Test.YtiebnjkjgobklaaB4
namespace Go.Proofs.Ytiebnjkjgobklaa
open Go.RowKit Go.TM

theorem be_le : ∀ (k m : Nat), m < 256 ^ k → (be m).length ≤ k
  | 0, m, h => by
    have : m = 0 := by simpa using h
    subst this
    rw [be_zero]
    simp
  | k + 1, m, h => by
    rcases Nat.eq_zero_or_pos m with h0 | h0
    · subst h0
      rw [be_zero]
      simp
    · rw [be_pos h0, List.length_append, List.length_singleton]
      have := be_le k (m / 256) (by rw [Nat.div_lt_iff_lt_mul (by omega)]; rwa [Nat.pow_succ] at h)
      omega
def numI (n : Int) : List UInt8 := numB n.toNat
theorem numI_le {n : Int} (h : n ≤ 9223372036854775807) : (numI n).length ≤ 9 := by
  unfold numI numB
  rw [List.length_cons]
  have := be_le 8 n.toNat (by have : (256 : Nat) ^ 8 = 18446744073709551616 := by decide
                              omega)
  omega
theorem nums_le : ∀ (ns : List Int), (∀ n ∈ ns, n ≤ 9223372036854775807) → (ns.flatMap numI).length ≤ 9 * ns.length
  | [], _ => by simp
  | n :: ns, h => by
    rw [List.flatMap_cons, List.length_append, List.length_cons]
    have h1 := numI_le (h n (by simp))
    have h2 := nums_le ns (fun x hx => h x (by simp [hx]))
    omega

def RdPost (ok : Nat → Prop) (bs : List UInt8) (w : World) (e : Ending) (w' : World) : Prop :=
  ∃ v', e = .returned v' ∧ Rd Kd.u8 w' ok v' bs ∧ Ext Non w w'

set_option maxHeartbeats 1000000 in
theorem Numbers_calls {w : World} {ok : Nat → Prop} {A B : Option Addr} {c d : Nat} {bs : List UInt8} {ns : List Int} (H : Rd Kd.u8 w ok (.slice A bs.length c) bs) (HN : Rd Kd.i64 w ok (.slice B ns.length d) ns)
    (hn : ∀ n ∈ ns, -9223372036854775808 ≤ n ∧ n ≤ 9223372036854775807) (hbl : bs.length + 9 * ns.length ≤ 1099511627776) (hf : ∀ k, w.heap.size ≤ k → ok k) :
    Calls Try.prog 40 #[.slice A bs.length c, .slice B ns.length d] w (RdPost ok (bs ++ ns.flatMap numI) w) := by
  have HH := Lib.hid H
  have HNN := Lib.hid HN
  have HB := Lib.hid hn
  have HF := Lib.hid hf
  clear H HN hn hf
  go_enter Try.func40, Try.ntmps40
  go_wp2_with fail
  go_loopw [0, 9] (fun v i wr => ∃ (j : Nat) (A1 : Option Addr) (N1 c1 : Nat), j ≤ ns.length ∧ i = .int .i64 (j : Int) ∧ v = .slice A1 N1 c1 ∧ Hid (N1 = (bs ++ (ns.take j).flatMap numI).length) ∧ Hid (Rd Kd.u8 wr ok (.slice A1 N1 c1) (bs ++ (ns.take j).flatMap numI)) ∧ Hid (Ext Non w wr)) (fun _ i _ => ns.length - (intOf i).toNat)
  case atStart => exact ⟨0, A, bs.length, c, by omega, rfl, rfl, by simp [Hid], by simpa [Hid] using HH.out, Ext.refl _ _⟩
  case round =>
    obtain ⟨j, A1, N1, c1, hj, rfl, rfl, HL, HR, HE⟩ := hrel
    by_cases hlt : j < ns.length
    · obtain ⟨n, hn⟩ : ∃ n, ns[j]? = some n := ⟨_, List.getElem?_eq_getElem hlt⟩
      obtain ⟨gl, off, rfl, _, hgl, hc⟩ := (HNN.out.ext0 HE.out).flat_at hn
      have d0 := hc 0 _ rfl
      simp only [Nat.add_zero, Nat.mul_one] at d0
      obtain ⟨b0, b1⟩ := HB.out n (List.mem_of_getElem? hn)
      have HX := Lib.hid hn
      have q0 : (j : Int) < (ns.length : Int) := by omega
      have q1 : (0 : Int) ≤ (j : Int) := by omega
      have hlen : (bs ++ (ns.take j).flatMap numI).length ≤ 1099511627776 := by
        have := nums_le (ns.take j) (fun x hx => (HB.out x (List.mem_of_mem_take hx)).2)
        rw [List.length_append]
        rw [List.length_take] at this
        omega
      have HLEN := Lib.hid hlen
      have hz := HE.out.size
      clear hc hn hlen
      go_wp2_with fail
      have HC := Number_calls (w := wr) (ok := ok) (A := A1) (c := c1) (bs := bs ++ (ns.take j).flatMap numI) (by rw [← HL.out]; exact HR.out) n b0 b1 HLEN.out (fun k hk => HF.out k (by omega))
      rw [← HL.out] at HC
      refine HC.mono ?_
      rintro e w2 ⟨v', rfl, h3, h4⟩
      have ht : (bs ++ (ns.take j).flatMap numI) ++ numB n.toNat = bs ++ (ns.take (j + 1)).flatMap numI := by
        rw [List.take_add_one, HX.out]
        simp [numI]
      rw [ht] at h3
      obtain ⟨A2, c2, rfl, hc2, hm2⟩ := h3.slice
      obtain ⟨N2, hN2⟩ : ∃ N2, (bs ++ (ns.take (j + 1)).flatMap numI).length = N2 := ⟨_, rfl⟩
      rw [hN2] at h3 ⊢
      have HN2 := Lib.hid hN2
      have R3 := Lib.hid h3.rd
      have E3 := Lib.hid (HE.out.trans0 h4)
      clear h3 h4 hN2 ht hc2 hm2 HC
      go_wp2_with fail
      go_roundw
      case rel => exact ⟨j + 1, A2, N2, c2, by omega, by simp, rfl, HN2.out.symm, R3.out, E3.out⟩
      case measure => simp [intOf]; omega
    · obtain rfl : j = ns.length := by omega
      go_wp2_with fail
      go_ret
      have R := HR.out
      rw [List.take_length] at R
      exact ⟨_, rfl, R, HE.out⟩
end Go.Proofs.Ytiebnjkjgobklaa
