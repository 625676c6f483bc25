/- wire.Flag, the document's Flag, a reader's Flag; wire.Numbers. Turned from the seat of wire. -/
import Derived.Test.YtdjfijdnhfmeeaaWB
namespace Go.Proofs.Ytdjfijdnhfmeeaa
open Go.RowKit Go.TM
def flagN (b : Bool) : Nat := if b then 1 else 0
set_option maxRecDepth 100000 in
theorem Flag_calls {w : World} {ok : Nat → Prop} {A : Option Addr} {n c : Nat} {bs : List UInt8} (H : Rd Kd.u8 w ok (.slice A n c) bs) (b : Bool) (hbl : bs.length ≤ 1099511627776) (hf : ∀ k, w.heap.size ≤ k → ok k) :
    Calls Try.prog 67 #[.slice A n c, .bool b] w (NumPost ok (bs ++ numB (flagN b)) w) := by
  obtain ⟨A', c', he, hc', hm⟩ := H.slice
  simp only [Value.slice.injEq] at he
  obtain ⟨rfl, rfl, rfl⟩ := he
  have HH := Lib.hid H
  have HF := Lib.hid hf
  clear H hf
  cases b
  · go_enter Try.func67, Try.ntmps67
    go_wp2_with fail
    refine (Number_calls HH.out 0 (by omega) (by omega) hbl HF.out).mono ?_
    rintro e w1 ⟨v1, rfl, ho, he⟩
    have O1 := Lib.hid ho
    have E1 := Lib.hid he
    clear ho he
    go_wp2_with fail
    go_ret
    exact ⟨_, rfl, O1.out, E1.out⟩
  · go_enter Try.func67, Try.ntmps67
    go_wp2_with fail
    refine (Number_calls HH.out 1 (by omega) (by omega) hbl HF.out).mono ?_
    rintro e w1 ⟨v1, rfl, ho, he⟩
    have O1 := Lib.hid ho
    have E1 := Lib.hid he
    clear ho he
    go_wp2_with fail
    go_ret
    exact ⟨_, rfl, O1.out, E1.out⟩
set_option maxRecDepth 100000 in
theorem FlagR_calls {w : World} {ok : Nat → Prop} {A : Option Addr} {n c : Nat} {bs : List UInt8} (H : Rd Kd.u8 w ok (.slice A n c) bs) (b : Bool) (hbl : bs.length ≤ 1099511627776) (hf : ∀ k, w.heap.size ≤ k → ok k) :
    Calls Try.prog 70 #[.slice A n c, .bool b] w (NumPost ok (bs ++ numB (flagN b)) w) := by
  have HH := Lib.hid H
  have HF := Lib.hid hf
  clear H hf
  cases b
  · go_enter Try.func70, Try.ntmps70
    go_wp2_with fail
    refine (NumberR_calls HH.out 0 (by omega) (by omega) hbl HF.out).mono ?_
    rintro e w1 ⟨v1, rfl, ho, he⟩
    have O1 := Lib.hid ho
    have E1 := Lib.hid he
    clear ho he
    go_wp2_with fail
    go_ret
    exact ⟨_, rfl, O1.out, E1.out⟩
  · go_enter Try.func70, Try.ntmps70
    go_wp2_with fail
    refine (NumberR_calls HH.out 1 (by omega) (by omega) hbl HF.out).mono ?_
    rintro e w1 ⟨v1, rfl, ho, he⟩
    have O1 := Lib.hid ho
    have E1 := Lib.hid he
    clear ho he
    go_wp2_with fail
    go_ret
    exact ⟨_, rfl, O1.out, E1.out⟩
section
variable {w : World} {ok : Nat → Prop} {g : Nat} {bs : List UInt8} {a : Nat} {err : Int}
def rFlag (bs : List UInt8) (a : Nat) (err : Int) : Bool × Nat × Int :=
  if (rNum bs a err).2.2 ≠ 0 then (false, (rNum bs a err).2.1, (rNum bs a err).2.2) else if 1 < (rNum bs a err).1 then (false, a, 11) else ((rNum bs a err).1 == 1, (rNum bs a err).2.1, 0)
set_option maxHeartbeats 1000000 in
set_option maxRecDepth 100000 in
theorem RFlag_calls (hR : RdrAt w ok g bs a err) (hg : ¬ ok g) (ha : a ≤ bs.length) : Calls Try.prog 74 #[.pointer (some ⟨g, 0, none⟩)] w (RPost ok g bs w (.bool (rFlag bs a err).1) (rFlag bs a err).2) := by
  obtain ⟨v, c0, c1, c2, c3, y1, y2, hr⟩ := hR.cells
  have HR := Lib.hid hR
  obtain ⟨s, hs⟩ : ∃ s, s = rNum bs a err := ⟨_, rfl⟩
  have hw : rFlag bs a err = if s.2.2 ≠ 0 then (false, s.2.1, s.2.2) else if 1 < s.1 then (false, a, 11) else (s.1 == 1, s.2.1, 0) := by rw [hs]; rfl
  have HS := Lib.hid hs
  have HW := Lib.hid hw
  clear hR hr hs hw
  go_enter Try.func74, Try.ntmps74
  go_wp2_with (first | (go_at_call 77; refine (rdead_at g _ true c3).mono ?_; rintro e w1 ⟨rfl, rfl⟩) | fail)
  refine (RNumber_calls HR.out hg ha).mono ?_
  rw [← HS.out]
  clear HS
  obtain ⟨n, a', e'⟩ := s
  rintro e w1 ⟨rfl, h1, h2⟩
  obtain ⟨v1, d0, d1, d2, d3, z1, z2, hr⟩ := h1.cells
  have R1 := Lib.hid h1
  have E1 := Lib.hid h2
  simp only [] at d1 d2 ⊢
  clear h1 h2 hr c0 c1 c2 c3 y1 y2
  by_cases he : e' = 0
  · subst he
    by_cases hlo : 1 < n
    · have hW : rFlag bs a err = (false, a, 11) := by rw [HW.out]; simp [hlo]
      have HW2 := Lib.hid hW
      clear hW HW
      go_wp2_with fail
      have S := R1.out.set_at hg a
      refine (fail_yes S.1 hg 11).mono ?_
      rintro e w2 ⟨rfl, h3, h4⟩
      obtain ⟨v1, d0, d1, d2, d3, z1, z2, hr⟩ := h3.cells
      have R2 := Lib.hid h3
      have E2 : Hid (Ext (Only g) w w2) := (E1.out.trans S.2 (fun _ _ e => e)).trans h4 (fun _ _ e => e)
      clear h3 h4 S hr
      go_wp2_with fail
      go_ret
      rw [HW2.out]
      exact ⟨rfl, R2.out, E2.out⟩
    · have hW : rFlag bs a err = (n == 1, a', 0) := by rw [HW.out]; simp [hlo]
      have HW2 := Lib.hid hW
      clear hW HW
      go_wp2_with fail
      go_ret
      rw [HW2.out]
      exact ⟨rfl, R1.out, E1.out⟩
  · have q1 : (e' == 0) = false := by simpa using he
    have hW : rFlag bs a err = (false, a', e') := by rw [HW.out]; simp [he]
    have HW2 := Lib.hid hW
    clear hW HW he
    go_wp2_with fail
    go_ret
    rw [HW2.out]
    exact ⟨rfl, R1.out, E1.out⟩

end
set_option maxHeartbeats 1000000 in
set_option maxRecDepth 100000 in
theorem Numbers_calls {w : World} {ok : Nat → Prop} {A B : Option Addr} {c d : Nat} {bs : List UInt8} {ns : List Int} (H : Rd Kd.u8 w ok (.slice A bs.length c) bs) (HN : Rd Kd.i64 w ok (.slice B ns.length d) ns)
    (hn : ∀ n ∈ ns, -9223372036854775808 ≤ n ∧ n ≤ 9223372036854775807) (hbl : bs.length + 9 * ns.length ≤ 1099511627776) (hf : ∀ k, w.heap.size ≤ k → ok k) :
    Calls Try.prog 63 #[.slice A bs.length c, .slice B ns.length d] w (RdPost ok (bs ++ ns.flatMap numI) w) := by
  have HH := Lib.hid H
  have HNN := Lib.hid HN
  have HB := Lib.hid hn
  have HF := Lib.hid hf
  clear H HN hn hf
  go_enter Try.func63, Try.ntmps63
  go_wp2_with fail
  go_loopw [0, 9] (fun v i wr => ∃ (j : Nat) (A1 : Option Addr) (N1 c1 : Nat), j ≤ ns.length ∧ i = .int .i64 (j : Int) ∧ v = .slice A1 N1 c1 ∧ Hid (N1 = (bs ++ (ns.take j).flatMap numI).length) ∧ Hid (Rd Kd.u8 wr ok (.slice A1 N1 c1) (bs ++ (ns.take j).flatMap numI)) ∧ Hid (Ext Non w wr)) (fun _ i _ => ns.length - (intOf i).toNat)
  case atStart => exact ⟨0, A, bs.length, c, by omega, rfl, rfl, by simp [Hid], by simpa [Hid] using HH.out, Ext.refl _ _⟩
  case round =>
    obtain ⟨j, A1, N1, c1, hj, rfl, rfl, HL, HR, HE⟩ := hrel
    by_cases hlt : j < ns.length
    · obtain ⟨n, hn⟩ : ∃ n, ns[j]? = some n := ⟨_, List.getElem?_eq_getElem hlt⟩
      obtain ⟨gl, off, rfl, _, hgl, hc⟩ := (HNN.out.ext0 HE.out).flat_at hn
      have d0 := hc 0 _ rfl
      simp only [Nat.add_zero, Nat.mul_one] at d0
      obtain ⟨b0, b1⟩ := HB.out n (List.mem_of_getElem? hn)
      have HX := Lib.hid hn
      have q0 : (j : Int) < (ns.length : Int) := by omega
      have q1 : (0 : Int) ≤ (j : Int) := by omega
      have hlen : (bs ++ (ns.take j).flatMap numI).length ≤ 1099511627776 := by
        have := nums_le (ns.take j) (fun x hx => (HB.out x (List.mem_of_mem_take hx)).2)
        rw [List.length_append]
        rw [List.length_take] at this
        omega
      have HLEN := Lib.hid hlen
      have hz := HE.out.size
      clear hc hn hlen
      go_wp2_with fail
      have HC := Number_calls (w := wr) (ok := ok) (A := A1) (c := c1) (bs := bs ++ (ns.take j).flatMap numI) (by rw [← HL.out]; exact HR.out) n b0 b1 HLEN.out (fun k hk => HF.out k (by omega))
      rw [← HL.out] at HC
      refine HC.mono ?_
      rintro e w2 ⟨v', rfl, h3, h4⟩
      have ht : (bs ++ (ns.take j).flatMap numI) ++ numB n.toNat = bs ++ (ns.take (j + 1)).flatMap numI := by
        rw [List.take_add_one, HX.out]
        simp [numI]
      rw [ht] at h3
      obtain ⟨A2, c2, rfl, hc2, hm2⟩ := h3.slice
      obtain ⟨N2, hN2⟩ : ∃ N2, (bs ++ (ns.take (j + 1)).flatMap numI).length = N2 := ⟨_, rfl⟩
      rw [hN2] at h3 ⊢
      have HN2 := Lib.hid hN2
      have R3 := Lib.hid h3.rd
      have E3 := Lib.hid (HE.out.trans0 h4)
      clear h3 h4 hN2 ht hc2 hm2 HC
      go_wp2_with fail
      go_roundw
      case rel => exact ⟨j + 1, A2, N2, c2, by omega, by simp, rfl, HN2.out.symm, R3.out, E3.out⟩
      case measure => simp [intOf]; omega
    · obtain rfl : j = ns.length := by omega
      go_wp2_with fail
      go_ret
      have R := HR.out
      rw [List.take_length] at R
      exact ⟨_, rfl, R, HE.out⟩
end Go.Proofs.Ytdjfijdnhfmeeaa
