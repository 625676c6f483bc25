/- sess: Put: the bytes are its own. -/
import Derived.Test.YtiebnjkjgobklaaB6
namespace Go.Proofs.Ytiebnjkjgobklaa
open Go.RowKit Go.TM

set_option maxHeartbeats 1000000 in
theorem Numbers_own {w : World} {ok : Nat → Prop} {A B : Option Addr} {c d : Nat} {bs : List UInt8} {ns : List Int} (H : Rd Kd.u8 w ok (.slice A bs.length c) bs) (HN : Rd Kd.i64 w ok (.slice B ns.length d) ns)
    (hn : ∀ n ∈ ns, -9223372036854775808 ≤ n ∧ n ≤ 9223372036854775807) (hbl : bs.length + 9 * ns.length ≤ 1099511627776) (hf : ∀ k, w.heap.size ≤ k → ok k) (h0 : 0 < ns.length) :
    Calls Try.prog 40 #[.slice A bs.length c, .slice B ns.length d] w (NumPost ok (bs ++ ns.flatMap numI) w) := by
  have HH := Lib.hid H
  have HNN := Lib.hid HN
  have HB := Lib.hid hn
  have HF := Lib.hid hf
  clear H HN hn hf
  go_enter Try.func40, Try.ntmps40
  go_wp2_with fail
  go_loopw [0, 9] (fun v i wr => ∃ (j : Nat) (A1 : Option Addr) (N1 c1 : Nat), j ≤ ns.length ∧ i = .int .i64 (j : Int) ∧ v = .slice A1 N1 c1 ∧ Hid (N1 = (bs ++ (ns.take j).flatMap numI).length) ∧ Hid (Rd Kd.u8 wr ok (.slice A1 N1 c1) (bs ++ (ns.take j).flatMap numI)) ∧ Hid (Ext Non w wr) ∧ Hid (0 < j → Own Kd.u8 5 wr w.heap.size ok (.slice A1 N1 c1) (bs ++ (ns.take j).flatMap numI))) (fun _ i _ => ns.length - (intOf i).toNat)
  case atStart => exact ⟨0, A, bs.length, c, by omega, rfl, rfl, by simp [Hid], by simpa [Hid] using HH.out, Ext.refl _ _, fun h => absurd h (by omega)⟩
  case round =>
    obtain ⟨j, A1, N1, c1, hj, rfl, rfl, HL, HR, HE, HOW⟩ := hrel
    by_cases hlt : j < ns.length
    · obtain ⟨n, hn⟩ : ∃ n, ns[j]? = some n := ⟨_, List.getElem?_eq_getElem hlt⟩
      obtain ⟨gl, off, rfl, _, hgl, hc⟩ := (HNN.out.ext0 HE.out).flat_at hn
      have d0 := hc 0 _ rfl
      simp only [Nat.add_zero, Nat.mul_one] at d0
      obtain ⟨b0, b1⟩ := HB.out n (List.mem_of_getElem? hn)
      have HX := Lib.hid hn
      have q0 : (j : Int) < (ns.length : Int) := by omega
      have q1 : (0 : Int) ≤ (j : Int) := by omega
      have hlen : (bs ++ (ns.take j).flatMap numI).length ≤ 1099511627776 := by
        have := nums_le (ns.take j) (fun x hx => (HB.out x (List.mem_of_mem_take hx)).2)
        rw [List.length_append]
        rw [List.length_take] at this
        omega
      have HLEN := Lib.hid hlen
      have hz := HE.out.size
      clear hc hn hlen
      go_wp2_with fail
      have HC := Number_calls (w := wr) (ok := ok) (A := A1) (c := c1) (bs := bs ++ (ns.take j).flatMap numI) (by rw [← HL.out]; exact HR.out) n b0 b1 HLEN.out (fun k hk => HF.out k (by omega))
      rw [← HL.out] at HC
      refine HC.mono ?_
      rintro e w2 ⟨v', rfl, h3, h4⟩
      have ht : (bs ++ (ns.take j).flatMap numI) ++ numB n.toNat = bs ++ (ns.take (j + 1)).flatMap numI := by
        rw [List.take_add_one, HX.out]
        simp [numI]
      rw [ht] at h3
      obtain ⟨A2, c2, rfl, hc2, hm2⟩ := h3.slice
      obtain ⟨N2, hN2⟩ : ∃ N2, (bs ++ (ns.take (j + 1)).flatMap numI).length = N2 := ⟨_, rfl⟩
      rw [hN2] at h3 ⊢
      have HN2 := Lib.hid hN2
      have R3 := Lib.hid h3.rd
      have O3 := Lib.hid (h3.lower hz)
      have E3 := Lib.hid (HE.out.trans0 h4)
      clear h3 h4 hN2 ht hc2 hm2 HC
      go_wp2_with fail
      go_roundw
      case rel => exact ⟨j + 1, A2, N2, c2, by omega, by simp, rfl, HN2.out.symm, R3.out, E3.out, fun _ => O3.out⟩
      case measure => simp [intOf]; omega
    · obtain rfl : j = ns.length := by omega
      go_wp2_with fail
      go_ret
      have R := HOW.out h0
      rw [List.take_length] at R
      exact ⟨_, rfl, R, HE.out⟩
set_option maxHeartbeats 2000000 in
theorem Put_own {w : World} {ok : Nat → Prop} {g : Nat} {t : Tab} (hT : TabAt w ok g t) (HG : Good t.seats t.last) (HV : Vals t.seats) {A : Option Addr} {c : Nat} {bs : List UInt8} (H : Rd Kd.u8 w ok (.slice A bs.length c) bs)
    (hbl : bs.length ≤ 1000000000000) (hf : ∀ k, w.heap.size ≤ k → ok k) :
    Calls Try.prog 27 #[.pointer (some ⟨g, 0, none⟩), .slice A bs.length c] w (NumPost ok (bs ++ putB t) w) := by
  have HT := Lib.hid hT
  have HH := Lib.hid H
  have HF := Lib.hid hf
  have HVV := Lib.hid HV
  have h8 := HG.few
  have hl0 := HG.last0
  have hl1 := HG.last1
  obtain ⟨v, hb, hr⟩ := hT
  obtain ⟨At, ct, rfl, hc, hm⟩ := hr.slice
  have c0 := blk_cell hb 0
  have c1 := blk_cell hb 1
  have c2 := blk_cell hb 2
  have hgl := blk_lt hb
  simp at c0 c1 c2
  have HB := Lib.hid hb
  have HR := Lib.hid hr
  clear hb hr H hf HV
  go_enter Try.func27, Try.ntmps27
  go_wp2_with (first | (go_at_call 38; refine (dead_at g _ true c2).mono ?_; rintro e w1 ⟨rfl, rfl⟩) | fail)
  have d0 : w.drew.cell? ⟨g, 0, none⟩ = some (.slice At t.seats.length ct) := c0
  have d1 : w.drew.cell? ⟨g, 1, none⟩ = some (.int .i64 t.last) := c1
  have LI : Hid (Rd Kd.i64 (w.drew.alloc (.cells #[.int .i64 t.last, .int .i64 (t.seats.length : Int)] 3)) ok (.slice (some ⟨w.heap.size, 0, none⟩) 2 2) [t.last, (t.seats.length : Int)]) :=
    lit_ints [t.last, (t.seats.length : Int)] (heap_alloc_new w.drew _) (HF.out _ (Nat.le_refl _)) (by simp)
  go_region_held3 (fun W => W.cell? ⟨g, 0, none⟩ = some (.slice At t.seats.length ct) ∧ W.cell? ⟨g, 1, none⟩ = some (.int .i64 t.last)) (first | exact ⟨d0, d1⟩ | exact ⟨by go_simp, by go_simp⟩) (first
    | (go_at_call 40
       refine (Numbers_own (ok := ok) (ns := [t.last, (t.seats.length : Int)]) (HH.out.ext0 ((Ext.drew (Ext.refl Non w)).alloc _)) LI.out (by simp; omega) (by simp; omega) (fun k hk => HF.out k (by simp at hk; omega)) (by simp)).mono ?_
       rintro e w2 ⟨v', rfl, h3, h4⟩
       obtain ⟨A2, k2, rfl, hk2, hm2⟩ := h3.slice
       have E2 : Hid (Ext Non w w2) := ((Ext.drew (Ext.refl Non w)).alloc _).trans0 h4
       obtain ⟨N2, hN2⟩ : ∃ N2, (bs ++ List.flatMap numI [t.last, (t.seats.length : Int)]).length = N2 := ⟨_, rfl⟩
       rw [hN2] at h3 ⊢
       have HN2 := Lib.hid hN2
       have R2 := Lib.hid (h3.lower (base' := w.heap.size) (by simp))
       have d0 := E2.out.cell c0 (fun e => e)
       have d1 := E2.out.cell c1 (fun e => e)
       clear h3 h4 hk2 hm2 hN2)
    | fail)
  go_wp2_with fail
  go_loopw [1, 27] (fun v i wr => ∃ (j : Nat) (A1 : Option Addr) (N1 c1 : Nat), j ≤ t.seats.length ∧ i = .int .i64 (j : Int) ∧ v = .slice A1 N1 c1 ∧ Hid (N1 = (bs ++ (([t.last, (t.seats.length : Int)] ++ (t.seats.take j).flatMap four).flatMap numI)).length) ∧ Hid (Own Kd.u8 5 wr w.heap.size ok (.slice A1 N1 c1) (bs ++ (([t.last, (t.seats.length : Int)] ++ (t.seats.take j).flatMap four).flatMap numI))) ∧ Hid (Ext Non w wr)) (fun _ i _ => t.seats.length - (intOf i).toNat)
  case atStart => exact ⟨0, A2, N2, k2, by omega, rfl, rfl, by have := HN2.out; simpa [Hid] using this.symm, by have := R2.out; simpa [Hid] using this, E2.out⟩
  case round =>
    obtain ⟨j, A1, N1, c1, hj, rfl, rfl, HL, HRR, HE⟩ := hrel
    by_cases hlt : j < t.seats.length
    · obtain ⟨s, hs⟩ : ∃ s, t.seats[j]? = some s := ⟨_, List.getElem?_eq_getElem hlt⟩
      obtain ⟨gs, off, rfl, _, f0, f1, f2, f3⟩ := seat_nat (HR.out.ext0 HE.out) hs
      have HX := Lib.hid hs
      have hgo := HG.get hs
      obtain ⟨⟨v0, v1⟩, v2, v3⟩ := HVV.out s (List.mem_of_getElem? hs)
      have q0 : (j : Int) < (t.seats.length : Int) := by omega
      have q1 : (0 : Int) ≤ (j : Int) := by omega
      have hlen : (bs ++ (([t.last, (t.seats.length : Int)] ++ (t.seats.take j).flatMap four).flatMap numI)).length ≤ 1000000001000 := by
        have := nums_le ([t.last, (t.seats.length : Int)] ++ (t.seats.take j).flatMap four) (fun x hx => by
          rcases List.mem_append.1 hx with hx | hx
          · simp at hx
            omega
          · obtain ⟨y, hy, hy'⟩ := List.mem_flatMap.1 hx
            have hy2 := List.mem_of_mem_take hy
            have h5 := HVV.out y hy2
            have h6 := HG.high y hy2
            have h7 := HG.seq1 y hy2
            simp [four] at hy'
            omega)
        have h9 : ((t.seats.take j).flatMap four).length ≤ 32 := by
          rw [four_len, List.length_take]
          omega
        rw [List.length_append]
        rw [List.length_append] at this
        simp only [List.length_cons, List.length_nil] at this
        omega
      have HLEN := Lib.hid hlen
      have hz := HE.out.size
      clear hs hlen
      go_wp2_with fail
      have LI2 := lit_ints (w := (wr.alloc (.cells #[.int .i64 s.ses, .int .i64 s.seq, .int .i64 s.err, .int .i64 s.n] 47)).alloc (.cells #[.int .i64 s.ses, .int .i64 s.seq, .int .i64 s.err, .int .i64 s.n] 3)) (ok := ok) (four s) (by
        have := heap_alloc_new (wr.alloc (.cells #[.int .i64 s.ses, .int .i64 s.seq, .int .i64 s.err, .int .i64 s.n] 47)) (.cells #[.int .i64 s.ses, .int .i64 s.seq, .int .i64 s.err, .int .i64 s.n] 3)
        exact this) (HF.out _ (by simp; omega)) (by simp [four])
      have RB := HRR.out.rd.ext0 (((Ext.refl Non wr).alloc (.cells #[.int .i64 s.ses, .int .i64 s.seq, .int .i64 s.err, .int .i64 s.n] 47)).alloc (.cells #[.int .i64 s.ses, .int .i64 s.seq, .int .i64 s.err, .int .i64 s.n] 3))
      rw [HL.out] at RB
      have HC := Numbers_own (ok := ok) RB LI2 (fun x hx => by simp [four] at hx; omega) (by have := HLEN.out; simp only [four, List.length_cons, List.length_nil]; omega) (fun k hk => HF.out k (by simp at hk; omega)) (by simp [four])
      rw [← HL.out] at HC
      have e1 : (wr.alloc (.cells #[.int .i64 s.ses, .int .i64 s.seq, .int .i64 s.err, .int .i64 s.n] 47)).heap.size = wr.heap.size + 1 := by simp
      rw [e1] at HC
      refine HC.mono ?_
      rintro e w3 ⟨v', rfl, h3, h4⟩
      have ht : (bs ++ (([t.last, (t.seats.length : Int)] ++ (t.seats.take j).flatMap four).flatMap numI)) ++ (four s).flatMap numI = bs ++ (([t.last, (t.seats.length : Int)] ++ (t.seats.take (j + 1)).flatMap four).flatMap numI) := by
        rw [List.take_add_one, HX.out]
        simp [List.flatMap_append]
      rw [ht] at h3
      obtain ⟨A3, c3, rfl, hc3, hm3⟩ := h3.slice
      obtain ⟨N3, hN3⟩ : ∃ N3, (bs ++ (([t.last, (t.seats.length : Int)] ++ (t.seats.take (j + 1)).flatMap four).flatMap numI)).length = N3 := ⟨_, rfl⟩
      rw [hN3] at h3 ⊢
      have HN3 := Lib.hid hN3
      have R3 := Lib.hid (h3.lower (base' := w.heap.size) (by simp; omega))
      have E3 := Lib.hid (((HE.out.alloc _).alloc _).trans0 h4)
      clear h3 h4 hN3 ht hc3 hm3 HC LI2 RB
      go_wp2_with fail
      go_roundw
      case rel => exact ⟨j + 1, A3, N3, c3, by omega, by simp, rfl, HN3.out.symm, R3.out, E3.out⟩
      case measure => simp [intOf]; omega
    · obtain rfl : j = t.seats.length := by omega
      go_wp2_with fail
      go_ret
      have R := HRR.out
      rw [List.take_length] at R
      exact ⟨_, rfl, R, HE.out⟩
theorem Vals.of_small {l : List Seat} (h : ∀ s ∈ l, (0 ≤ s.err ∧ s.err ≤ 1000) ∧ 0 ≤ s.n ∧ s.n ≤ 1099511627776) : Vals l := fun s hs => by
  have := h s hs
  exact ⟨⟨by omega, by omega⟩, by omega, by omega⟩
end Go.Proofs.Ytiebnjkjgobklaa
