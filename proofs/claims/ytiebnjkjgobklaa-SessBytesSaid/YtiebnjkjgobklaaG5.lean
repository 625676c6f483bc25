/- The document's Put. -/
import Derived.Test.YtiebnjkjgobklaaB6
import Derived.Test.YtiebnjkjgobklaaD3
import Derived.Test.YtiebnjkjgobklaaR4
import Derived.Deep.Cut
namespace Go.Proofs.Ytiebnjkjgobklaa
open Go.RowKit Go.TM

theorem info3 : (Try.prog.info? 3).map (fun i => (i.zero, i.size, i.bytes)) = some (some (.int .i64 0), Kd.i64.sz, 8) := by kernel_rfl
theorem own_ints {w : World} {ok : Nat → Prop} {base : Nat} (ns : List Int) (cs : Array Value) (hcs : cs = (ns.map (Value.int .i64)).toArray) (hb : base ≤ w.heap.size) (hok : ok w.heap.size) (hl : ns.length ≤ 9223372036854775807) :
    Own Kd.i64 3 (w.alloc (.cells cs 3)) base ok (.slice (some ⟨w.heap.size, 0, none⟩) ns.length ns.length) ns := by
  subst hcs
  have e : ns.flatMap (fun n => [Value.int .i64 n]) = ns.map (Value.int .i64) := by
    clear hl
    induction ns with
    | nil => rfl
    | cons a l ih => rw [List.flatMap_cons, List.map_cons, ih]; rfl
  have hr : Reps Kd.i64 w ok ns (ns.map (Value.int .i64)) := by
    have := Reps.flat (sz := 1) (enc := fun n : Int => [Value.int .i64 n]) (hl := fun _ => rfl) (h1 := by simp [Value.oneCell']) (w := w) (ok := ok) ns
    rw [e] at this
    exact this
  exact Own.lit hr hb hl hok

set_option maxHeartbeats 4000000 in
theorem RPut_calls {w : World} {ok : Nat → Prop} {g : Nat} {t : Tab} (hT : RefAt w ok g t) (HG : Good t.seats t.last) (HV : Vals t.seats) {A : Option Addr} {c : Nat} {bs : List UInt8} (H : Rd Kd.u8 w ok (.slice A bs.length c) bs)
    (hbl : bs.length ≤ 1000000000000) (hf : ∀ k, w.heap.size ≤ k → ok k) :
    Calls Try.prog 34 #[.pointer (some ⟨g, 0, none⟩), .slice A bs.length c] w (RdPost ok (bs ++ putB t) w) := by
  have HT := Lib.hid hT
  have HH := Lib.hid H
  have HF := Lib.hid hf
  have HVV := Lib.hid HV
  have h8 := HG.few
  have hl0 := HG.last0
  have hl1 := HG.last1
  obtain ⟨v, hb, hr⟩ := hT
  obtain ⟨At, ct, rfl, hc, hm⟩ := hr.slice
  have c0 := blk_cell hb 0
  have c1 := blk_cell hb 1
  have hgl := blk_lt hb
  simp at c0 c1
  have HB := Lib.hid hb
  have HR := Lib.hid hr
  clear hb hr H hf HV
  go_enter Try.func34, Try.ntmps34
  go_upto_region 1 with fail
  go_region_held3 (fun W => W.cell? ⟨g, 0, none⟩ = some (.int .i64 t.last) ∧ W.cell? ⟨g, 1, none⟩ = some (.slice At t.seats.length ct)) (first | exact ⟨c0, c1⟩ | exact ⟨by go_simp, by go_simp⟩) (fail)
  have O1 : Hid (Own Kd.i64 3 (w.drew.alloc (.cells #[.int .i64 t.last, .int .i64 (t.seats.length : Int)] 3)) w.heap.size ok (.slice (some ⟨w.heap.size, 0, none⟩) 2 2) [t.last, (t.seats.length : Int)]) := own_ints (w := w.drew) [t.last, (t.seats.length : Int)] _ rfl (Nat.le_refl _) (HF.out _ (Nat.le_refl _)) (by simp)
  have E1 : Hid (Ext Non w (w.drew.alloc (.cells #[.int .i64 t.last, .int .i64 (t.seats.length : Int)] 3))) := ((Ext.refl _ _).drew).alloc _
  go_wp2_with fail
  go_loopw [5, 25] (fun v i wr => ∃ j : Nat, j ≤ t.seats.length ∧ i = .int .i64 (j : Int) ∧ Hid (Own Kd.i64 3 wr w.heap.size ok v ([t.last, (t.seats.length : Int)] ++ (t.seats.take j).flatMap four)) ∧ Hid (Ext Non w wr)) (fun _ i _ => t.seats.length - (intOf i).toNat)
  case atStart => exact ⟨0, by omega, rfl, O1.out, E1.out⟩
  case round =>
    obtain ⟨j, hj, rfl, HO, HE⟩ := hrel
    obtain ⟨Ai, ci, hvi, hci, hmi⟩ := HO.out.slice
    obtain ⟨ni, hni⟩ : ∃ ni, ([t.last, (t.seats.length : Int)] ++ (t.seats.take j).flatMap four).length = ni := ⟨_, rfl⟩
    rw [hni] at hvi hci
    subst hvi
    have HNI := Lib.hid hni
    have HNI2 : Hid (ni = 2 + 4 * j) := by rw [← hni, List.length_append, four_len, List.length_take, Nat.min_eq_left hj]; rfl
    have hni4 : ni ≤ 34 := by have := HNI2.out; omega
    clear hni
    by_cases hlt : j < t.seats.length
    · obtain ⟨s, hs⟩ : ∃ s, t.seats[j]? = some s := ⟨_, List.getElem?_eq_getElem hlt⟩
      obtain ⟨gs, off, rfl, _, f0, f1, f2, f3⟩ := seat_nat (HR.out.ext0 HE.out) hs
      have HX := Lib.hid hs
      have q0 : (j : Int) < (t.seats.length : Int) := by omega
      have q1 : (0 : Int) ≤ (j : Int) := by omega
      have hz := HE.out.size
      clear hs
      have e1 : (wr.alloc (.cells #[.int .i64 s.ses, .int .i64 s.seq, .int .i64 s.err, .int .i64 s.n] 47)).heap.size = wr.heap.size + 1 := by simp
      have LI2 : Hid (Rd Kd.i64 ((wr.alloc (.cells #[.int .i64 s.ses, .int .i64 s.seq, .int .i64 s.err, .int .i64 s.n] 47)).alloc (.cells #[.int .i64 s.ses, .int .i64 s.seq, .int .i64 s.err, .int .i64 s.n] 3)) (fun k => k = wr.heap.size + 1) (.slice (some ⟨wr.heap.size + 1, 0, none⟩) 4 4) (four s)) := by
        have := (own_ints (w := wr.alloc (.cells #[.int .i64 s.ses, .int .i64 s.seq, .int .i64 s.err, .int .i64 s.n] 47)) (ok := fun k => k = wr.heap.size + 1) (base := 0) (four s) _ rfl (Nat.zero_le _) e1 (by simp [four])).rd
        rw [e1] at this
        exact this
      go_wp2_with (first
        | (at_builtin
           refine wpList_app Kd.i64 (ok := ok) (v := .slice Ai ni ci) (vx := .slice (some ⟨wr.heap.size + 1, 0, none⟩) 4 4) (xs := [t.last, (t.seats.length : Int)] ++ (t.seats.take j).flatMap four) (ys := four s) w.heap.size rfl _ _ 80 3 _ 8 rfl Try.underlying80 info3 rfl (by decide) (by simp [Act.eval]) (by simp [Act.eval]) (HO.out.ext0 (((Ext.refl _ _).alloc _).alloc _)) (LI2.out.mono (fun k hk => ⟨HF.out k (by omega), fun e => by have := (HO.out.base_le k e.symm).2; omega⟩)) (fun k hk => HF.out k (by simp at hk; omega)) (by have := HNI.out; rw [this]; simp only [four, List.length_cons, List.length_nil]; omega) (by have := HNI.out; rw [this]; simp only [four, List.length_cons, List.length_nil]; omega) (by simp; omega) ?_
           intro v' w' hown hext hblk)
        | fail)
      have O2 : Hid (Own Kd.i64 3 w' w.heap.size ok v' ([t.last, (t.seats.length : Int)] ++ (t.seats.take (j + 1)).flatMap four)) := by
        have : [t.last, (t.seats.length : Int)] ++ (t.seats.take (j + 1)).flatMap four = ([t.last, (t.seats.length : Int)] ++ (t.seats.take j).flatMap four) ++ four s := by
          rw [List.take_add_one, HX.out]
          simp [List.flatMap_append]
        rw [this]
        exact hown
      have E2 : Hid (Ext Non w w') := ((HE.out.alloc _).alloc _).trans hext (fun i hi e => by have := (HO.out.base_le i e.symm).1; omega)
      clear hown hext hblk LI2
      go_roundw
      case rel => exact ⟨j + 1, by omega, by simp, O2.out, E2.out⟩
      case measure => simp [intOf]; omega
    · obtain rfl : j = t.seats.length := by omega
      clear hlt
      obtain ⟨ns, hns⟩ : ∃ ns, [t.last, (t.seats.length : Int)] ++ (t.seats.take t.seats.length).flatMap four = ns := ⟨_, rfl⟩
      have hput : ns.flatMap numI = putB t := by rw [← hns, List.take_length]; rfl
      have hval : ∀ n ∈ ns, -9223372036854775808 ≤ n ∧ n ≤ 9223372036854775807 := by
        rw [← hns, List.take_length]
        intro x hx
        rcases List.mem_append.1 hx with hx | hx
        · simp at hx
          omega
        · obtain ⟨y, hy, hy'⟩ := List.mem_flatMap.1 hx
          have h5 := HVV.out y hy
          have h6 := HG.high y hy
          have h7 := HG.seq1 y hy
          have h8 := HG.seq0 y hy
          have h9 := HG.low y hy
          simp [four] at hy'
          omega
      rw [hns] at HO HNI
      have HNS := Lib.hid (HO.out.rd.ext0 (Ext.refl Non wr))
      have HPUT := Lib.hid hput
      have HVAL := Lib.hid hval
      have HE1 := HE
      obtain ⟨w5, hw5⟩ : ∃ w5, w5 = wr := ⟨_, rfl⟩
      subst hw5
      have hz := HE.out.size
      clear hns hput hval HO
      go_wp2_with fail
      go_loopw [1, 45] (fun v i wr => ∃ (j : Nat) (A1 : Option Addr) (N1 c1 : Nat), j ≤ ni ∧ i = .int .i64 (j : Int) ∧ v = .slice A1 N1 c1 ∧ Hid (N1 = (bs ++ (ns.take j).flatMap numI).length) ∧ Hid (Rd Kd.u8 wr ok (.slice A1 N1 c1) (bs ++ (ns.take j).flatMap numI)) ∧ Hid (Ext Non w5 wr)) (fun _ i _ => ni - (intOf i).toNat)
      case atStart => exact ⟨0, A, bs.length, c, by omega, rfl, rfl, by simp [Hid], by simpa [Hid] using HH.out.ext0 HE1.out, Ext.refl _ _⟩
      case round =>
        obtain ⟨i, A1, N1, c1, hi, rfl, rfl, HL, HR2, HE2⟩ := hrel
        by_cases hlt : i < ni
        · obtain ⟨n, hn⟩ : ∃ n, ns[i]? = some n := ⟨_, List.getElem?_eq_getElem (by rw [HNI.out]; exact hlt)⟩
          obtain ⟨gl, off, rfl, _, hgl, hc⟩ := (HNS.out.ext0 HE2.out).flat_at hn
          have d0 := hc 0 _ rfl
          simp only [Nat.add_zero, Nat.mul_one] at d0
          obtain ⟨b0, b1⟩ := HVAL.out n (List.mem_of_getElem? hn)
          have HX := Lib.hid hn
          have q0 : (i : Int) < (ni : Int) := by omega
          have q1 : (0 : Int) ≤ (i : Int) := by omega
          have hlen : (bs ++ (ns.take i).flatMap numI).length ≤ 1099511627776 := by
            have := nums_le (ns.take i) (fun x hx => (HVAL.out x (List.mem_of_mem_take hx)).2)
            rw [List.length_append]
            rw [List.length_take] at this
            omega
          have HLEN := Lib.hid hlen
          have hz2 := HE2.out.size
          clear hc hn hlen
          go_wp2_with fail
          have HC := NumberR_calls (w := wr) (ok := ok) (A := A1) (c := c1) (n := N1) (bs := bs ++ (ns.take i).flatMap numI) HR2.out n b0 b1 HLEN.out (fun k hk => HF.out k (by omega))
          refine HC.mono ?_
          rintro e w2 ⟨v', rfl, h3, h4⟩
          have ht : (bs ++ (ns.take i).flatMap numI) ++ numB n.toNat = bs ++ (ns.take (i + 1)).flatMap numI := by
            rw [List.take_add_one, HX.out]
            simp [numI]
          rw [ht] at h3
          obtain ⟨A2, c2, rfl, hc2, hm2⟩ := h3.slice
          obtain ⟨N2, hN2⟩ : ∃ N2, (bs ++ (ns.take (i + 1)).flatMap numI).length = N2 := ⟨_, rfl⟩
          rw [hN2] at h3 ⊢
          have HN2 := Lib.hid hN2
          have R3 := Lib.hid h3.rd
          have E3 := Lib.hid (HE2.out.trans0 h4)
          clear h3 h4 hN2 ht hc2 hm2 HC
          go_wp2_with fail
          go_roundw
          case rel => exact ⟨i + 1, A2, N2, c2, by omega, by simp, rfl, HN2.out.symm, R3.out, E3.out⟩
          case measure => simp [intOf]; omega
        · obtain rfl : i = ni := by omega
          go_wp2_with fail
          go_ret
          have R := HR2.out
          rw [show ns.take i = ns from by rw [← HNI.out, List.take_length], HPUT.out] at R
          exact ⟨_, rfl, R, HE1.out.trans0 HE2.out⟩
end Go.Proofs.Ytiebnjkjgobklaa
