/- sess: Put. -/
import Derived.Test.YtiebnjkjgobklaaB5
namespace Go.Proofs.Ytiebnjkjgobklaa
open Go.RowKit Go.TM

theorem lit_ints {w : World} {ok : Nat → Prop} {g : Nat} {e : TypeId} {fr : Nat × Nat} (ns : List Int) (hb : w.heap[g]? = some (.cells (ns.map (Value.int .i64)).toArray e fr)) (hg : ok g) (hl : ns.length ≤ 9223372036854775807) :
    Rd Kd.i64 w ok (.slice (some ⟨g, 0, none⟩) ns.length ns.length) ns := by
  refine Rd.of_inner (inner := ns.flatMap (fun n => [Value.int .i64 n])) (Reps.flat ns) hg (blk_lt hb) (Nat.le_refl _) hl (fun j u hu => ?_)
  rw [Nat.zero_add, cell_of_row w g j _ e fr hb]
  have : ns.flatMap (fun n => [Value.int .i64 n]) = ns.map (Value.int .i64) := by
    clear hb hu hl
    induction ns with
    | nil => rfl
    | cons a l ih => rw [List.flatMap_cons, List.map_cons, ih]; rfl
  rw [this] at hu
  simpa using hu

def four (s : Seat) : List Int := [s.ses, s.seq, s.err, s.n]
theorem four_len : ∀ (l : List Seat), (l.flatMap four).length = 4 * l.length
  | [] => rfl
  | a :: l => by
    rw [List.flatMap_cons, List.length_append, four_len l, List.length_cons]
    show 4 + 4 * l.length = _
    omega
/-- A table's bytes. -/
def putB (t : Tab) : List UInt8 := ([t.last, (t.seats.length : Int)] ++ t.seats.flatMap four).flatMap numI

/-- The replies are i64. -/
def Vals (l : List Seat) : Prop := ∀ s ∈ l, (-9223372036854775808 ≤ s.err ∧ s.err ≤ 9223372036854775807) ∧ (-9223372036854775808 ≤ s.n ∧ s.n ≤ 9223372036854775807)

set_option maxHeartbeats 2000000 in
theorem Put_calls {w : World} {ok : Nat → Prop} {g : Nat} {t : Tab} (hT : TabAt w ok g t) (HG : Good t.seats t.last) (HV : Vals t.seats) {A : Option Addr} {c : Nat} {bs : List UInt8} (H : Rd Kd.u8 w ok (.slice A bs.length c) bs)
    (hbl : bs.length ≤ 1000000000000) (hf : ∀ k, w.heap.size ≤ k → ok k) :
    Calls Try.prog 27 #[.pointer (some ⟨g, 0, none⟩), .slice A bs.length c] w (RdPost ok (bs ++ putB t) w) := by
  have HT := Lib.hid hT
  have HH := Lib.hid H
  have HF := Lib.hid hf
  have HVV := Lib.hid HV
  have h8 := HG.few
  have hl0 := HG.last0
  have hl1 := HG.last1
  obtain ⟨v, hb, hr⟩ := hT
  obtain ⟨At, ct, rfl, hc, hm⟩ := hr.slice
  have c0 := blk_cell hb 0
  have c1 := blk_cell hb 1
  have c2 := blk_cell hb 2
  have hgl := blk_lt hb
  simp at c0 c1 c2
  have HB := Lib.hid hb
  have HR := Lib.hid hr
  clear hb hr H hf HV
  go_enter Try.func27, Try.ntmps27
  go_wp2_with (first | (go_at_call 38; refine (dead_at g _ true c2).mono ?_; rintro e w1 ⟨rfl, rfl⟩) | fail)
  have d0 : w.drew.cell? ⟨g, 0, none⟩ = some (.slice At t.seats.length ct) := c0
  have d1 : w.drew.cell? ⟨g, 1, none⟩ = some (.int .i64 t.last) := c1
  have LI : Hid (Rd Kd.i64 (w.drew.alloc (.cells #[.int .i64 t.last, .int .i64 (t.seats.length : Int)] 3)) ok (.slice (some ⟨w.heap.size, 0, none⟩) 2 2) [t.last, (t.seats.length : Int)]) :=
    lit_ints [t.last, (t.seats.length : Int)] (heap_alloc_new w.drew _) (HF.out _ (Nat.le_refl _)) (by simp)
  go_region_held3 (fun W => W.cell? ⟨g, 0, none⟩ = some (.slice At t.seats.length ct) ∧ W.cell? ⟨g, 1, none⟩ = some (.int .i64 t.last)) (first | exact ⟨d0, d1⟩ | exact ⟨by go_simp, by go_simp⟩) (first
    | (go_at_call 40
       refine (Numbers_calls (ok := ok) (ns := [t.last, (t.seats.length : Int)]) (HH.out.ext0 ((Ext.drew (Ext.refl Non w)).alloc _)) LI.out (by simp; omega) (by simp; omega) (fun k hk => HF.out k (by simp at hk; omega))).mono ?_
       rintro e w2 ⟨v', rfl, h3, h4⟩
       obtain ⟨A2, k2, rfl, hk2, hm2⟩ := h3.slice
       have E2 : Hid (Ext Non w w2) := ((Ext.drew (Ext.refl Non w)).alloc _).trans0 h4
       obtain ⟨N2, hN2⟩ : ∃ N2, (bs ++ List.flatMap numI [t.last, (t.seats.length : Int)]).length = N2 := ⟨_, rfl⟩
       rw [hN2] at h3 ⊢
       have HN2 := Lib.hid hN2
       have R2 := Lib.hid h3
       have d0 := E2.out.cell c0 (fun e => e)
       have d1 := E2.out.cell c1 (fun e => e)
       clear h3 h4 hk2 hm2 hN2)
    | fail)
  go_wp2_with fail
  go_loopw [1, 27] (fun v i wr => ∃ (j : Nat) (A1 : Option Addr) (N1 c1 : Nat), j ≤ t.seats.length ∧ i = .int .i64 (j : Int) ∧ v = .slice A1 N1 c1 ∧ Hid (N1 = (bs ++ (([t.last, (t.seats.length : Int)] ++ (t.seats.take j).flatMap four).flatMap numI)).length) ∧ Hid (Rd Kd.u8 wr ok (.slice A1 N1 c1) (bs ++ (([t.last, (t.seats.length : Int)] ++ (t.seats.take j).flatMap four).flatMap numI))) ∧ Hid (Ext Non w wr)) (fun _ i _ => t.seats.length - (intOf i).toNat)
  case atStart => exact ⟨0, A2, N2, k2, by omega, rfl, rfl, by have := HN2.out; simpa [Hid] using this.symm, by have := R2.out; simpa [Hid] using this, E2.out⟩
  case round =>
    obtain ⟨j, A1, N1, c1, hj, rfl, rfl, HL, HRR, HE⟩ := hrel
    by_cases hlt : j < t.seats.length
    · obtain ⟨s, hs⟩ : ∃ s, t.seats[j]? = some s := ⟨_, List.getElem?_eq_getElem hlt⟩
      obtain ⟨gs, off, rfl, _, f0, f1, f2, f3⟩ := seat_nat (HR.out.ext0 HE.out) hs
      have HX := Lib.hid hs
      have hgo := HG.get hs
      obtain ⟨⟨v0, v1⟩, v2, v3⟩ := HVV.out s (List.mem_of_getElem? hs)
      have q0 : (j : Int) < (t.seats.length : Int) := by omega
      have q1 : (0 : Int) ≤ (j : Int) := by omega
      have hlen : (bs ++ (([t.last, (t.seats.length : Int)] ++ (t.seats.take j).flatMap four).flatMap numI)).length ≤ 1000000001000 := by
        have := nums_le ([t.last, (t.seats.length : Int)] ++ (t.seats.take j).flatMap four) (fun x hx => by
          rcases List.mem_append.1 hx with hx | hx
          · simp at hx
            omega
          · obtain ⟨y, hy, hy'⟩ := List.mem_flatMap.1 hx
            have hy2 := List.mem_of_mem_take hy
            have h5 := HVV.out y hy2
            have h6 := HG.high y hy2
            have h7 := HG.seq1 y hy2
            simp [four] at hy'
            omega)
        have h9 : ((t.seats.take j).flatMap four).length ≤ 32 := by
          rw [four_len, List.length_take]
          omega
        rw [List.length_append]
        rw [List.length_append] at this
        simp only [List.length_cons, List.length_nil] at this
        omega
      have HLEN := Lib.hid hlen
      have hz := HE.out.size
      clear hs hlen
      go_wp2_with fail
      have LI2 := lit_ints (w := (wr.alloc (.cells #[.int .i64 s.ses, .int .i64 s.seq, .int .i64 s.err, .int .i64 s.n] 47)).alloc (.cells #[.int .i64 s.ses, .int .i64 s.seq, .int .i64 s.err, .int .i64 s.n] 3)) (ok := ok) (four s) (by
        have := heap_alloc_new (wr.alloc (.cells #[.int .i64 s.ses, .int .i64 s.seq, .int .i64 s.err, .int .i64 s.n] 47)) (.cells #[.int .i64 s.ses, .int .i64 s.seq, .int .i64 s.err, .int .i64 s.n] 3)
        exact this) (HF.out _ (by simp; omega)) (by simp [four])
      have RB := HRR.out.ext0 (((Ext.refl Non wr).alloc (.cells #[.int .i64 s.ses, .int .i64 s.seq, .int .i64 s.err, .int .i64 s.n] 47)).alloc (.cells #[.int .i64 s.ses, .int .i64 s.seq, .int .i64 s.err, .int .i64 s.n] 3))
      rw [HL.out] at RB
      have HC := Numbers_calls (ok := ok) RB LI2 (fun x hx => by simp [four] at hx; omega) (by have := HLEN.out; simp only [four, List.length_cons, List.length_nil]; omega) (fun k hk => HF.out k (by simp at hk; omega))
      rw [← HL.out] at HC
      have e1 : (wr.alloc (.cells #[.int .i64 s.ses, .int .i64 s.seq, .int .i64 s.err, .int .i64 s.n] 47)).heap.size = wr.heap.size + 1 := by simp
      rw [e1] at HC
      refine HC.mono ?_
      rintro e w3 ⟨v', rfl, h3, h4⟩
      have ht : (bs ++ (([t.last, (t.seats.length : Int)] ++ (t.seats.take j).flatMap four).flatMap numI)) ++ (four s).flatMap numI = bs ++ (([t.last, (t.seats.length : Int)] ++ (t.seats.take (j + 1)).flatMap four).flatMap numI) := by
        rw [List.take_add_one, HX.out]
        simp [List.flatMap_append]
      rw [ht] at h3
      obtain ⟨A3, c3, rfl, hc3, hm3⟩ := h3.slice
      obtain ⟨N3, hN3⟩ : ∃ N3, (bs ++ (([t.last, (t.seats.length : Int)] ++ (t.seats.take (j + 1)).flatMap four).flatMap numI)).length = N3 := ⟨_, rfl⟩
      rw [hN3] at h3 ⊢
      have HN3 := Lib.hid hN3
      have R3 := Lib.hid h3
      have E3 := Lib.hid (((HE.out.alloc _).alloc _).trans0 h4)
      clear h3 h4 hN3 ht hc3 hm3 HC LI2 RB
      go_wp2_with fail
      go_roundw
      case rel => exact ⟨j + 1, A3, N3, c3, by omega, by simp, rfl, HN3.out.symm, R3.out, E3.out⟩
      case measure => simp [intOf]; omega
    · obtain rfl : j = t.seats.length := by omega
      go_wp2_with fail
      go_ret
      have R := HRR.out
      rw [List.take_length] at R
      exact ⟨_, rfl, R, HE.out⟩
end Go.Proofs.Ytiebnjkjgobklaa
