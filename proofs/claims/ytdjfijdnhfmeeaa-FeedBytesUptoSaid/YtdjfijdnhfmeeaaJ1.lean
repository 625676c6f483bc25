/- Reading a filter: the program. -/
import Derived.Test.YtdjfijdnhfmeeaaHD
import Derived.Test.YtdjfijdnhfmeeaaL
namespace Go.Proofs.Ytdjfijdnhfmeeaa
open Go.RowKit Go.TM
theorem RNum_to {w : World} {ok : Nat → Prop} {g : Nat} {bs : List UInt8} {a : Nat} {err : Int} (hR : RdrAt w ok g bs a err) (hg : ¬ ok g) (ha : a ≤ bs.length) {n : Int} {a' : Nat} {e' : Int} (hx : rNum bs a err = (n, a', e')) :
    Calls Try.prog 87 #[.pointer (some ⟨g, 0, none⟩)] w fun e w' => e = .returned (.int .i64 n) ∧ RdrAt w' ok g bs a' e' ∧ Ext (Only g) w w' := by
  have h := RNumber_calls hR hg ha
  rw [hx] at h
  exact h
theorem RTxt_to {w : World} {ok : Nat → Prop} {g : Nat} {bs : List UInt8} {a : Nat} {err : Int} (hR : RdrAt w ok g bs a err) (hg : ¬ ok g) (ha : a ≤ bs.length) (most : Int) {s : List UInt8} {a' : Nat} {e' : Int} (hx : rText bs a err most = (s, a', e')) :
    Calls Try.prog 73 #[.pointer (some ⟨g, 0, none⟩), .int .i64 most] w fun e w' => e = .returned (.string ⟨s.toArray⟩) ∧ RdrAt w' ok g bs a' e' ∧ Ext (Only g) w w' := by
  have h := RText_calls hR hg ha most
  rw [hx] at h
  exact h
theorem RWit_to {w : World} {ok : Nat → Prop} {g : Nat} {bs : List UInt8} {a : Nat} {err : Int} (hR : RdrAt w ok g bs a err) (hg : ¬ ok g) (ha : a ≤ bs.length) (lo hi : Int) {n : Int} {a' : Nat} {e' : Int} (hx : rWithin bs a err lo hi = (n, a', e')) :
    Calls Try.prog 72 #[.pointer (some ⟨g, 0, none⟩), .int .i64 lo, .int .i64 hi] w fun e w' => e = .returned (.int .i64 n) ∧ RdrAt w' ok g bs a' e' ∧ Ext (Only g) w w' := by
  have h := RWithin_calls hR hg ha lo hi
  rw [hx] at h
  exact h
theorem RdrAt.far {w w' : World} {ok M : Nat → Prop} {g : Nat} {bs : List UInt8} {a : Nat} {err : Int} (h : RdrAt w ok g bs a err) (he : Ext M w w') (hg : ¬ M g) (hm : ∀ k, ok k → k < w.heap.size → ¬ M k) : RdrAt w' ok g bs a err := by
  obtain ⟨v, hb, hr⟩ := h
  exact ⟨v, he.obj hb hg, hr.ext he hm⟩
def TPost (k : Nat) (bs : List UInt8) (a : Nat) (e0 : Int) (ok : Nat → Prop) (g : Nat) (w : World) (e : Ending) (w' : World) : Prop :=
  ∃ v, e = .returned (.agg #[.int .i64 (rdT 32 bs k a e0).1.op, .string (rdT 32 bs k a e0).1.key, .string (rdT 32 bs k a e0).1.val, v]) ∧ Rd (fltK k) w' (fun j => w.heap.size ≤ j) v (rdT 32 bs k a e0).1.kids ∧
    RdrAt w' ok g bs (rdT 32 bs k a e0).2.1 (rdT 32 bs k a e0).2.2 ∧ Ext (Only g) w w'
def TakeAt (k : Nat) : Prop := ∀ (w : World) (ok : Nat → Prop) (g : Nat) (bs : List UInt8) (a : Nat) (e : Int) (d : Int), RdrAt w ok g bs a e → ¬ ok g → (∀ j, ok j → j < w.heap.size) → g < w.heap.size → a ≤ bs.length → d = 7 - (k : Int) → k ≤ 7 →
    Calls Try.prog 90 #[.pointer (some ⟨g, 0, none⟩), .int .i64 d] w (TPost k bs a e ok g w)
set_option maxRecDepth 100000 in
set_option maxHeartbeats 8000000 in
theorem take_zero : TakeAt 0 := by
  intro w ok g bs a e d hR hg hok hgl ha hd hk
  obtain ⟨l1, l2, l3, l4, l5, l6, l7, l8, l9⟩ := q4_le (bs := bs) (e := e) 32 ha
  obtain ⟨x1, hx1⟩ : ∃ x, q1 bs a e = x := ⟨_, rfl⟩
  obtain ⟨x2, hx2⟩ : ∃ x, q2 32 bs a e = x := ⟨_, rfl⟩
  obtain ⟨x3, hx3⟩ : ∃ x, q3 32 bs a e = x := ⟨_, rfl⟩
  obtain ⟨x4, hx4⟩ : ∃ x, q4 32 bs a e = x := ⟨_, rfl⟩
  rw [hx1] at l1 l8 l9
  rw [hx2] at l2
  rw [hx3] at l3
  rw [hx4] at l4 l5 l6 l7
  have hT : rdT 32 bs 0 a e = (.mk x1.1 ⟨x2.1.toArray⟩ ⟨x3.1.toArray⟩ [], x4.2) := by
    show (_ : Flt × Nat × Int) = _
    simp only [rdT, hx1, hx2, hx3, hx4]
  have HX1 : Hid (rNum bs a e = x1) := hx1
  have HX2 : Hid (rText bs x1.2.1 x1.2.2 32 = x2) := by rw [← hx1]; exact hx2
  have HX3 : Hid (rText bs x2.2.1 x2.2.2 192 = x3) := by rw [← hx2]; exact hx3
  have HX4 : Hid (rWithin bs x3.2.1 x3.2.2 0 24 = x4) := by rw [← hx3]; exact hx4
  obtain ⟨n1, a1, e1⟩ := x1
  obtain ⟨s2, a2, e2⟩ := x2
  obtain ⟨s3, a3, e3⟩ := x3
  obtain ⟨n4, a4, e4⟩ := x4
  obtain ⟨N, rfl⟩ : ∃ N : Nat, n4 = (N : Int) := ⟨n4.toNat, by have h : 0 ≤ n4 := l6; omega⟩
  have lN : N ≤ 24 := by have h : (N : Int) ≤ 24 := l7; omega
  have HT := Lib.hid hT
  have HL1 : Hid (a1 ≤ bs.length) := l1
  have HL2 : Hid (a2 ≤ bs.length) := l2
  have HL3 : Hid (a3 ≤ bs.length) := l3
  have HL4 : Hid (a4 ≤ bs.length) := l4
  have HR := Lib.hid hR
  have HO := Lib.hid hok
  clear l1 l2 l3 l4 l5 l6 l7 l8 l9 hx1 hx2 hx3 hx4 hT hR hok
  go_enter Try.func90, Try.ntmps90
  go_wp2_with fail
  obtain ⟨w0, hw0⟩ : ∃ w0, w.alloc (.cells #[.int .i64 0, .string ⟨#[]⟩, .string ⟨#[]⟩, .slice none 0 0] 24) = w0 := ⟨_, rfl⟩
  have hB0 : w0.heap[w.heap.size]? = some (.cells #[.int .i64 0, .string ⟨#[]⟩, .string ⟨#[]⟩, .slice none 0 0] 24) := by rw [← hw0]; exact blk_new _ _
  have hE0 : Ext Non w w0 := by rw [← hw0]; exact (Ext.refl _ _).alloc _
  rw [hw0]
  have B0 := Lib.hid hB0
  have E0 := Lib.hid hE0
  clear hw0 hB0 hE0
  refine (RNum_to (HR.out.ext E0.out) hg ha HX1.out).mono ?_
  rintro e' w1 ⟨rfl, h1, h2⟩
  have R1 := Lib.hid h1
  have E1 : Hid (Ext (Only g) w0 w1) := h2
  clear h1 h2
  go_wp2_with fail
  refine (RTxt_to R1.out hg HL1.out 32 HX2.out).mono ?_
  rintro e' w2 ⟨rfl, h1, h2⟩
  have R2 := Lib.hid h1
  have E2 : Hid (Ext (Only g) w0 w2) := E1.out.trans h2 (fun _ _ e => e)
  clear h1 h2
  go_wp2_with fail
  refine (RTxt_to R2.out hg HL2.out 192 HX3.out).mono ?_
  rintro e' w3 ⟨rfl, h1, h2⟩
  have R3 := Lib.hid h1
  have E3 : Hid (Ext (Only g) w0 w3) := E2.out.trans h2 (fun _ _ e => e)
  clear h1 h2
  obtain ⟨q, hq⟩ : ∃ q, w3.heap.size = q := ⟨_, rfl⟩
  have hsz0 := blk_lt B0.out
  have hsq : w0.heap.size ≤ q := by rw [← hq]; exact E3.out.size
  have HQ := Lib.hid hq
  obtain ⟨w4, hw4⟩ : ∃ w4, w3.alloc (.cells #[.int .i64 n1, .string ⟨s2.toArray⟩, .string ⟨s3.toArray⟩, .slice none 0 0] 24) = w4 := ⟨_, rfl⟩
  have hB4 : w4.heap[q]? = some (.cells #[.int .i64 n1, .string ⟨s2.toArray⟩, .string ⟨s3.toArray⟩, .slice none 0 0] 24) := by rw [← hw4, ← hq]; exact blk_new _ _
  have hE4 : Ext Non w3 w4 := by rw [← hw4]; exact (Ext.refl _ _).alloc _
  have R4 := Lib.hid (R3.out.ext hE4)
  have E4 : Hid (Ext (Only g) w0 w4) := E3.out.trans0 hE4
  have B4 := Lib.hid hB4
  have HW4 := Lib.hid hw4
  clear hq hw4 hB4 hE4
  go_wp2_with fail
  rw [HQ.out, HW4.out]
  refine (RWit_to R4.out hg HL3.out 0 24 HX4.out).mono ?_
  rintro e' w5 ⟨rfl, h1, h2⟩
  have R5 := Lib.hid h1
  have E5 : Hid (Ext (Only g) w0 w5) := E4.out.trans h2 (fun _ _ e => e)
  have B5 := Lib.hid (h2.obj B4.out (fun h => by have h : q = g := h; omega))
  have D5 := Lib.hid (E5.out.obj B0.out (fun h => by have h : w.heap.size = g := h; omega))
  clear h1 h2
  have f0 : w5.cell? ⟨q, 0, none⟩ = some (.int .i64 n1) := blk_cell B5.out 0
  have f1 : w5.cell? ⟨q, 1, none⟩ = some (.string ⟨s2.toArray⟩) := blk_cell B5.out 1
  have f2 : w5.cell? ⟨q, 2, none⟩ = some (.string ⟨s3.toArray⟩) := blk_cell B5.out 2
  have f3 : w5.cell? ⟨q, 3, none⟩ = some (.slice none 0 0) := blk_cell B5.out 3
  have y0 : w5.cell? ⟨w.heap.size, 0, none⟩ = some (.int .i64 0) := blk_cell D5.out 0
  have y1 : w5.cell? ⟨w.heap.size, 1, none⟩ = some (.string ⟨#[]⟩) := blk_cell D5.out 1
  have y2 : w5.cell? ⟨w.heap.size, 2, none⟩ = some (.string ⟨#[]⟩) := blk_cell D5.out 2
  have y3 : w5.cell? ⟨w.heap.size, 3, none⟩ = some (.slice none 0 0) := blk_cell D5.out 3
  have z0 := blk_frozen D5.out 0
  have z1 := blk_frozen D5.out 1
  have z2 := blk_frozen D5.out 2
  have z3 := blk_frozen D5.out 3
  have hlD := blk_lt D5.out
  go_wp2_with fail
  have EF := ext_set4 w5 w.heap.size (.int .i64 n1) (.string ⟨s2.toArray⟩) (.string ⟨s3.toArray⟩) (.slice none 0 0)
  (try simp only [Exit.inBlock, Exit.then])
  refine bodyPost_ret (results_cell_row rfl _ _ w.heap.size 24 #[.int .i64 n1, .string ⟨s2.toArray⟩, .string ⟨s3.toArray⟩, .slice none 0 0] (0, 0) _ rfl (row_set4 D5.out _ _ _ _) Try.underlying24 rfl (by kernel_rfl)) rfl ?_
  refine ⟨.slice none 0 0, by rw [HT.out]; rfl, ?_, ?_, ?_⟩
  · rw [HT.out]
    exact Rd.nil _ _ _
  · rw [HT.out]
    exact R5.out.far EF (fun h => by have h : g = w.heap.size := h; omega) (fun j hj _ h => by have h : j = w.heap.size := h; have := HO.out j hj; omega)
  · exact ((Ext.of0 E0.out : Ext (Only g) w w0).trans E5.out (fun _ _ e => e)).trans EF (fun i hi h => by have h : i = w.heap.size := h; omega)
theorem _root_.Go.Proofs.Ytdjfijdnhfmeeaa.info24take (k : Nat) : (Try.prog.info? 24).map (fun i => (i.zero, i.size, i.bytes)) = some (some (.agg #[.int .i64 0, .string ⟨#[]⟩, .string ⟨#[]⟩, .slice none 0 0]), (fltK k).sz, 64) := by rw [fltK_sz]; kernel_rfl
set_option maxRecDepth 100000 in
set_option maxHeartbeats 8000000 in
theorem take_step (k : Nat) (ih : TakeAt k) : TakeAt (k + 1) := by
  intro w ok g bs a e d hR hg hok hgl ha hd hk
  have HD := Lib.hid hd
  have hd0 : 0 ≤ d := by omega
  have hd6 : d ≤ 6 := by omega
  clear hd
  obtain ⟨l1, l2, l3, l4, l5, l6, l7, l8, l9⟩ := q4_le (bs := bs) (e := e) 32 ha
  obtain ⟨x1, hx1⟩ : ∃ x, q1 bs a e = x := ⟨_, rfl⟩
  obtain ⟨x2, hx2⟩ : ∃ x, q2 32 bs a e = x := ⟨_, rfl⟩
  obtain ⟨x3, hx3⟩ : ∃ x, q3 32 bs a e = x := ⟨_, rfl⟩
  obtain ⟨x4, hx4⟩ : ∃ x, q4 32 bs a e = x := ⟨_, rfl⟩
  rw [hx1] at l1 l8 l9
  rw [hx2] at l2
  rw [hx3] at l3
  rw [hx4] at l4 l5 l6 l7
  have hT : rdT 32 bs (k + 1) a e = (.mk x1.1 ⟨x2.1.toArray⟩ ⟨x3.1.toArray⟩ (rdKids (rdT 32 bs k) x4.1.toNat x4.2.1 x4.2.2).1, (rdKids (rdT 32 bs k) x4.1.toNat x4.2.1 x4.2.2).2) := by
    show (_ : Flt × Nat × Int) = _
    simp only [rdT, hx1, hx2, hx3, hx4]
  have HX1 : Hid (rNum bs a e = x1) := hx1
  have HX2 : Hid (rText bs x1.2.1 x1.2.2 32 = x2) := by rw [← hx1]; exact hx2
  have HX3 : Hid (rText bs x2.2.1 x2.2.2 192 = x3) := by rw [← hx2]; exact hx3
  have HX4 : Hid (rWithin bs x3.2.1 x3.2.2 0 24 = x4) := by rw [← hx3]; exact hx4
  obtain ⟨n1, a1, e1⟩ := x1
  obtain ⟨s2, a2, e2⟩ := x2
  obtain ⟨s3, a3, e3⟩ := x3
  obtain ⟨n4, a4, e4⟩ := x4
  obtain ⟨N, rfl⟩ : ∃ N : Nat, n4 = (N : Int) := ⟨n4.toNat, by have h : 0 ≤ n4 := l6; omega⟩
  have lN : N ≤ 24 := by have h : (N : Int) ≤ 24 := l7; omega
  have HT := Lib.hid hT
  have HL1 : Hid (a1 ≤ bs.length) := l1
  have HL2 : Hid (a2 ≤ bs.length) := l2
  have HL3 : Hid (a3 ≤ bs.length) := l3
  have HL4 : Hid (a4 ≤ bs.length) := l4
  have HR := Lib.hid hR
  have HO := Lib.hid hok
  clear l1 l2 l3 l4 l5 l6 l7 l8 l9 hx1 hx2 hx3 hx4 hT hR hok
  go_enter Try.func90, Try.ntmps90
  go_wp2_with fail
  obtain ⟨w0, hw0⟩ : ∃ w0, w.alloc (.cells #[.int .i64 0, .string ⟨#[]⟩, .string ⟨#[]⟩, .slice none 0 0] 24) = w0 := ⟨_, rfl⟩
  have hB0 : w0.heap[w.heap.size]? = some (.cells #[.int .i64 0, .string ⟨#[]⟩, .string ⟨#[]⟩, .slice none 0 0] 24) := by rw [← hw0]; exact blk_new _ _
  have hE0 : Ext Non w w0 := by rw [← hw0]; exact (Ext.refl _ _).alloc _
  rw [hw0]
  have B0 := Lib.hid hB0
  have E0 := Lib.hid hE0
  clear hw0 hB0 hE0
  refine (RNum_to (HR.out.ext E0.out) hg ha HX1.out).mono ?_
  rintro e' w1 ⟨rfl, h1, h2⟩
  have R1 := Lib.hid h1
  have E1 : Hid (Ext (Only g) w0 w1) := h2
  clear h1 h2
  go_wp2_with fail
  refine (RTxt_to R1.out hg HL1.out 32 HX2.out).mono ?_
  rintro e' w2 ⟨rfl, h1, h2⟩
  have R2 := Lib.hid h1
  have E2 : Hid (Ext (Only g) w0 w2) := E1.out.trans h2 (fun _ _ e => e)
  clear h1 h2
  go_wp2_with fail
  refine (RTxt_to R2.out hg HL2.out 192 HX3.out).mono ?_
  rintro e' w3 ⟨rfl, h1, h2⟩
  have R3 := Lib.hid h1
  have E3 : Hid (Ext (Only g) w0 w3) := E2.out.trans h2 (fun _ _ e => e)
  clear h1 h2
  obtain ⟨q, hq⟩ : ∃ q, w3.heap.size = q := ⟨_, rfl⟩
  have hsz0 := blk_lt B0.out
  have hsq : w0.heap.size ≤ q := by rw [← hq]; exact E3.out.size
  have HQ := Lib.hid hq
  obtain ⟨w4, hw4⟩ : ∃ w4, w3.alloc (.cells #[.int .i64 n1, .string ⟨s2.toArray⟩, .string ⟨s3.toArray⟩, .slice none 0 0] 24) = w4 := ⟨_, rfl⟩
  have hB4 : w4.heap[q]? = some (.cells #[.int .i64 n1, .string ⟨s2.toArray⟩, .string ⟨s3.toArray⟩, .slice none 0 0] 24) := by rw [← hw4, ← hq]; exact blk_new _ _
  have hE4 : Ext Non w3 w4 := by rw [← hw4]; exact (Ext.refl _ _).alloc _
  have R4 := Lib.hid (R3.out.ext hE4)
  have E4 : Hid (Ext (Only g) w0 w4) := E3.out.trans0 hE4
  have B4 := Lib.hid hB4
  have HW4 := Lib.hid hw4
  clear hq hw4 hB4 hE4
  go_wp2_with fail
  rw [HQ.out, HW4.out]
  refine (RWit_to R4.out hg HL3.out 0 24 HX4.out).mono ?_
  rintro e' w5 ⟨rfl, h1, h2⟩
  have R5 := Lib.hid h1
  have E5 : Hid (Ext (Only g) w0 w5) := E4.out.trans h2 (fun _ _ e => e)
  have B5 := Lib.hid (h2.obj B4.out (fun h => by have h : q = g := h; omega))
  have D5 := Lib.hid (E5.out.obj B0.out (fun h => by have h : w.heap.size = g := h; omega))
  clear h1 h2
  have hNN : ((N : Int)).toNat = N := by omega
  have hT2 := HT.out
  simp only [hNN] at hT2
  have HT2 := Lib.hid hT2
  have HIH := Lib.hid ih
  clear hT2 hNN ih HT
  go_wp2_with fail
  go_loopw [7] (fun i wr => ∃ (j : Nat) (A3 : Option Addr) (n3 c3 : Nat) (done : List Flt) (a5 : Nat) (e5 : Int), i = .int .i64 (j : Int) ∧ j ≤ N ∧ done.length = j ∧ Hid (wr.heap[q]? = some (.cells #[.int .i64 n1, .string ⟨s2.toArray⟩, .string ⟨s3.toArray⟩, .slice A3 n3 c3] 24)) ∧ Hid (Own (fltK (k + 1)) 24 wr (q + 1) (fun j => q < j) (.slice A3 n3 c3) done) ∧ Hid (RdrAt wr ok g bs a5 e5) ∧ Hid (a5 ≤ bs.length) ∧ Hid (Ext (Only g) w0 wr) ∧
      Hid (rdKids (rdT 32 bs k) N a4 e4 = (done ++ (rdKids (rdT 32 bs k) (N - j) a5 e5).1, (rdKids (rdT 32 bs k) (N - j) a5 e5).2))) (fun i _ => N - (intOf i).toNat)
  case atStart => exact ⟨0, none, 0, 0, [], a4, e4, rfl, by omega, rfl, B5, Own.nil _ _ _ _ _, R5, HL4, E5, by show _ = _; simp⟩
  case round =>
    obtain ⟨j, A3, n3, c3, done, a5, e5, rfl, hj, hdl, BJ, OJ, RJ, LJ, EJ, HK⟩ := hrel
    have DJ := Lib.hid (EJ.out.obj B0.out (fun h => by have h : w.heap.size = g := h; omega))
    have hszj := EJ.out.size
    have hqlt := blk_lt BJ.out
    by_cases hend : j < N ∧ e5 = 0
    · obtain ⟨hlt, h50⟩ := hend
      subst h50
      obtain ⟨r, hr⟩ : ∃ r, rdT 32 bs k a5 0 = r := ⟨_, rfl⟩
      have hrle := (rdT_le (bs := bs) 32 k a5 0 LJ.out).1
      rw [hr] at hrle
      obtain ⟨f, a6, e6⟩ := r
      obtain ⟨fop, fkey, fval, fkids⟩ := f
      have HRR := Lib.hid hr
      have HLE : Hid (a6 ≤ bs.length) := hrle
      have hdl2 := Lib.hid hdl
      have HBL := Lib.hid OJ.out.base_le
      clear hr hrle hdl
      go_wp2_with fail
      refine (Err_calls RJ.out).mono ?_
      rintro e' w6 ⟨rfl, rfl⟩
      go_wp2_with fail
      have hdw : IntKind.i64.wrap (d + 1) = d + 1 := by rw [IntKind.wrap_i64]; omega
      have d3 : wr.cell? ⟨q, 3, none⟩ = some (.slice A3 n3 c3) := blk_cell BJ.out 3
      refine Last.start_ (S := fun W => W.cell? ⟨q, 3, none⟩ = some (.slice A3 n3 c3)) (ds := [9]) #[false, false, false, false, false, false, false, false, false, false] (by kernel_rfl) (by rfl) (by rfl) d3 (fun hS => ?_)
      refine Last.take_ (i := 0) (N := some 30) (v := .pointer (some ⟨q, 3, none⟩)) #[true, false, false, false, false, false, false, false, false, false] (by simp only [List.getElem?_toArray, List.getElem?_cons_zero]; rfl) rfl (by kernel_rfl) (by exact fun _ _ _ h => h) (Or.inl ⟨by rfl, fun W hW => by first | rfl | (try dsimp only at hW); go_simp⟩) hS rfl ?_
      simp only [Act.put, List.setIfInBounds_toArray, List.set_cons_zero, List.set_cons_succ]
      refine Last.take_ (i := 1) (N := some 31) (v := .slice A3 n3 c3) #[true, true, false, false, false, false, false, false, false, false] (by simp only [List.getElem?_toArray, List.getElem?_cons_zero, List.getElem?_cons_succ]; rfl) rfl (by kernel_rfl) (by exact fun _ _ _ h => h) (Or.inl ⟨by rfl, fun W hW => by first | rfl | (try dsimp only at hW); go_simp⟩) hS rfl ?_
      simp only [Act.put, List.setIfInBounds_toArray, List.set_cons_zero, List.set_cons_succ]
      refine Last.take_ (i := 2) (N := some 32) (v := .pointer (some ⟨g, 0, none⟩)) #[true, true, true, false, false, false, false, false, false, false] (by simp only [List.getElem?_toArray, List.getElem?_cons_zero, List.getElem?_cons_succ]; rfl) rfl (by kernel_rfl) (by exact fun _ _ _ h => h) (Or.inl ⟨by rfl, fun W hW => by first | rfl | (try dsimp only at hW); go_simp⟩) hS rfl ?_
      simp only [Act.put, List.setIfInBounds_toArray, List.set_cons_zero, List.set_cons_succ]
      refine Last.take_ (i := 3) (N := some 33) (v := .int .i64 d) #[true, true, true, true, false, false, false, false, false, false] (by simp only [List.getElem?_toArray, List.getElem?_cons_zero, List.getElem?_cons_succ]; rfl) rfl (by kernel_rfl) (by exact fun _ _ _ h => h) (Or.inl ⟨by rfl, fun W hW => by first | rfl | (try dsimp only at hW); go_simp⟩) hS rfl ?_
      simp only [Act.put, List.setIfInBounds_toArray, List.set_cons_zero, List.set_cons_succ]
      refine Last.take_ (i := 4) (N := some 34) (v := .int .i64 (d + 1)) #[true, true, true, true, true, false, false, false, false, false] (by simp only [List.getElem?_toArray, List.getElem?_cons_zero, List.getElem?_cons_succ]; rfl) rfl (by kernel_rfl) (by exact fun _ _ _ h => h) (Or.inl ⟨by rfl, fun W hW => by first | rfl | (try dsimp only at hW); go_simp⟩) hS rfl ?_
      simp only [Act.put, List.setIfInBounds_toArray, List.set_cons_zero, List.set_cons_succ]
      clear hdw
      refine Last.one_ (i := 5) (N := some 35) #[true, true, true, true, true, true, false, false, false, false] (by simp only [List.getElem?_toArray, List.getElem?_cons_zero, List.getElem?_cons_succ]; rfl) rfl (by kernel_rfl) (by decide) (fun K hK => ?_)
      refine Last.goes_ Try.func90 (by kernel_rfl) rfl #[.pointer (some ⟨g, 0, none⟩), .int .i64 (d + 1)] (by rfl) rfl rfl (by simp [Act.eval]) ?_
      refine (HIH.out wr.drew ok g bs a5 0 (d + 1) (RJ.out.ext (Ext.refl _ _).drew) hg (fun j hj => by have h1 := HO.out j hj; have h2 := E0.out.size; show j < wr.heap.size; omega) (by have h2 := E0.out.size; show g < wr.heap.size; omega) LJ.out (by have := HD.out; omega) (by omega)).mono ?_
      rintro e' w9 ⟨v9, h1, h2, h3, h4⟩
      rw [HRR.out] at h1 h2 h3
      have h1' : e' = .returned (.agg #[.int .i64 fop, .string fkey, .string fval, v9]) := h1
      subst h1'
      obtain ⟨A9, n9, c9, rfl, hn9⟩ := rd_abs h2
      have K9 : Hid (Rd (fltK k) w9 (fun j => wr.heap.size ≤ j) (.slice A9 n9 c9) fkids) := h2
      have R9 : Hid (RdrAt w9 ok g bs a6 e6) := h3
      have X9 : Hid (Ext (Only g) wr w9) := Ext.trans (M := Only g) ((Ext.refl (Only g) wr).drew) h4 (fun _ _ e => e)
      have B9 := Lib.hid (X9.out.obj BJ.out (fun h => by have h : q = g := h; omega))
      have O9 := Lib.hid (OJ.out.ext X9.out (fun j hj _ h => by have h : j = g := h; omega))
      have z9 := X9.out.size
      clear h1 h2 h3 h4 hn9
      refine ⟨_, rfl, hK.out _ _ (blk_cell B9.out 3) (fun hS => ?_)⟩
      try simp only [Act.put, List.setIfInBounds_toArray, List.set_cons_zero, List.set_cons_succ]
      refine Last.one_ (i := 6) (N := some 36) #[true, true, true, true, true, true, true, false, false, false] (by simp only [List.getElem?_toArray, List.getElem?_cons_zero, List.getElem?_cons_succ]; rfl) rfl (by kernel_rfl) (by decide) (fun K hK => ?_)
      go_simp
      refine hK.out _ _ (blk_cell (blk_alloc B9.out _) 3) (fun hS => ?_)
      try simp only [Act.put, List.setIfInBounds_toArray, List.set_cons_zero, List.set_cons_succ]
      refine Last.one_ (i := 7) (N := some 37) #[true, true, true, true, true, true, true, true, false, false] (by simp only [List.getElem?_toArray, List.getElem?_cons_zero, List.getElem?_cons_succ]; rfl) rfl (by kernel_rfl) (by decide) (fun K hK => ?_)
      refine step_app (fltK (k + 1)) (ok := fun j => q < j) (v := .slice A3 n3 c3) (vx := .slice (some ⟨w9.heap.size, 0, none⟩) 1 1) (xs := done) (ys := [.mk fop fkey fval fkids]) (q + 1) (by rfl) _ _ 22 24 _ 64 (by rfl) Try.underlying22 (info24take _) rfl (by rw [fltK_sz]; decide) (by simp [Act.eval]) (by simp [Act.eval]) (O9.out.ext0 ((Ext.refl _ _).alloc _)) ?_ ?_ ?_ ?_ ?_ ?_
      · refine Rd.lit_at (cs := [.int .i64 fop, .string fkey, .string fval, .slice A9 n9 c9]) (e := 24) (fr := (0, 0)) (heap_alloc_new w9 _) ⟨_, rfl, ?_⟩ ⟨by omega, fun h => by have := (HBL.out _ h.symm).2; omega⟩
        exact (K9.out.bound.ext0 ((Ext.refl _ _).alloc _)).mono (fun j hj => ⟨by have := hj.1; omega, fun h => by have := (HBL.out _ h.symm).2; have := hj.1; omega⟩)
      · intro j hj
        simp at hj
        omega
      · have := hdl2.out; simp; omega
      · have := hdl2.out; simp; omega
      · simp; omega
      intro v' wA hown hext hblk
      obtain ⟨A2, n2, c2, rfl⟩ : ∃ A n c, v' = .slice A n c := by obtain ⟨A2, c2, h2, _, _⟩ := hown.slice; exact ⟨_, _, _, h2⟩
      have EA : Hid (Ext (fun k => some k = (Value.slice A3 n3 c3).ownBlock) w9 wA) := Ext.trans ((Ext.refl _ _).alloc _) hext (fun _ _ e => e)
      have OA : Hid (Own (fltK (k + 1)) 24 wA (q + 1) (fun j => q < j) (.slice A2 n2 c2) (done ++ [.mk fop fkey fval fkids])) := hown
      have BA := Lib.hid (EA.out.obj B9.out (fun e => by have := (HBL.out _ e.symm).1; omega))
      have g3 : wA.cell? ⟨q, 3, none⟩ = some (.slice A3 n3 c3) := blk_cell BA.out 3
      have gz := blk_frozen BA.out 3
      have hlqA := blk_lt BA.out
      clear hown hext hblk
      refine hK.out _ _ g3 (fun hS => ?_)
      try simp only [Act.put, List.setIfInBounds_toArray, List.set_cons_zero, List.set_cons_succ]
      refine Last.take_ (i := 8) (N := some 38) (v := .pointer (some ⟨q, 3, none⟩)) #[true, true, true, true, true, true, true, true, true, false] (by simp only [List.getElem?_toArray, List.getElem?_cons_zero, List.getElem?_cons_succ]; rfl) rfl (by kernel_rfl) (by exact fun _ _ _ h => h) (Or.inl ⟨by rfl, fun W hW => by first | rfl | (try dsimp only at hW); go_simp⟩) hS rfl ?_
      simp only [Act.put, List.setIfInBounds_toArray, List.set_cons_zero, List.set_cons_succ]
      refine Last.last_ (i := 9) (N := none) #[true, true, true, true, true, true, true, true, true, true] (by simp only [List.getElem?_toArray, List.getElem?_cons_zero, List.getElem?_cons_succ]; rfl) rfl (by kernel_rfl) (by decide) (fun K hK => ?_)
      obtain ⟨wB, hwB⟩ : ∃ wB, wA.setCell ⟨q, 3, none⟩ (.slice A2 n2 c2) = wB := ⟨_, rfl⟩
      have eB : Ext (Only q) wA wB := by rw [← hwB]; exact (Ext.refl (Only q) wA).setCell (p := ⟨q, 3, none⟩) (fun _ => rfl) _
      have bB : wB.heap[q]? = some (.cells #[.int .i64 n1, .string ⟨s2.toArray⟩, .string ⟨s3.toArray⟩, .slice A2 n2 c2] 24) := by rw [← hwB]; simpa using blk_set BA.out 3 (.slice A2 n2 c2)
      have HWB := Lib.hid hwB
      have RB := Lib.hid ((R9.out.far EA.out (fun e => by have := (HBL.out _ e.symm).1; omega) (fun j hj _ e => by have := (HBL.out _ e.symm).1; have := HO.out j hj; omega)).far eB (fun e => by have e1 : g = q := e; omega) (fun j hj _ e => by have e1 : j = q := e; have := HO.out j hj; omega))
      have EB := Lib.hid (((EJ.out.trans X9.out (fun _ _ e => e)).trans EA.out (fun i hi e => by have := (HBL.out _ e.symm).1; omega)).trans eB (fun i hi e => by have e1 : i = q := e; omega))
      have OB := Lib.hid (OA.out.ext eB (fun k hk _ e => by have e1 : k = q := e; omega))
      have BB := Lib.hid bB
      clear hwB eB bB BA
      go_simp
      rw [HWB.out]
      refine hK.out _ _ ?_
      try simp only [Act.put, List.setIfInBounds_toArray, List.set_cons_zero, List.set_cons_succ]
      refine Last.done_ (by kernel_rfl) ?_
      go_wp2_with fail
      go_roundw
      case rel =>
        refine ⟨j + 1, A2, n2, c2, done ++ [.mk fop fkey fval fkids], a6, e6, by go_num, by omega, by have := hdl2.out; simp; omega, BB, OB, RB, HLE, EB, ?_⟩
        show _ = _
        rw [HK.out, show N - j = (N - (j + 1)) + 1 by omega, rdKids_go HRR.out]
        simp
      case measure => simp [intOf]; omega
    · have hfin : Hid (rdT 32 bs (k + 1) a e = (.mk n1 ⟨s2.toArray⟩ ⟨s3.toArray⟩ done, a5, e5)) := by
        show _ = _
        have h1 : rdKids (rdT 32 bs k) (N - j) a5 e5 = ([], a5, e5) := by
          by_cases h0 : e5 = 0
          · have h3 : j = N := by
              by_cases h4 : j < N
              · exact absurd ⟨h4, h0⟩ hend
              · omega
            rw [h3, Nat.sub_self]
            rfl
          · exact rdKids_err h0
        have h2 := HK.out
        rw [h1] at h2
        rw [HT2.out, h2]
        simp

      by_cases hlt : (j : Int) < (N : Int)
      · have h50 : ¬ e5 = 0 := fun h => hend ⟨by omega, h⟩
        clear hend
        go_wp2_with fail
        refine (Err_calls RJ.out).mono ?_
        rintro e' w6 ⟨rfl, rfl⟩
        have f0 : wr.cell? ⟨q, 0, none⟩ = some (.int .i64 n1) := blk_cell BJ.out 0
        have f1 : wr.cell? ⟨q, 1, none⟩ = some (.string ⟨s2.toArray⟩) := blk_cell BJ.out 1
        have f2 : wr.cell? ⟨q, 2, none⟩ = some (.string ⟨s3.toArray⟩) := blk_cell BJ.out 2
        have f3 : wr.cell? ⟨q, 3, none⟩ = some (.slice A3 n3 c3) := blk_cell BJ.out 3
        have y0 : wr.cell? ⟨w.heap.size, 0, none⟩ = some (.int .i64 0) := blk_cell DJ.out 0
        have y1 : wr.cell? ⟨w.heap.size, 1, none⟩ = some (.string ⟨#[]⟩) := blk_cell DJ.out 1
        have y2 : wr.cell? ⟨w.heap.size, 2, none⟩ = some (.string ⟨#[]⟩) := blk_cell DJ.out 2
        have y3 : wr.cell? ⟨w.heap.size, 3, none⟩ = some (.slice none 0 0) := blk_cell DJ.out 3
        have z0 := blk_frozen DJ.out 0
        have z1 := blk_frozen DJ.out 1
        have z2 := blk_frozen DJ.out 2
        have z3 := blk_frozen DJ.out 3
        have hlD := blk_lt DJ.out
        go_wp2_with fail
        have EF := ext_set4 wr w.heap.size (.int .i64 n1) (.string ⟨s2.toArray⟩) (.string ⟨s3.toArray⟩) (.slice A3 n3 c3)
        (try simp only [Exit.inBlock, Exit.then])
        refine bodyPost_ret (results_cell_row rfl _ _ w.heap.size 24 #[.int .i64 n1, .string ⟨s2.toArray⟩, .string ⟨s3.toArray⟩, .slice A3 n3 c3] (0, 0) _ rfl (row_set4 DJ.out _ _ _ _) Try.underlying24 rfl (by kernel_rfl)) rfl ?_
        refine ⟨.slice A3 n3 c3, by rw [hfin.out]; rfl, ?_, ?_, ?_⟩
        · rw [hfin.out]
          exact (OJ.out.rd.ext EF (fun j hj _ h => by have h : j = w.heap.size := h; omega)).mono (fun j hj => by omega)
        · rw [hfin.out]
          exact RJ.out.far EF (fun h => by have h : g = w.heap.size := h; omega) (fun j hj _ h => by have h : j = w.heap.size := h; have := HO.out j hj; omega)
        · exact ((Ext.of0 E0.out : Ext (Only g) w w0).trans EJ.out (fun _ _ e => e)).trans EF (fun i hi h => by have h : i = w.heap.size := h; omega)
      · clear hend
        have f0 : wr.cell? ⟨q, 0, none⟩ = some (.int .i64 n1) := blk_cell BJ.out 0
        have f1 : wr.cell? ⟨q, 1, none⟩ = some (.string ⟨s2.toArray⟩) := blk_cell BJ.out 1
        have f2 : wr.cell? ⟨q, 2, none⟩ = some (.string ⟨s3.toArray⟩) := blk_cell BJ.out 2
        have f3 : wr.cell? ⟨q, 3, none⟩ = some (.slice A3 n3 c3) := blk_cell BJ.out 3
        have y0 : wr.cell? ⟨w.heap.size, 0, none⟩ = some (.int .i64 0) := blk_cell DJ.out 0
        have y1 : wr.cell? ⟨w.heap.size, 1, none⟩ = some (.string ⟨#[]⟩) := blk_cell DJ.out 1
        have y2 : wr.cell? ⟨w.heap.size, 2, none⟩ = some (.string ⟨#[]⟩) := blk_cell DJ.out 2
        have y3 : wr.cell? ⟨w.heap.size, 3, none⟩ = some (.slice none 0 0) := blk_cell DJ.out 3
        have z0 := blk_frozen DJ.out 0
        have z1 := blk_frozen DJ.out 1
        have z2 := blk_frozen DJ.out 2
        have z3 := blk_frozen DJ.out 3
        have hlD := blk_lt DJ.out
        go_wp2_with fail
        have EF := ext_set4 wr w.heap.size (.int .i64 n1) (.string ⟨s2.toArray⟩) (.string ⟨s3.toArray⟩) (.slice A3 n3 c3)
        (try simp only [Exit.inBlock, Exit.then])
        refine bodyPost_ret (results_cell_row rfl _ _ w.heap.size 24 #[.int .i64 n1, .string ⟨s2.toArray⟩, .string ⟨s3.toArray⟩, .slice A3 n3 c3] (0, 0) _ rfl (row_set4 DJ.out _ _ _ _) Try.underlying24 rfl (by kernel_rfl)) rfl ?_
        refine ⟨.slice A3 n3 c3, by rw [hfin.out]; rfl, ?_, ?_, ?_⟩
        · rw [hfin.out]
          exact (OJ.out.rd.ext EF (fun j hj _ h => by have h : j = w.heap.size := h; omega)).mono (fun j hj => by omega)
        · rw [hfin.out]
          exact RJ.out.far EF (fun h => by have h : g = w.heap.size := h; omega) (fun j hj _ h => by have h : j = w.heap.size := h; have := HO.out j hj; omega)
        · exact ((Ext.of0 E0.out : Ext (Only g) w w0).trans EJ.out (fun _ _ e => e)).trans EF (fun i hi h => by have h : i = w.heap.size := h; omega)
theorem take_at : ∀ k, TakeAt k := by
  intro k
  induction k with
  | zero => exact take_zero
  | succ k ih => exact take_step k ih
end Go.Proofs.Ytdjfijdnhfmeeaa
