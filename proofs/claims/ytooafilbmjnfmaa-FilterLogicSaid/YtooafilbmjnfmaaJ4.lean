/- wire.Read; Get of the program. -/
import Derived.Test.YtooafilbmjnfmaaJ3
namespace Go.Proofs.Ytooafilbmjnfmaa
open Go.RowKit Go.TM
theorem Own.tight {w : World} {base : Nat} {ok : Nat → Prop} {v : Value} {xs : List UInt8} (h : Own Kd.u8 5 w base ok v xs) : Own Kd.u8 5 w base (fun k => base ≤ k ∧ k < w.heap.size) v xs := by
  have hb := h.base_le
  obtain ⟨_, inner, ho, hr⟩ := h
  exact ⟨hb, inner, ho, hr.1, fun j x hj => hr.2 j x hj⟩
theorem Rd.any {w : World} {ok : Nat → Prop} {v : Value} {xs : List UInt8} (h : Rd Kd.u8 w ok v xs) : Rd Kd.u8 w (fun _ => True) v xs := h.mono (fun _ _ => trivial)
def ReadPost (bs : List UInt8) (w : World) (e : Ending) (w' : World) : Prop :=
  ∃ g, e = .returned (.pointer (some ⟨g, 0, none⟩)) ∧ w.heap.size ≤ g ∧ g < w'.heap.size ∧ RdrAt w' (fun k => w.heap.size ≤ k ∧ k < g) g bs 0 0 ∧ Ext Non w w'
set_option maxRecDepth 100000 in
theorem Read_calls {w : World} {ok : Nat → Prop} {A : Option Addr} {n c : Nat} {bs : List UInt8} (H : Rd Kd.u8 w ok (.slice A n c) bs) (hbl : bs.length ≤ 140737488355328) :
    Calls Try.prog 17 #[.slice A n c] w (ReadPost bs w) := by
  have HH := Lib.hid (Rd.any H)
  clear H
  go_enter Try.func17, Try.ntmps17
  go_wp2_with (first
    | (at_builtin
       refine app_old (w0 := w) (ok := fun _ => True) (v := .slice (some ⟨w.heap.size, 0, none⟩) 0 0) (vx := .slice A n c) (xs := []) (ys := bs) rfl _ _ rfl (by simp [Act.eval]) rfl (lit0 (Ext.refl _ _) (fun _ _ => trivial)) ((Ext.refl Non w).alloc _) HH.out (fun _ _ => trivial) (by simp; omega) ?_
       intro A2 n2 c2 w2 hn2 O2 E2 z2)
    | fail)
  go_ret
  refine ⟨_, rfl, E2.out.size, by simp, ⟨_, heap_alloc_new w2 _, ?_⟩, E2.out.alloc _⟩
  exact ((Own.tight O2.out).rd.ext0 ((Ext.refl Non w2).alloc _))
/-- Whether Get gets; what it tells. -/
def gtOK (bs : List UInt8) : Bool := tkOK bs 0 0 && decide (rEnd bs (rdT 32 bs 6 0 0).2.1 (rdT 32 bs 6 0 0).2.2 = 0)
def gtF (bs : List UInt8) : Flt := if gtOK bs = true then (rdT 32 bs 6 0 0).1 else noF
def gtE (bs : List UInt8) : Int := if gtOK bs = true then 0 else 50
def GetPost (bs : List UInt8) (w : World) (e : Ending) (w' : World) : Prop :=
  ∃ x, e = .returned (.tuple #[x, .int .i64 (gtE bs)]) ∧ FV 6 w' (fun j => w.heap.size ≤ j) x (gtF bs) ∧ Ext Non w w'
set_option maxRecDepth 100000 in
set_option maxHeartbeats 8000000 in
theorem Get_calls {w : World} {ok : Nat → Prop} {Ab : Option Addr} {nb cb : Nat} {bs : List UInt8} (H : Rd Kd.u8 w ok (.slice Ab nb cb) bs) (hbl : bs.length ≤ 140737488355328) :
    Calls Try.prog 29 #[.slice Ab nb cb] w (GetPost bs w) := by
  have HH := Lib.hid H.bound
  have HBL := Lib.hid hbl
  obtain ⟨b, hb⟩ : ∃ b, tkOK bs 0 0 = b := ⟨_, rfl⟩
  have HB := Lib.hid hb
  have hle := (rdT_le (bs := bs) 32 6 0 0 (Nat.zero_le _)).1
  obtain ⟨r, hr⟩ : ∃ r, (rdT 32 bs 6 0 0).2 = r := ⟨_, rfl⟩
  rw [hr] at hle
  obtain ⟨a', e'⟩ := r
  have HRR : Hid ((rdT 32 bs 6 0 0).2 = (a', e')) := hr
  have HLE : Hid (a' ≤ bs.length) := hle
  obtain ⟨z, hz⟩ : ∃ z, rEnd bs a' e' = z := ⟨_, rfl⟩
  have HZ := Lib.hid hz
  have hg1 : Hid (gtOK bs = (b && decide (z = 0))) := by
    show _ = _
    unfold gtOK
    rw [hb, hr]
    show (b && decide (rEnd bs a' e' = 0)) = _
    rw [hz]
  clear hb hr hle hz H hbl
  go_enter Try.func29, Try.ntmps29
  go_wp2_with fail
  obtain ⟨w0, hw0⟩ : ∃ w0, w.alloc (.cells #[.int .i64 0, .string ⟨#[]⟩, .string ⟨#[]⟩, .slice none 0 0] 24) = w0 := ⟨_, rfl⟩
  have hB0 : w0.heap[w.heap.size]? = some (.cells #[.int .i64 0, .string ⟨#[]⟩, .string ⟨#[]⟩, .slice none 0 0] 24) := by rw [← hw0]; exact blk_new _ _
  have hE0 : Ext Non w w0 := by rw [← hw0]; exact (Ext.refl _ _).alloc _
  rw [hw0]
  have B0 := Lib.hid hB0
  have E0 := Lib.hid hE0
  have hz0 : w.heap.size < w0.heap.size := blk_lt hB0
  clear hw0 hB0 hE0
  refine (Read_calls (HH.out.ext0 E0.out) HBL.out).mono ?_
  rintro e1 w1 ⟨g, rfl, hg0, hg1', hRd, he⟩
  have R1 := Lib.hid hRd
  have E1 : Hid (Ext Non w w1) := E0.out.trans0 he
  have D1 := Lib.hid (he.obj B0.out (fun h => h))
  have hzw := E1.out.size
  clear hRd he
  go_wp2_with fail
  refine (Take_calls R1.out (fun h => by omega) (fun j hj => by omega) hg1' (Nat.zero_le _)).mono ?_
  rintro e1 w2 ⟨x, rfl, hF, hR2, he⟩
  rw [HRR.out] at hR2
  rw [HB.out]
  obtain ⟨v, rfl, hr⟩ := hF
  obtain ⟨A, n, c, rfl, hn⟩ := rd_abs hr
  obtain ⟨f, hf⟩ : ∃ f, tkF bs 0 0 = f := ⟨_, rfl⟩
  have HF := Lib.hid hf
  rw [hf] at hr ⊢
  obtain ⟨op, key, val, kids⟩ := f
  dsimp only [Flt.op, Flt.key, Flt.val]
  have V2 : Hid (Rd (fltK 6) w2 (fun j => w1.heap.size ≤ j) (.slice A n c) kids) := hr
  have R2 : Hid (RdrAt w2 _ g bs a' e') := hR2
  have E2 : Hid (Ext Non w w2) := E1.out.trans he (fun i hi h => by have h : i = g := h; omega)
  have D2 := Lib.hid (he.obj D1.out (fun h => by have h : w.heap.size = g := h; omega))
  have hz2 := he.size
  clear hr hR2 he hn hf
  obtain ⟨w3, hw3⟩ : ∃ w3, w2.alloc (.cells #[.int .i64 op, .string key, .string val, .slice A n c] 24) = w3 := ⟨_, rfl⟩
  obtain ⟨q, hq⟩ : ∃ q, w2.heap.size = q := ⟨_, rfl⟩
  have hB3 : w3.heap[q]? = some (.cells #[.int .i64 op, .string key, .string val, .slice A n c] 24) := by rw [← hw3, ← hq]; exact blk_new _ _
  have hE3 : Ext Non w2 w3 := by rw [← hw3]; exact (Ext.refl _ _).alloc _
  have R3 := Lib.hid (R2.out.ext hE3)
  have V3 := Lib.hid (V2.out.ext0 hE3)
  have E3 : Hid (Ext Non w w3) := E2.out.trans0 hE3
  have D3 := Lib.hid (hE3.obj D2.out (fun h => h))
  have B3 := Lib.hid hB3
  have HW3 := Lib.hid hw3
  have HQ := Lib.hid hq
  clear hw3 hq hB3 hE3
  cases b with
  | false =>
    have HG : Hid (gtOK bs = false) := by show _ = _; rw [hg1.out, Bool.false_and]
    have y0 : w3.cell? ⟨w.heap.size, 0, none⟩ = some (.int .i64 0) := blk_cell D3.out 0
    have y1 : w3.cell? ⟨w.heap.size, 1, none⟩ = some (.string ⟨#[]⟩) := blk_cell D3.out 1
    have y2 : w3.cell? ⟨w.heap.size, 2, none⟩ = some (.string ⟨#[]⟩) := blk_cell D3.out 2
    have y3 : w3.cell? ⟨w.heap.size, 3, none⟩ = some (.slice none 0 0) := blk_cell D3.out 3
    have z0 := blk_frozen D3.out 0
    have z1 := blk_frozen D3.out 1
    have z2 := blk_frozen D3.out 2
    have z3 := blk_frozen D3.out 3
    have f0 : w3.cell? ⟨q, 0, none⟩ = some (.int .i64 op) := blk_cell B3.out 0
    have f1 : w3.cell? ⟨q, 1, none⟩ = some (.string key) := blk_cell B3.out 1
    have f2 : w3.cell? ⟨q, 2, none⟩ = some (.string val) := blk_cell B3.out 2
    have f3 : w3.cell? ⟨q, 3, none⟩ = some (.slice A n c) := blk_cell B3.out 3
    have hlD := blk_lt D3.out
    have hw3 := HW3.out
    have hq := HQ.out
    go_wp2_with fail
    have EF := ext_set4 w3 w.heap.size (.int .i64 0) (.string ⟨#[]⟩) (.string ⟨#[]⟩) (.slice none 0 0)
    (try simp only [Exit.inBlock, Exit.then])
    refine bodyPost_ret (results_cell_row2 rfl _ _ w.heap.size 24 #[.int .i64 0, .string ⟨#[]⟩, .string ⟨#[]⟩, .slice none 0 0] (0, 0) _ rfl (row_set4 D3.out _ _ _ _) Try.underlying24 rfl (by kernel_rfl)) rfl ?_
    refine ⟨_, by rw [show gtE bs = 50 from if_neg (by rw [HG.out]; simp)]; rfl, ?_, ?_⟩
    · rw [show gtF bs = noF from if_neg (by rw [HG.out]; simp)]
      exact ⟨.slice none 0 0, rfl, Rd.nil _ _ _⟩
    · exact (E3.out).trans EF (fun i hi h => by have h : i = w.heap.size := h; omega)
  | true =>
    have HFT : Hid ((rdT 32 bs 6 0 0).1 = .mk op key val kids) := by
      have h := HF.out
      unfold tkF at h
      rw [HB.out, if_pos rfl] at h
      exact h
    go_wp2_with fail
    rw [HQ.out, HW3.out]
    refine (REnd_calls R3.out HLE.out).mono ?_
    rw [HZ.out]
    rintro e1 w4 ⟨rfl, he⟩
    have E4 := Lib.hid (E3.out.trans0 he)
    have D4 := Lib.hid (he.obj D3.out (fun h => h))
    have B4 := Lib.hid (he.obj B3.out (fun h => h))
    have V4 := Lib.hid (V3.out.ext0 he)
    clear he
    have y0 : w4.cell? ⟨w.heap.size, 0, none⟩ = some (.int .i64 0) := blk_cell D4.out 0
    have y1 : w4.cell? ⟨w.heap.size, 1, none⟩ = some (.string ⟨#[]⟩) := blk_cell D4.out 1
    have y2 : w4.cell? ⟨w.heap.size, 2, none⟩ = some (.string ⟨#[]⟩) := blk_cell D4.out 2
    have y3 : w4.cell? ⟨w.heap.size, 3, none⟩ = some (.slice none 0 0) := blk_cell D4.out 3
    have z0 := blk_frozen D4.out 0
    have z1 := blk_frozen D4.out 1
    have z2 := blk_frozen D4.out 2
    have z3 := blk_frozen D4.out 3
    have f0 : w4.cell? ⟨q, 0, none⟩ = some (.int .i64 op) := blk_cell B4.out 0
    have f1 : w4.cell? ⟨q, 1, none⟩ = some (.string key) := blk_cell B4.out 1
    have f2 : w4.cell? ⟨q, 2, none⟩ = some (.string val) := blk_cell B4.out 2
    have f3 : w4.cell? ⟨q, 3, none⟩ = some (.slice A n c) := blk_cell B4.out 3
    have hlD := blk_lt D4.out
    by_cases hz0 : z = 0
    · subst hz0
      have HG : Hid (gtOK bs = true) := by show _ = _; rw [hg1.out]; rfl
      go_wp2_with fail
      have EF := ext_set4 w4 w.heap.size (.int .i64 op) (.string key) (.string val) (.slice A n c)
      (try simp only [Exit.inBlock, Exit.then])
      refine bodyPost_ret (results_cell_row2 rfl _ _ w.heap.size 24 #[.int .i64 op, .string key, .string val, .slice A n c] (0, 0) _ rfl (row_set4 D4.out _ _ _ _) Try.underlying24 rfl (by kernel_rfl)) rfl ?_
      refine ⟨_, by rw [show gtE bs = 0 from if_pos HG.out]; rfl, ?_, ?_⟩
      · rw [show gtF bs = .mk op key val kids from (if_pos HG.out).trans (HFT.out)]
        exact ⟨.slice A n c, rfl, (V4.out.ext EF (fun j hj _ h => by have h : j = w.heap.size := h; omega)).mono (fun j hj => by omega)⟩
      · exact (E4.out).trans EF (fun i hi h => by have h : i = w.heap.size := h; omega)
    · have HG : Hid (gtOK bs = false) := by show _ = _; rw [hg1.out, decide_eq_false hz0]; rfl
      go_wp2_with fail
      have EF := ext_set4 w4 w.heap.size (.int .i64 0) (.string ⟨#[]⟩) (.string ⟨#[]⟩) (.slice none 0 0)
      (try simp only [Exit.inBlock, Exit.then])
      refine bodyPost_ret (results_cell_row2 rfl _ _ w.heap.size 24 #[.int .i64 0, .string ⟨#[]⟩, .string ⟨#[]⟩, .slice none 0 0] (0, 0) _ rfl (row_set4 D4.out _ _ _ _) Try.underlying24 rfl (by kernel_rfl)) rfl ?_
      refine ⟨_, by rw [show gtE bs = 50 from if_neg (by rw [HG.out]; simp)]; rfl, ?_, ?_⟩
      · rw [show gtF bs = noF from if_neg (by rw [HG.out]; simp)]
        exact ⟨.slice none 0 0, rfl, Rd.nil _ _ _⟩
      · exact (E4.out).trans EF (fun i hi h => by have h : i = w.heap.size := h; omega)
end Go.Proofs.Ytooafilbmjnfmaa
