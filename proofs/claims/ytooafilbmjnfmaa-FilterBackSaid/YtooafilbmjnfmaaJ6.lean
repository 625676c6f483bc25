/- Take (at place 0) and Get of the document. -/
import Derived.Test.YtooafilbmjnfmaaJ4
namespace Go.Proofs.Ytooafilbmjnfmaa
open Go.RowKit Go.TM
/-- Whether the document's Take takes; the filter that it tells. -/
def tlOK (bs : List UInt8) (a : Nat) (e : Int) : Bool := decide ((rdT 192 bs 7 a e).2.2 = 0) && decide (checkE 8 (rdT 192 bs 7 a e).1 = 0) && (encF 8 (rdT 192 bs 7 a e).1 == bs.take (rdT 192 bs 7 a e).2.1)
def tlF (bs : List UInt8) (a : Nat) (e : Int) : Flt := if tlOK bs a e = true then (rdT 192 bs 7 a e).1 else noF
def RTakePost (bs : List UInt8) (ok : Nat → Prop) (g : Nat) (w : World) (e : Ending) (w' : World) : Prop :=
  ∃ x, e = .returned (.tuple #[x, .bool (tlOK bs 0 0)]) ∧ FV 7 w' (fun j => w.heap.size ≤ j) x (tlF bs 0 0) ∧ RrAt w' ok g bs (rdT 192 bs 7 0 0).2.1 (rdT 192 bs 7 0 0).2.2 ∧ Ext (Only g) w w'
set_option maxRecDepth 100000 in
set_option maxHeartbeats 8000000 in
theorem RTake_calls {w : World} {ok : Nat → Prop} {g : Nat} {bs : List UInt8} (hR : RrAt w ok g bs 0 0) (hg : ¬ ok g) (hok : ∀ j, ok j → j < w.heap.size) (hgl : g < w.heap.size) (ha : 0 ≤ bs.length) (hbl : bs.length ≤ 140737488355328) :
    Calls Try.prog 19 #[.pointer (some ⟨g, 0, none⟩)] w (RTakePost bs ok g w) := by
  have HR := Lib.hid hR
  have HO := Lib.hid hok
  have HBL := Lib.hid hbl
  have hkl := rdT_okL (bs := bs) 192 (by omega) (by omega) 7 0 0 ha
  have hle := (rdT_le (bs := bs) 192 7 0 0 ha).1
  obtain ⟨r, hr⟩ : ∃ r, rdT 192 bs 7 0 0 = r := ⟨_, rfl⟩
  have hok1 : Hid (tlOK bs 0 0 = (decide (r.2.2 = 0) && decide (checkE 8 r.1 = 0) && (encF 8 r.1 == bs.take r.2.1))) := by show _ = _; rw [← hr]; rfl
  have hf1 : Hid (tlF bs 0 0 = if tlOK bs 0 0 = true then r.1 else noF) := by show _ = _; rw [← hr]; rfl
  have hne : Hid (r.2.2 = 0 → bs ≠ []) := by
    intro h0 h1
    rw [← hr, h1] at h0
    exact absurd h0 (by decide)
  rw [hr] at hkl hle
  obtain ⟨f, a', e'⟩ := r
  obtain ⟨op, key, val, kids⟩ := f
  have HRR := Lib.hid hr
  have HKL := Lib.hid hkl
  have HLE : Hid (a' ≤ bs.length) := hle
  obtain ⟨v0, r0, r1, r2, -, -, -⟩ := hR.cells
  clear hr hkl hR hok hle hbl
  go_enter Try.func19, Try.ntmps19
  go_wp2_with fail
  obtain ⟨w0, hw0⟩ : ∃ w0, w.alloc (.cells #[.int .i64 0, .string ⟨#[]⟩, .string ⟨#[]⟩, .slice none 0 0] 24) = w0 := ⟨_, rfl⟩
  have hB0 : w0.heap[w.heap.size]? = some (.cells #[.int .i64 0, .string ⟨#[]⟩, .string ⟨#[]⟩, .slice none 0 0] 24) := by rw [← hw0]; exact blk_new _ _
  have hE0 : Ext Non w w0 := by rw [← hw0]; exact (Ext.refl _ _).alloc _
  rw [hw0]
  have B0 := Lib.hid hB0
  have E0 := Lib.hid hE0
  have hz0 : w.heap.size < w0.heap.size := blk_lt hB0
  clear hw0 hB0 hE0 r0 r1 r2
  refine (read_at 7 w0 ok g bs 0 0 0 (HR.out.ext E0.out) hg (fun j hj => by have := HO.out j hj; omega) (by omega) ha (by omega) (by omega)).mono ?_
  rintro e1 w1 ⟨v, h1, h2, h3, h4⟩
  rw [HRR.out] at h1 h2 h3
  have h1' : e1 = .returned (.agg #[.int .i64 op, .string key, .string val, v]) := h1
  subst h1'
  obtain ⟨A, n, c, rfl, hn⟩ := rd_abs h2
  have V1 : Hid (FV 7 w1 (fun j => w0.heap.size ≤ j) (.agg #[.int .i64 op, .string key, .string val, .slice A n c]) (.mk op key val kids)) := ⟨_, rfl, h2⟩
  have V1r : Hid (Rd (fltK 7) w1 (fun j => w0.heap.size ≤ j) (.slice A n c) kids) := h2
  have R1 : Hid (RrAt w1 ok g bs a' e') := h3
  have E1 : Hid (Ext (Only g) w0 w1) := h4
  have hz1 := h4.size
  clear h1 h2 h3 h4 hn
  obtain ⟨w2, hw2⟩ : ∃ w2, w1.alloc (.cells #[.int .i64 op, .string key, .string val, .slice A n c] 24) = w2 := ⟨_, rfl⟩
  obtain ⟨q, hq⟩ : ∃ q, w1.heap.size = q := ⟨_, rfl⟩
  have hB2 : w2.heap[q]? = some (.cells #[.int .i64 op, .string key, .string val, .slice A n c] 24) := by rw [← hw2, ← hq]; exact blk_new _ _
  have hE2 : Ext Non w1 w2 := by rw [← hw2]; exact (Ext.refl _ _).alloc _
  have R2 := Lib.hid (R1.out.ext hE2)
  have V2 := Lib.hid (V1.out.ext0 hE2)
  have V2r := Lib.hid (V1r.out.ext0 hE2)
  have E2 : Hid (Ext (Only g) w0 w2) := E1.out.trans0 hE2
  have B2 := Lib.hid hB2
  have HW2 := Lib.hid hw2
  have HQ := Lib.hid hq
  have hqz : w0.heap.size ≤ q := by rw [← hq]; exact hz1
  have D2 := Lib.hid (E2.out.obj B0.out (fun h => by have h : w.heap.size = g := h; omega))
  clear hw2 hq hB2 hE2 hz1
  go_wp2_with fail
  rw [HQ.out, HW2.out]
  obtain ⟨z, hz⟩ : ∃ z, checkE 8 (.mk op key val kids) = z := ⟨_, rfl⟩
  have HZ := Lib.hid hz
  clear hz
  refine (RPut_calls (n := 7) V2.out HKL.out).mono ?_
  rintro e1 w3 ⟨A7, n7, c7, rfl, ho, he⟩
  rw [HZ.out]
  have O3 := Lib.hid ho.rd
  have V3 := Lib.hid (V2r.out.ext0 he)
  have R3 := Lib.hid (R2.out.ext he)
  have E3 : Hid (Ext (Only g) w w3) := ((Ext.of0 E0.out : Ext (Only g) w w0).trans E2.out (fun _ _ e => e)).trans0 he
  have D3 := Lib.hid (he.obj D2.out (fun h => h))
  have B3 := Lib.hid (he.obj B2.out (fun h => h))
  have y0 : w3.drew.cell? ⟨w.heap.size, 0, none⟩ = some (.int .i64 0) := blk_cell (blk_drew D3.out) 0
  have y1 : w3.drew.cell? ⟨w.heap.size, 1, none⟩ = some (.string ⟨#[]⟩) := blk_cell (blk_drew D3.out) 1
  have y2 : w3.drew.cell? ⟨w.heap.size, 2, none⟩ = some (.string ⟨#[]⟩) := blk_cell (blk_drew D3.out) 2
  have y3 : w3.drew.cell? ⟨w.heap.size, 3, none⟩ = some (.slice none 0 0) := blk_cell (blk_drew D3.out) 3
  have z0 : w3.drew.frozen? ⟨w.heap.size, 0, none⟩ = false := blk_frozen (blk_drew D3.out) 0
  have z1 : w3.drew.frozen? ⟨w.heap.size, 1, none⟩ = false := blk_frozen (blk_drew D3.out) 1
  have z2 : w3.drew.frozen? ⟨w.heap.size, 2, none⟩ = false := blk_frozen (blk_drew D3.out) 2
  have z3 : w3.drew.frozen? ⟨w.heap.size, 3, none⟩ = false := blk_frozen (blk_drew D3.out) 3
  have f0 : w3.drew.cell? ⟨q, 0, none⟩ = some (.int .i64 op) := blk_cell (blk_drew B3.out) 0
  have f1 : w3.drew.cell? ⟨q, 1, none⟩ = some (.string key) := blk_cell (blk_drew B3.out) 1
  have f2 : w3.drew.cell? ⟨q, 2, none⟩ = some (.string val) := blk_cell (blk_drew B3.out) 2
  have f3 : w3.drew.cell? ⟨q, 3, none⟩ = some (.slice A n c) := blk_cell (blk_drew B3.out) 3
  have hlD : w.heap.size < w3.drew.heap.size := blk_lt D3.out
  clear he ho
  obtain ⟨vR, r0, r1, r2, -, -, rr⟩ := R3.out.cells
  by_cases h0 : e' = 0
  · subst h0
    by_cases hz0 : z = 0
    · subst hz0
      have hb0 := hne.out rfl
      obtain ⟨gs, off, hA⟩ : ∃ gs off, ∃ nb cb, vR = .slice (some ⟨gs, off, none⟩) nb cb ∧ nb = bs.length ∧ nb ≤ cb := by
        obtain ⟨Ab, cb, h1, h2, h3, h4⟩ := rr
        obtain ⟨gs, off, h5, -⟩ := h4 (List.length_pos_iff.2 hb0)
        exact ⟨gs, off, bs.length, cb, by rw [h1, h5], rfl, h2⟩
      obtain ⟨nb, cb, rfl, hnb, hcb⟩ := hA
      have hbp := List.length_pos_iff.2 hb0
      have cv2 := conv_rd ((Rd.take rr HLE.out).ext0 (Ext.refl Non w3).drew)
      have ho2 := O3.out
      rw [show putOut 8 (.mk op key val kids) = encF 8 (.mk op key val kids) from if_pos HZ.out] at ho2
      have cv1 := conv_rd (ho2.ext0 (Ext.refl Non w3).drew)
      have hcb0 : ¬ cb = 0 := by omega
      have hac : (a' : Int) ≤ (cb : Int) := by have := HLE.out; omega
      have hnbi : (nb : Int) ≤ 140737488355328 := by have := HBL.out; omega
      have han : (a' : Int) ≤ (nb : Int) := by have := HLE.out; omega
      obtain ⟨bq, hbq⟩ : ∃ bq, (encF 8 (.mk op key val kids) == bs.take a') = bq := ⟨_, rfl⟩
      have HBQ := Lib.hid hbq
      clear rr hb0 hbp ho2 hbq
      go_wp2_with fail
      refine Last.start_ (S := fun W => W.cell? ⟨g, 0, none⟩ = some (.slice (some ⟨gs, off, none⟩) nb cb) ∧ W.cell? ⟨g, 1, none⟩ = some (.int .i64 (a' : Int)) ∧ W.cell? ⟨g, 2, none⟩ = some (.int .i64 0) ∧ (convert 29 9 (.slice A7 n7 c7)).run Try.prog W = .ok (.string ⟨(encF 8 (.mk op key val kids)).toArray⟩) W ∧ (convert 29 9 (.slice (some ⟨gs, off, none⟩) a' cb)).run Try.prog W = .ok (.string ⟨(bs.take a').toArray⟩) W) (ds := []) #[false, false, false, false, false, false, false, false, false, false, false, false, false, false, false, false, false, false, false, false, false, false, false, false, false] (by kernel_rfl) (by rfl) (by rfl) ⟨r0, r1, r2, cv1, cv2⟩ (fun hS => ?_)
      refine Last.take_ (i := 0) (N := some 19) (v := .pointer (some ⟨g, 0, none⟩)) #[true, false, false, false, false, false, false, false, false, false, false, false, false, false, false, false, false, false, false, false, false, false, false, false, false] (by simp only [List.getElem?_toArray, List.getElem?_cons_zero]; rfl) rfl (by kernel_rfl) (by exact fun _ _ _ h => h) (Or.inl ⟨by rfl, fun W hW => by first | rfl | (try dsimp only at hW); go_simp⟩) hS rfl ?_
      simp only [Act.put, List.setIfInBounds_toArray, List.set_cons_zero, List.set_cons_succ]
      refine Last.take_ (i := 1) (N := some 20) (v := .pointer (some ⟨g, 0, none⟩)) #[true, true, false, false, false, false, false, false, false, false, false, false, false, false, false, false, false, false, false, false, false, false, false, false, false] (by simp only [List.getElem?_toArray, List.getElem?_cons_zero, List.getElem?_cons_succ]; rfl) rfl (by kernel_rfl) (by exact fun _ _ _ h => h) (Or.inl ⟨by rfl, fun W hW => by first | rfl | (try dsimp only at hW); go_simp⟩) hS rfl ?_
      simp only [Act.put, List.setIfInBounds_toArray, List.set_cons_zero, List.set_cons_succ]
      refine Last.take_ (i := 2) (N := some 21) (v := .pointer (some ⟨g, 2, none⟩)) #[true, true, true, false, false, false, false, false, false, false, false, false, false, false, false, false, false, false, false, false, false, false, false, false, false] (by simp only [List.getElem?_toArray, List.getElem?_cons_zero, List.getElem?_cons_succ]; rfl) rfl (by kernel_rfl) (by exact fun _ _ _ h => h) (Or.inl ⟨by rfl, fun W hW => by first | rfl | (try dsimp only at hW); go_simp⟩) hS rfl ?_
      simp only [Act.put, List.setIfInBounds_toArray, List.set_cons_zero, List.set_cons_succ]
      refine Last.take_ (i := 3) (N := some 22) (v := .int .i64 0) #[true, true, true, true, false, false, false, false, false, false, false, false, false, false, false, false, false, false, false, false, false, false, false, false, false] (by simp only [List.getElem?_toArray, List.getElem?_cons_zero, List.getElem?_cons_succ]; rfl) rfl (by kernel_rfl) (by exact fun _ _ _ h => h) (Or.inl ⟨by rfl, fun W hW => by first | rfl | (try dsimp only at hW); go_simp⟩) hS rfl ?_
      simp only [Act.put, List.setIfInBounds_toArray, List.set_cons_zero, List.set_cons_succ]
      refine Last.take_ (i := 4) (N := some 23) (v := .bool false) #[true, true, true, true, true, false, false, false, false, false, false, false, false, false, false, false, false, false, false, false, false, false, false, false, false] (by simp only [List.getElem?_toArray, List.getElem?_cons_zero, List.getElem?_cons_succ]; rfl) rfl (by kernel_rfl) (by exact fun _ _ _ h => h) (Or.inl ⟨by rfl, fun W hW => by first | rfl | (try dsimp only at hW); go_simp⟩) hS rfl ?_
      simp only [Act.put, List.setIfInBounds_toArray, List.set_cons_zero, List.set_cons_succ]
      refine Last.take_ (i := 5) (N := some 24) (v := .bool false) #[true, true, true, true, true, true, false, false, false, false, false, false, false, false, false, false, false, false, false, false, false, false, false, false, false] (by simp only [List.getElem?_toArray, List.getElem?_cons_zero, List.getElem?_cons_succ]; rfl) rfl (by kernel_rfl) (by exact fun _ _ _ h => h) (Or.inl ⟨by rfl, fun W hW => by first | rfl | (try dsimp only at hW); go_simp⟩) hS rfl ?_
      simp only [Act.put, List.setIfInBounds_toArray, List.set_cons_zero, List.set_cons_succ]
      refine Last.take_ (i := 6) (N := some 25) (v := .int .i64 0) #[true, true, true, true, true, true, true, false, false, false, false, false, false, false, false, false, false, false, false, false, false, false, false, false, false] (by simp only [List.getElem?_toArray, List.getElem?_cons_zero, List.getElem?_cons_succ]; rfl) rfl (by kernel_rfl) (by exact fun _ _ _ h => h) (Or.inl ⟨by rfl, fun W hW => by first | rfl | (try dsimp only at hW); go_simp⟩) hS rfl ?_
      simp only [Act.put, List.setIfInBounds_toArray, List.set_cons_zero, List.set_cons_succ]
      refine Last.take_ (i := 7) (N := some 26) (v := .bool false) #[true, true, true, true, true, true, true, true, false, false, false, false, false, false, false, false, false, false, false, false, false, false, false, false, false] (by simp only [List.getElem?_toArray, List.getElem?_cons_zero, List.getElem?_cons_succ]; rfl) rfl (by kernel_rfl) (by exact fun _ _ _ h => h) (Or.inl ⟨by rfl, fun W hW => by first | rfl | (try dsimp only at hW); go_simp⟩) hS rfl ?_
      simp only [Act.put, List.setIfInBounds_toArray, List.set_cons_zero, List.set_cons_succ]
      refine Last.take_ (i := 8) (N := some 27) (v := .bool false) #[true, true, true, true, true, true, true, true, true, false, false, false, false, false, false, false, false, false, false, false, false, false, false, false, false] (by simp only [List.getElem?_toArray, List.getElem?_cons_zero, List.getElem?_cons_succ]; rfl) rfl (by kernel_rfl) (by exact fun _ _ _ h => h) (Or.inl ⟨by rfl, fun W hW => by first | rfl | (try dsimp only at hW); go_simp⟩) hS rfl ?_
      simp only [Act.put, List.setIfInBounds_toArray, List.set_cons_zero, List.set_cons_succ]
      refine Last.take_ (i := 9) (N := some 28) (v := .bool false) #[true, true, true, true, true, true, true, true, true, true, false, false, false, false, false, false, false, false, false, false, false, false, false, false, false] (by simp only [List.getElem?_toArray, List.getElem?_cons_zero, List.getElem?_cons_succ]; rfl) rfl (by kernel_rfl) (by exact fun _ _ _ h => h) (Or.inl ⟨by rfl, fun W hW => by first | rfl | (try dsimp only at hW); go_simp⟩) hS rfl ?_
      simp only [Act.put, List.setIfInBounds_toArray, List.set_cons_zero, List.set_cons_succ]
      refine Last.take_ (i := 10) (N := some 29) (v := .slice A7 n7 c7) #[true, true, true, true, true, true, true, true, true, true, true, false, false, false, false, false, false, false, false, false, false, false, false, false, false] (by simp only [List.getElem?_toArray, List.getElem?_cons_zero, List.getElem?_cons_succ]; rfl) rfl (by kernel_rfl) (by exact fun _ _ _ h => h) (Or.inl ⟨by rfl, fun W hW => by first | rfl | (try dsimp only at hW); go_simp⟩) hS rfl ?_
      simp only [Act.put, List.setIfInBounds_toArray, List.set_cons_zero, List.set_cons_succ]
      refine Last.take_ (i := 11) (N := some 30) (v := .string ⟨(encF 8 (.mk op key val kids)).toArray⟩) #[true, true, true, true, true, true, true, true, true, true, true, true, false, false, false, false, false, false, false, false, false, false, false, false, false] (by simp only [List.getElem?_toArray, List.getElem?_cons_zero, List.getElem?_cons_succ]; rfl) rfl (by kernel_rfl) (by exact fun _ _ _ h => h) (Or.inl ⟨by rfl, fun W hW => by first | rfl | (try dsimp only at hW); go_simp⟩) hS rfl ?_
      simp only [Act.put, List.setIfInBounds_toArray, List.set_cons_zero, List.set_cons_succ]
      refine Last.take_ (i := 12) (N := some 31) (v := .pointer (some ⟨g, 0, none⟩)) #[true, true, true, true, true, true, true, true, true, true, true, true, true, false, false, false, false, false, false, false, false, false, false, false, false] (by simp only [List.getElem?_toArray, List.getElem?_cons_zero, List.getElem?_cons_succ]; rfl) rfl (by kernel_rfl) (by exact fun _ _ _ h => h) (Or.inl ⟨by rfl, fun W hW => by first | rfl | (try dsimp only at hW); go_simp⟩) hS rfl ?_
      simp only [Act.put, List.setIfInBounds_toArray, List.set_cons_zero, List.set_cons_succ]
      refine Last.take_ (i := 13) (N := some 32) (v := .pointer (some ⟨g, 0, none⟩)) #[true, true, true, true, true, true, true, true, true, true, true, true, true, true, false, false, false, false, false, false, false, false, false, false, false] (by simp only [List.getElem?_toArray, List.getElem?_cons_zero, List.getElem?_cons_succ]; rfl) rfl (by kernel_rfl) (by exact fun _ _ _ h => h) (Or.inl ⟨by rfl, fun W hW => by first | rfl | (try dsimp only at hW); go_simp⟩) hS rfl ?_
      simp only [Act.put, List.setIfInBounds_toArray, List.set_cons_zero, List.set_cons_succ]
      refine Last.take_ (i := 14) (N := some 33) (v := .pointer (some ⟨g, 0, none⟩)) #[true, true, true, true, true, true, true, true, true, true, true, true, true, true, true, false, false, false, false, false, false, false, false, false, false] (by simp only [List.getElem?_toArray, List.getElem?_cons_zero, List.getElem?_cons_succ]; rfl) rfl (by kernel_rfl) (by exact fun _ _ _ h => h) (Or.inl ⟨by rfl, fun W hW => by first | rfl | (try dsimp only at hW); go_simp⟩) hS rfl ?_
      simp only [Act.put, List.setIfInBounds_toArray, List.set_cons_zero, List.set_cons_succ]
      refine Last.take_ (i := 15) (N := some 34) (v := .slice (some ⟨gs, off, none⟩) nb cb) #[true, true, true, true, true, true, true, true, true, true, true, true, true, true, true, true, false, false, false, false, false, false, false, false, false] (by simp only [List.getElem?_toArray, List.getElem?_cons_zero, List.getElem?_cons_succ]; rfl) rfl (by kernel_rfl) (by exact fun _ _ _ h => h) (Or.inl ⟨by rfl, fun W hW => by first | rfl | (try dsimp only at hW); go_simp⟩) hS rfl ?_
      simp only [Act.put, List.setIfInBounds_toArray, List.set_cons_zero, List.set_cons_succ]
      refine Last.take_ (i := 16) (N := some 35) (v := .int .i64 0) #[true, true, true, true, true, true, true, true, true, true, true, true, true, true, true, true, true, false, false, false, false, false, false, false, false] (by simp only [List.getElem?_toArray, List.getElem?_cons_zero, List.getElem?_cons_succ]; rfl) rfl (by kernel_rfl) (by exact fun _ _ _ h => h) (Or.inl ⟨by rfl, fun W hW => by first | rfl | (try dsimp only at hW); go_simp⟩) hS rfl ?_
      simp only [Act.put, List.setIfInBounds_toArray, List.set_cons_zero, List.set_cons_succ]
      refine Last.take_ (i := 17) (N := some 36) (v := .pointer (some ⟨g, 0, none⟩)) #[true, true, true, true, true, true, true, true, true, true, true, true, true, true, true, true, true, true, false, false, false, false, false, false, false] (by simp only [List.getElem?_toArray, List.getElem?_cons_zero, List.getElem?_cons_succ]; rfl) rfl (by kernel_rfl) (by exact fun _ _ _ h => h) (Or.inl ⟨by rfl, fun W hW => by first | rfl | (try dsimp only at hW); go_simp⟩) hS rfl ?_
      simp only [Act.put, List.setIfInBounds_toArray, List.set_cons_zero, List.set_cons_succ]
      refine Last.take_ (i := 18) (N := some 37) (v := .pointer (some ⟨g, 0, none⟩)) #[true, true, true, true, true, true, true, true, true, true, true, true, true, true, true, true, true, true, true, false, false, false, false, false, false] (by simp only [List.getElem?_toArray, List.getElem?_cons_zero, List.getElem?_cons_succ]; rfl) rfl (by kernel_rfl) (by exact fun _ _ _ h => h) (Or.inl ⟨by rfl, fun W hW => by first | rfl | (try dsimp only at hW); go_simp⟩) hS rfl ?_
      simp only [Act.put, List.setIfInBounds_toArray, List.set_cons_zero, List.set_cons_succ]
      refine Last.take_ (i := 19) (N := some 38) (v := .pointer (some ⟨g, 1, none⟩)) #[true, true, true, true, true, true, true, true, true, true, true, true, true, true, true, true, true, true, true, true, false, false, false, false, false] (by simp only [List.getElem?_toArray, List.getElem?_cons_zero, List.getElem?_cons_succ]; rfl) rfl (by kernel_rfl) (by exact fun _ _ _ h => h) (Or.inl ⟨by rfl, fun W hW => by first | rfl | (try dsimp only at hW); go_simp⟩) hS rfl ?_
      simp only [Act.put, List.setIfInBounds_toArray, List.set_cons_zero, List.set_cons_succ]
      refine Last.take_ (i := 20) (N := some 39) (v := .int .i64 (a' : Int)) #[true, true, true, true, true, true, true, true, true, true, true, true, true, true, true, true, true, true, true, true, true, false, false, false, false] (by simp only [List.getElem?_toArray, List.getElem?_cons_zero, List.getElem?_cons_succ]; rfl) rfl (by kernel_rfl) (by exact fun _ _ _ h => h) (Or.inl ⟨by rfl, fun W hW => by first | rfl | (try dsimp only at hW); go_simp⟩) hS rfl ?_
      simp only [Act.put, List.setIfInBounds_toArray, List.set_cons_zero, List.set_cons_succ]
      refine Last.take_ (i := 21) (N := some 40) (v := .slice (some ⟨gs, off, none⟩) a' cb) #[true, true, true, true, true, true, true, true, true, true, true, true, true, true, true, true, true, true, true, true, true, true, false, false, false] (by simp only [List.getElem?_toArray, List.getElem?_cons_zero, List.getElem?_cons_succ]; rfl) rfl (by kernel_rfl) (by exact fun _ _ _ h => h) (Or.inl ⟨by rfl, fun W hW => by first | rfl | (try dsimp only at hW); go_simp⟩) hS rfl ?_
      simp only [Act.put, List.setIfInBounds_toArray, List.set_cons_zero, List.set_cons_succ]
      refine Last.take_ (i := 22) (N := some 41) (v := .string ⟨(bs.take a').toArray⟩) #[true, true, true, true, true, true, true, true, true, true, true, true, true, true, true, true, true, true, true, true, true, true, true, false, false] (by simp only [List.getElem?_toArray, List.getElem?_cons_zero, List.getElem?_cons_succ]; rfl) rfl (by kernel_rfl) (by exact fun _ _ _ h => h) (Or.inl ⟨by rfl, fun W hW => by first | rfl | (try dsimp only at hW); go_simp⟩) hS rfl ?_
      simp only [Act.put, List.setIfInBounds_toArray, List.set_cons_zero, List.set_cons_succ]
      refine Last.take_ (i := 23) (N := some 42) (v := .bool (!(encF 8 (.mk op key val kids) == bs.take a'))) #[true, true, true, true, true, true, true, true, true, true, true, true, true, true, true, true, true, true, true, true, true, true, true, true, false] (by simp only [List.getElem?_toArray, List.getElem?_cons_zero, List.getElem?_cons_succ]; rfl) rfl (by kernel_rfl) (by exact fun _ _ _ h => h) (Or.inl ⟨by rfl, fun W hW => by first | rfl | (try dsimp only at hW); go_simp⟩) hS rfl ?_
      simp only [Act.put, List.setIfInBounds_toArray, List.set_cons_zero, List.set_cons_succ]
      refine Last.take_ (i := 24) (N := some 43) (v := .bool (!(encF 8 (.mk op key val kids) == bs.take a'))) #[true, true, true, true, true, true, true, true, true, true, true, true, true, true, true, true, true, true, true, true, true, true, true, true, true] (by simp only [List.getElem?_toArray, List.getElem?_cons_zero, List.getElem?_cons_succ]; rfl) rfl (by kernel_rfl) (by exact fun _ _ _ h => h) (Or.inl ⟨by rfl, fun W hW => by first | rfl | (try dsimp only at hW); go_simp⟩) hS rfl ?_
      simp only [Act.put, List.setIfInBounds_toArray, List.set_cons_zero, List.set_cons_succ]
      refine Last.done_ (by kernel_rfl) ?_
      rw [HBQ.out]
      cases bq with
      | true =>
        have HOKK : Hid (tlOK bs 0 0 = true) := by show _ = _; rw [hok1.out, HZ.out, HBQ.out]; rfl
        obtain ⟨w4, hw4⟩ : ∃ w4, w3.drew = w4 := ⟨_, rfl⟩
        have E4 : Ext Non w3 w4 := by rw [← hw4]; exact (Ext.refl Non w3).drew
        have D4 := Lib.hid (E4.obj D3.out (fun h => h))
        rw [hw4] at y0 y1 y2 y3 z0 z1 z2 z3 f0 f1 f2 f3 hlD ⊢
        have XE4 := Lib.hid E4
        clear hw4 E4 r0 r1 r2 hS
        go_wp2_with fail
        have EF := ext_set4 w4 w.heap.size (.int .i64 op) (.string key) (.string val) (.slice A n c)
        (try simp only [Exit.inBlock, Exit.then])
        refine bodyPost_ret (results_cell_row2 rfl _ _ w.heap.size 24 #[.int .i64 op, .string key, .string val, .slice A n c] (0, 0) _ rfl (row_set4 D4.out _ _ _ _) Try.underlying24 rfl (by kernel_rfl)) rfl ?_
        refine ⟨_, by rw [HOKK.out]; rfl, ?_, ?_, ?_⟩
        · rw [hf1.out, if_pos HOKK.out]
          exact ⟨.slice A n c, rfl, ((V3.out.ext0 XE4.out).ext EF (fun j hj _ h => by have h : j = w.heap.size := h; omega)).mono (fun j hj => by omega)⟩
        · rw [HRR.out]
          exact (R3.out.ext XE4.out).far EF (fun h => by have h : g = w.heap.size := h; omega) (fun j hj _ h => by have h : j = w.heap.size := h; have := HO.out j hj; omega)
        · exact (E3.out.trans0 XE4.out).trans EF (fun i hi h => by have h : i = w.heap.size := h; omega)
      | false =>
        have HOKK : Hid (tlOK bs 0 0 = false) := by show _ = _; rw [hok1.out, HBQ.out, Bool.and_false]
        obtain ⟨w4, hw4⟩ : ∃ w4, w3.drew = w4 := ⟨_, rfl⟩
        have E4 : Ext Non w3 w4 := by rw [← hw4]; exact (Ext.refl Non w3).drew
        have D4 := Lib.hid (E4.obj D3.out (fun h => h))
        rw [hw4] at y0 y1 y2 y3 z0 z1 z2 z3 f0 f1 f2 f3 hlD ⊢
        have XE4 := Lib.hid E4
        clear hw4 E4 r0 r1 r2 hS
        go_wp2_with fail
        have EF := ext_set4 w4 w.heap.size (.int .i64 0) (.string ⟨#[]⟩) (.string ⟨#[]⟩) (.slice none 0 0)
        (try simp only [Exit.inBlock, Exit.then])
        refine bodyPost_ret (results_cell_row2 rfl _ _ w.heap.size 24 #[.int .i64 0, .string ⟨#[]⟩, .string ⟨#[]⟩, .slice none 0 0] (0, 0) _ rfl (row_set4 D4.out _ _ _ _) Try.underlying24 rfl (by kernel_rfl)) rfl ?_
        refine ⟨_, by rw [HOKK.out]; rfl, ?_, ?_, ?_⟩
        · rw [hf1.out, HOKK.out]
          exact ⟨.slice none 0 0, rfl, Rd.nil _ _ _⟩
        · rw [HRR.out]
          exact (R3.out.ext XE4.out).far EF (fun h => by have h : g = w.heap.size := h; omega) (fun j hj _ h => by have h : j = w.heap.size := h; have := HO.out j hj; omega)
        · exact (E3.out.trans0 XE4.out).trans EF (fun i hi h => by have h : i = w.heap.size := h; omega)
    · have HOKK : Hid (tlOK bs 0 0 = false) := by show _ = _; rw [hok1.out, HZ.out, decide_eq_false hz0]; simp
      go_wp2_with fail
      refine Last.start_ (S := fun W => W.cell? ⟨g, 0, none⟩ = some vR ∧ W.cell? ⟨g, 1, none⟩ = some (.int .i64 (a' : Int)) ∧ W.cell? ⟨g, 2, none⟩ = some (.int .i64 0)) (ds := []) #[false, false, false, false, false, false, false, false, false, false, false, false, false, false, false, false, false, false, false, false, false, false, false, false, false] (by kernel_rfl) (by rfl) (by rfl) ⟨r0, r1, r2⟩ (fun hS => ?_)
      refine Last.take_ (i := 0) (N := some 19) (v := .pointer (some ⟨g, 0, none⟩)) #[true, false, false, false, false, false, false, false, false, false, false, false, false, false, false, false, false, false, false, false, false, false, false, false, false] (by simp only [List.getElem?_toArray, List.getElem?_cons_zero]; rfl) rfl (by kernel_rfl) (by exact fun _ _ _ h => h) (Or.inl ⟨by rfl, fun W hW => by first | rfl | (try dsimp only at hW); go_simp⟩) hS rfl ?_
      simp only [Act.put, List.setIfInBounds_toArray, List.set_cons_zero, List.set_cons_succ]
      refine Last.take_ (i := 1) (N := some 20) (v := .pointer (some ⟨g, 0, none⟩)) #[true, true, false, false, false, false, false, false, false, false, false, false, false, false, false, false, false, false, false, false, false, false, false, false, false] (by simp only [List.getElem?_toArray, List.getElem?_cons_zero, List.getElem?_cons_succ]; rfl) rfl (by kernel_rfl) (by exact fun _ _ _ h => h) (Or.inl ⟨by rfl, fun W hW => by first | rfl | (try dsimp only at hW); go_simp⟩) hS rfl ?_
      simp only [Act.put, List.setIfInBounds_toArray, List.set_cons_zero, List.set_cons_succ]
      refine Last.take_ (i := 2) (N := some 21) (v := .pointer (some ⟨g, 2, none⟩)) #[true, true, true, false, false, false, false, false, false, false, false, false, false, false, false, false, false, false, false, false, false, false, false, false, false] (by simp only [List.getElem?_toArray, List.getElem?_cons_zero, List.getElem?_cons_succ]; rfl) rfl (by kernel_rfl) (by exact fun _ _ _ h => h) (Or.inl ⟨by rfl, fun W hW => by first | rfl | (try dsimp only at hW); go_simp⟩) hS rfl ?_
      simp only [Act.put, List.setIfInBounds_toArray, List.set_cons_zero, List.set_cons_succ]
      refine Last.take_ (i := 3) (N := some 22) (v := .int .i64 0) #[true, true, true, true, false, false, false, false, false, false, false, false, false, false, false, false, false, false, false, false, false, false, false, false, false] (by simp only [List.getElem?_toArray, List.getElem?_cons_zero, List.getElem?_cons_succ]; rfl) rfl (by kernel_rfl) (by exact fun _ _ _ h => h) (Or.inl ⟨by rfl, fun W hW => by first | rfl | (try dsimp only at hW); go_simp⟩) hS rfl ?_
      simp only [Act.put, List.setIfInBounds_toArray, List.set_cons_zero, List.set_cons_succ]
      refine Last.take_ (i := 4) (N := some 23) (v := .bool false) #[true, true, true, true, true, false, false, false, false, false, false, false, false, false, false, false, false, false, false, false, false, false, false, false, false] (by simp only [List.getElem?_toArray, List.getElem?_cons_zero, List.getElem?_cons_succ]; rfl) rfl (by kernel_rfl) (by exact fun _ _ _ h => h) (Or.inl ⟨by rfl, fun W hW => by first | rfl | (try dsimp only at hW); go_simp⟩) hS rfl ?_
      simp only [Act.put, List.setIfInBounds_toArray, List.set_cons_zero, List.set_cons_succ]
      refine Last.take_ (i := 5) (N := some 24) (v := .bool false) #[true, true, true, true, true, true, false, false, false, false, false, false, false, false, false, false, false, false, false, false, false, false, false, false, false] (by simp only [List.getElem?_toArray, List.getElem?_cons_zero, List.getElem?_cons_succ]; rfl) rfl (by kernel_rfl) (by exact fun _ _ _ h => h) (Or.inl ⟨by rfl, fun W hW => by first | rfl | (try dsimp only at hW); go_simp⟩) hS rfl ?_
      simp only [Act.put, List.setIfInBounds_toArray, List.set_cons_zero, List.set_cons_succ]
      refine Last.take_ (i := 6) (N := some 25) (v := .int .i64 z) #[true, true, true, true, true, true, true, false, false, false, false, false, false, false, false, false, false, false, false, false, false, false, false, false, false] (by simp only [List.getElem?_toArray, List.getElem?_cons_zero, List.getElem?_cons_succ]; rfl) rfl (by kernel_rfl) (by exact fun _ _ _ h => h) (Or.inl ⟨by rfl, fun W hW => by first | rfl | (try dsimp only at hW); go_simp⟩) hS rfl ?_
      simp only [Act.put, List.setIfInBounds_toArray, List.set_cons_zero, List.set_cons_succ]
      refine Last.take_ (i := 7) (N := some 26) (v := .bool true) #[true, true, true, true, true, true, true, true, false, false, false, false, false, false, false, false, false, false, false, false, false, false, false, false, false] (by simp only [List.getElem?_toArray, List.getElem?_cons_zero, List.getElem?_cons_succ]; rfl) rfl (by kernel_rfl) (by exact fun _ _ _ h => h) (Or.inl ⟨by rfl, fun W hW => by first | rfl | (try dsimp only at hW); go_simp⟩) hS rfl ?_
      simp only [Act.put, List.setIfInBounds_toArray, List.set_cons_zero, List.set_cons_succ]
      refine Last.take_ (i := 8) (N := some 27) (v := .bool true) #[true, true, true, true, true, true, true, true, true, false, false, false, false, false, false, false, false, false, false, false, false, false, false, false, false] (by simp only [List.getElem?_toArray, List.getElem?_cons_zero, List.getElem?_cons_succ]; rfl) rfl (by kernel_rfl) (by exact fun _ _ _ h => h) (Or.inl ⟨by rfl, fun W hW => by first | rfl | (try dsimp only at hW); go_simp⟩) hS rfl ?_
      simp only [Act.put, List.setIfInBounds_toArray, List.set_cons_zero, List.set_cons_succ]
      refine Last.take_ (i := 9) (N := some 28) (v := .bool true) #[true, true, true, true, true, true, true, true, true, true, false, false, false, false, false, false, false, false, false, false, false, false, false, false, false] (by simp only [List.getElem?_toArray, List.getElem?_cons_zero, List.getElem?_cons_succ]; rfl) rfl (by kernel_rfl) (by exact fun _ _ _ h => h) (Or.inl ⟨by rfl, fun W hW => by first | rfl | (try dsimp only at hW); go_simp⟩) hS rfl ?_
      simp only [Act.put, List.setIfInBounds_toArray, List.set_cons_zero, List.set_cons_succ]
      refine Last.take_ (i := 10) (N := some 29) (v := undef) #[true, true, true, true, true, true, true, true, true, true, true, false, false, false, false, false, false, false, false, false, false, false, false, false, false] (by simp only [List.getElem?_toArray, List.getElem?_cons_zero, List.getElem?_cons_succ]; rfl) rfl (by kernel_rfl) (by exact fun _ _ _ h => h) (Or.inr ⟨by rfl, rfl⟩) hS rfl ?_
      simp only [Act.put, List.setIfInBounds_toArray, List.set_cons_zero, List.set_cons_succ]
      refine Last.take_ (i := 11) (N := some 30) (v := undef) #[true, true, true, true, true, true, true, true, true, true, true, true, false, false, false, false, false, false, false, false, false, false, false, false, false] (by simp only [List.getElem?_toArray, List.getElem?_cons_zero, List.getElem?_cons_succ]; rfl) rfl (by kernel_rfl) (by exact fun _ _ _ h => h) (Or.inr ⟨by rfl, rfl⟩) hS rfl ?_
      simp only [Act.put, List.setIfInBounds_toArray, List.set_cons_zero, List.set_cons_succ]
      refine Last.take_ (i := 12) (N := some 31) (v := undef) #[true, true, true, true, true, true, true, true, true, true, true, true, true, false, false, false, false, false, false, false, false, false, false, false, false] (by simp only [List.getElem?_toArray, List.getElem?_cons_zero, List.getElem?_cons_succ]; rfl) rfl (by kernel_rfl) (by exact fun _ _ _ h => h) (Or.inr ⟨by rfl, rfl⟩) hS rfl ?_
      simp only [Act.put, List.setIfInBounds_toArray, List.set_cons_zero, List.set_cons_succ]
      refine Last.take_ (i := 13) (N := some 32) (v := undef) #[true, true, true, true, true, true, true, true, true, true, true, true, true, true, false, false, false, false, false, false, false, false, false, false, false] (by simp only [List.getElem?_toArray, List.getElem?_cons_zero, List.getElem?_cons_succ]; rfl) rfl (by kernel_rfl) (by exact fun _ _ _ h => h) (Or.inr ⟨by rfl, rfl⟩) hS rfl ?_
      simp only [Act.put, List.setIfInBounds_toArray, List.set_cons_zero, List.set_cons_succ]
      refine Last.take_ (i := 14) (N := some 33) (v := undef) #[true, true, true, true, true, true, true, true, true, true, true, true, true, true, true, false, false, false, false, false, false, false, false, false, false] (by simp only [List.getElem?_toArray, List.getElem?_cons_zero, List.getElem?_cons_succ]; rfl) rfl (by kernel_rfl) (by exact fun _ _ _ h => h) (Or.inr ⟨by rfl, rfl⟩) hS rfl ?_
      simp only [Act.put, List.setIfInBounds_toArray, List.set_cons_zero, List.set_cons_succ]
      refine Last.take_ (i := 15) (N := some 34) (v := undef) #[true, true, true, true, true, true, true, true, true, true, true, true, true, true, true, true, false, false, false, false, false, false, false, false, false] (by simp only [List.getElem?_toArray, List.getElem?_cons_zero, List.getElem?_cons_succ]; rfl) rfl (by kernel_rfl) (by exact fun _ _ _ h => h) (Or.inr ⟨by rfl, rfl⟩) hS rfl ?_
      simp only [Act.put, List.setIfInBounds_toArray, List.set_cons_zero, List.set_cons_succ]
      refine Last.take_ (i := 16) (N := some 35) (v := undef) #[true, true, true, true, true, true, true, true, true, true, true, true, true, true, true, true, true, false, false, false, false, false, false, false, false] (by simp only [List.getElem?_toArray, List.getElem?_cons_zero, List.getElem?_cons_succ]; rfl) rfl (by kernel_rfl) (by exact fun _ _ _ h => h) (Or.inr ⟨by rfl, rfl⟩) hS rfl ?_
      simp only [Act.put, List.setIfInBounds_toArray, List.set_cons_zero, List.set_cons_succ]
      refine Last.take_ (i := 17) (N := some 36) (v := undef) #[true, true, true, true, true, true, true, true, true, true, true, true, true, true, true, true, true, true, false, false, false, false, false, false, false] (by simp only [List.getElem?_toArray, List.getElem?_cons_zero, List.getElem?_cons_succ]; rfl) rfl (by kernel_rfl) (by exact fun _ _ _ h => h) (Or.inr ⟨by rfl, rfl⟩) hS rfl ?_
      simp only [Act.put, List.setIfInBounds_toArray, List.set_cons_zero, List.set_cons_succ]
      refine Last.take_ (i := 18) (N := some 37) (v := undef) #[true, true, true, true, true, true, true, true, true, true, true, true, true, true, true, true, true, true, true, false, false, false, false, false, false] (by simp only [List.getElem?_toArray, List.getElem?_cons_zero, List.getElem?_cons_succ]; rfl) rfl (by kernel_rfl) (by exact fun _ _ _ h => h) (Or.inr ⟨by rfl, rfl⟩) hS rfl ?_
      simp only [Act.put, List.setIfInBounds_toArray, List.set_cons_zero, List.set_cons_succ]
      refine Last.take_ (i := 19) (N := some 38) (v := undef) #[true, true, true, true, true, true, true, true, true, true, true, true, true, true, true, true, true, true, true, true, false, false, false, false, false] (by simp only [List.getElem?_toArray, List.getElem?_cons_zero, List.getElem?_cons_succ]; rfl) rfl (by kernel_rfl) (by exact fun _ _ _ h => h) (Or.inr ⟨by rfl, rfl⟩) hS rfl ?_
      simp only [Act.put, List.setIfInBounds_toArray, List.set_cons_zero, List.set_cons_succ]
      refine Last.take_ (i := 20) (N := some 39) (v := undef) #[true, true, true, true, true, true, true, true, true, true, true, true, true, true, true, true, true, true, true, true, true, false, false, false, false] (by simp only [List.getElem?_toArray, List.getElem?_cons_zero, List.getElem?_cons_succ]; rfl) rfl (by kernel_rfl) (by exact fun _ _ _ h => h) (Or.inr ⟨by rfl, rfl⟩) hS rfl ?_
      simp only [Act.put, List.setIfInBounds_toArray, List.set_cons_zero, List.set_cons_succ]
      refine Last.take_ (i := 21) (N := some 40) (v := undef) #[true, true, true, true, true, true, true, true, true, true, true, true, true, true, true, true, true, true, true, true, true, true, false, false, false] (by simp only [List.getElem?_toArray, List.getElem?_cons_zero, List.getElem?_cons_succ]; rfl) rfl (by kernel_rfl) (by exact fun _ _ _ h => h) (Or.inr ⟨by rfl, rfl⟩) hS rfl ?_
      simp only [Act.put, List.setIfInBounds_toArray, List.set_cons_zero, List.set_cons_succ]
      refine Last.take_ (i := 22) (N := some 41) (v := undef) #[true, true, true, true, true, true, true, true, true, true, true, true, true, true, true, true, true, true, true, true, true, true, true, false, false] (by simp only [List.getElem?_toArray, List.getElem?_cons_zero, List.getElem?_cons_succ]; rfl) rfl (by kernel_rfl) (by exact fun _ _ _ h => h) (Or.inr ⟨by rfl, rfl⟩) hS rfl ?_
      simp only [Act.put, List.setIfInBounds_toArray, List.set_cons_zero, List.set_cons_succ]
      refine Last.take_ (i := 23) (N := some 42) (v := undef) #[true, true, true, true, true, true, true, true, true, true, true, true, true, true, true, true, true, true, true, true, true, true, true, true, false] (by simp only [List.getElem?_toArray, List.getElem?_cons_zero, List.getElem?_cons_succ]; rfl) rfl (by kernel_rfl) (by exact fun _ _ _ h => h) (Or.inr ⟨by rfl, rfl⟩) hS rfl ?_
      simp only [Act.put, List.setIfInBounds_toArray, List.set_cons_zero, List.set_cons_succ]
      refine Last.take_ (i := 24) (N := some 43) (v := .bool true) #[true, true, true, true, true, true, true, true, true, true, true, true, true, true, true, true, true, true, true, true, true, true, true, true, true] (by simp only [List.getElem?_toArray, List.getElem?_cons_zero, List.getElem?_cons_succ]; rfl) rfl (by kernel_rfl) (by exact fun _ _ _ h => h) (Or.inl ⟨by rfl, fun W hW => by first | rfl | (try dsimp only at hW); go_simp⟩) hS rfl ?_
      simp only [Act.put, List.setIfInBounds_toArray, List.set_cons_zero, List.set_cons_succ]
      refine Last.done_ (by kernel_rfl) ?_
      obtain ⟨w4, hw4⟩ : ∃ w4, w3.drew = w4 := ⟨_, rfl⟩
      have E4 : Ext Non w3 w4 := by rw [← hw4]; exact (Ext.refl Non w3).drew
      have D4 := Lib.hid (E4.obj D3.out (fun h => h))
      rw [hw4] at y0 y1 y2 y3 z0 z1 z2 z3 f0 f1 f2 f3 hlD ⊢
      have XE4 := Lib.hid E4
      clear hw4 E4 r0 r1 r2 hS
      go_wp2_with fail
      have EF := ext_set4 w4 w.heap.size (.int .i64 0) (.string ⟨#[]⟩) (.string ⟨#[]⟩) (.slice none 0 0)
      (try simp only [Exit.inBlock, Exit.then])
      refine bodyPost_ret (results_cell_row2 rfl _ _ w.heap.size 24 #[.int .i64 0, .string ⟨#[]⟩, .string ⟨#[]⟩, .slice none 0 0] (0, 0) _ rfl (row_set4 D4.out _ _ _ _) Try.underlying24 rfl (by kernel_rfl)) rfl ?_
      refine ⟨_, by rw [HOKK.out]; rfl, ?_, ?_, ?_⟩
      · rw [hf1.out, HOKK.out]
        exact ⟨.slice none 0 0, rfl, Rd.nil _ _ _⟩
      · rw [HRR.out]
        exact (R3.out.ext XE4.out).far EF (fun h => by have h : g = w.heap.size := h; omega) (fun j hj _ h => by have h : j = w.heap.size := h; have := HO.out j hj; omega)
      · exact (E3.out.trans0 XE4.out).trans EF (fun i hi h => by have h : i = w.heap.size := h; omega)
  · have HOKK : Hid (tlOK bs 0 0 = false) := by show _ = _; rw [hok1.out, decide_eq_false h0]; simp
    go_wp2_with fail
    refine Last.start_ (S := fun W => W.cell? ⟨g, 0, none⟩ = some vR ∧ W.cell? ⟨g, 1, none⟩ = some (.int .i64 (a' : Int)) ∧ W.cell? ⟨g, 2, none⟩ = some (.int .i64 e')) (ds := []) #[false, false, false, false, false, false, false, false, false, false, false, false, false, false, false, false, false, false, false, false, false, false, false, false, false] (by kernel_rfl) (by rfl) (by rfl) ⟨r0, r1, r2⟩ (fun hS => ?_)
    refine Last.take_ (i := 0) (N := some 19) (v := .pointer (some ⟨g, 0, none⟩)) #[true, false, false, false, false, false, false, false, false, false, false, false, false, false, false, false, false, false, false, false, false, false, false, false, false] (by simp only [List.getElem?_toArray, List.getElem?_cons_zero]; rfl) rfl (by kernel_rfl) (by exact fun _ _ _ h => h) (Or.inl ⟨by rfl, fun W hW => by first | rfl | (try dsimp only at hW); go_simp⟩) hS rfl ?_
    simp only [Act.put, List.setIfInBounds_toArray, List.set_cons_zero, List.set_cons_succ]
    refine Last.take_ (i := 1) (N := some 20) (v := .pointer (some ⟨g, 0, none⟩)) #[true, true, false, false, false, false, false, false, false, false, false, false, false, false, false, false, false, false, false, false, false, false, false, false, false] (by simp only [List.getElem?_toArray, List.getElem?_cons_zero, List.getElem?_cons_succ]; rfl) rfl (by kernel_rfl) (by exact fun _ _ _ h => h) (Or.inl ⟨by rfl, fun W hW => by first | rfl | (try dsimp only at hW); go_simp⟩) hS rfl ?_
    simp only [Act.put, List.setIfInBounds_toArray, List.set_cons_zero, List.set_cons_succ]
    refine Last.take_ (i := 2) (N := some 21) (v := .pointer (some ⟨g, 2, none⟩)) #[true, true, true, false, false, false, false, false, false, false, false, false, false, false, false, false, false, false, false, false, false, false, false, false, false] (by simp only [List.getElem?_toArray, List.getElem?_cons_zero, List.getElem?_cons_succ]; rfl) rfl (by kernel_rfl) (by exact fun _ _ _ h => h) (Or.inl ⟨by rfl, fun W hW => by first | rfl | (try dsimp only at hW); go_simp⟩) hS rfl ?_
    simp only [Act.put, List.setIfInBounds_toArray, List.set_cons_zero, List.set_cons_succ]
    refine Last.take_ (i := 3) (N := some 22) (v := .int .i64 e') #[true, true, true, true, false, false, false, false, false, false, false, false, false, false, false, false, false, false, false, false, false, false, false, false, false] (by simp only [List.getElem?_toArray, List.getElem?_cons_zero, List.getElem?_cons_succ]; rfl) rfl (by kernel_rfl) (by exact fun _ _ _ h => h) (Or.inl ⟨by rfl, fun W hW => by first | rfl | (try dsimp only at hW); go_simp⟩) hS rfl ?_
    simp only [Act.put, List.setIfInBounds_toArray, List.set_cons_zero, List.set_cons_succ]
    refine Last.take_ (i := 4) (N := some 23) (v := .bool true) #[true, true, true, true, true, false, false, false, false, false, false, false, false, false, false, false, false, false, false, false, false, false, false, false, false] (by simp only [List.getElem?_toArray, List.getElem?_cons_zero, List.getElem?_cons_succ]; rfl) rfl (by kernel_rfl) (by exact fun _ _ _ h => h) (Or.inl ⟨by rfl, fun W hW => by first | rfl | (try dsimp only at hW); go_simp⟩) hS rfl ?_
    simp only [Act.put, List.setIfInBounds_toArray, List.set_cons_zero, List.set_cons_succ]
    refine Last.take_ (i := 5) (N := some 24) (v := .bool true) #[true, true, true, true, true, true, false, false, false, false, false, false, false, false, false, false, false, false, false, false, false, false, false, false, false] (by simp only [List.getElem?_toArray, List.getElem?_cons_zero, List.getElem?_cons_succ]; rfl) rfl (by kernel_rfl) (by exact fun _ _ _ h => h) (Or.inl ⟨by rfl, fun W hW => by first | rfl | (try dsimp only at hW); go_simp⟩) hS rfl ?_
    simp only [Act.put, List.setIfInBounds_toArray, List.set_cons_zero, List.set_cons_succ]
    refine Last.take_ (i := 6) (N := some 25) (v := undef) #[true, true, true, true, true, true, true, false, false, false, false, false, false, false, false, false, false, false, false, false, false, false, false, false, false] (by simp only [List.getElem?_toArray, List.getElem?_cons_zero, List.getElem?_cons_succ]; rfl) rfl (by kernel_rfl) (by exact fun _ _ _ h => h) (Or.inr ⟨by rfl, rfl⟩) hS rfl ?_
    simp only [Act.put, List.setIfInBounds_toArray, List.set_cons_zero, List.set_cons_succ]
    refine Last.take_ (i := 7) (N := some 26) (v := undef) #[true, true, true, true, true, true, true, true, false, false, false, false, false, false, false, false, false, false, false, false, false, false, false, false, false] (by simp only [List.getElem?_toArray, List.getElem?_cons_zero, List.getElem?_cons_succ]; rfl) rfl (by kernel_rfl) (by exact fun _ _ _ h => h) (Or.inr ⟨by rfl, rfl⟩) hS rfl ?_
    simp only [Act.put, List.setIfInBounds_toArray, List.set_cons_zero, List.set_cons_succ]
    refine Last.take_ (i := 8) (N := some 27) (v := .bool true) #[true, true, true, true, true, true, true, true, true, false, false, false, false, false, false, false, false, false, false, false, false, false, false, false, false] (by simp only [List.getElem?_toArray, List.getElem?_cons_zero, List.getElem?_cons_succ]; rfl) rfl (by kernel_rfl) (by exact fun _ _ _ h => h) (Or.inl ⟨by rfl, fun W hW => by first | rfl | (try dsimp only at hW); go_simp⟩) hS rfl ?_
    simp only [Act.put, List.setIfInBounds_toArray, List.set_cons_zero, List.set_cons_succ]
    refine Last.take_ (i := 9) (N := some 28) (v := .bool true) #[true, true, true, true, true, true, true, true, true, true, false, false, false, false, false, false, false, false, false, false, false, false, false, false, false] (by simp only [List.getElem?_toArray, List.getElem?_cons_zero, List.getElem?_cons_succ]; rfl) rfl (by kernel_rfl) (by exact fun _ _ _ h => h) (Or.inl ⟨by rfl, fun W hW => by first | rfl | (try dsimp only at hW); go_simp⟩) hS rfl ?_
    simp only [Act.put, List.setIfInBounds_toArray, List.set_cons_zero, List.set_cons_succ]
    refine Last.take_ (i := 10) (N := some 29) (v := undef) #[true, true, true, true, true, true, true, true, true, true, true, false, false, false, false, false, false, false, false, false, false, false, false, false, false] (by simp only [List.getElem?_toArray, List.getElem?_cons_zero, List.getElem?_cons_succ]; rfl) rfl (by kernel_rfl) (by exact fun _ _ _ h => h) (Or.inr ⟨by rfl, rfl⟩) hS rfl ?_
    simp only [Act.put, List.setIfInBounds_toArray, List.set_cons_zero, List.set_cons_succ]
    refine Last.take_ (i := 11) (N := some 30) (v := undef) #[true, true, true, true, true, true, true, true, true, true, true, true, false, false, false, false, false, false, false, false, false, false, false, false, false] (by simp only [List.getElem?_toArray, List.getElem?_cons_zero, List.getElem?_cons_succ]; rfl) rfl (by kernel_rfl) (by exact fun _ _ _ h => h) (Or.inr ⟨by rfl, rfl⟩) hS rfl ?_
    simp only [Act.put, List.setIfInBounds_toArray, List.set_cons_zero, List.set_cons_succ]
    refine Last.take_ (i := 12) (N := some 31) (v := undef) #[true, true, true, true, true, true, true, true, true, true, true, true, true, false, false, false, false, false, false, false, false, false, false, false, false] (by simp only [List.getElem?_toArray, List.getElem?_cons_zero, List.getElem?_cons_succ]; rfl) rfl (by kernel_rfl) (by exact fun _ _ _ h => h) (Or.inr ⟨by rfl, rfl⟩) hS rfl ?_
    simp only [Act.put, List.setIfInBounds_toArray, List.set_cons_zero, List.set_cons_succ]
    refine Last.take_ (i := 13) (N := some 32) (v := undef) #[true, true, true, true, true, true, true, true, true, true, true, true, true, true, false, false, false, false, false, false, false, false, false, false, false] (by simp only [List.getElem?_toArray, List.getElem?_cons_zero, List.getElem?_cons_succ]; rfl) rfl (by kernel_rfl) (by exact fun _ _ _ h => h) (Or.inr ⟨by rfl, rfl⟩) hS rfl ?_
    simp only [Act.put, List.setIfInBounds_toArray, List.set_cons_zero, List.set_cons_succ]
    refine Last.take_ (i := 14) (N := some 33) (v := undef) #[true, true, true, true, true, true, true, true, true, true, true, true, true, true, true, false, false, false, false, false, false, false, false, false, false] (by simp only [List.getElem?_toArray, List.getElem?_cons_zero, List.getElem?_cons_succ]; rfl) rfl (by kernel_rfl) (by exact fun _ _ _ h => h) (Or.inr ⟨by rfl, rfl⟩) hS rfl ?_
    simp only [Act.put, List.setIfInBounds_toArray, List.set_cons_zero, List.set_cons_succ]
    refine Last.take_ (i := 15) (N := some 34) (v := undef) #[true, true, true, true, true, true, true, true, true, true, true, true, true, true, true, true, false, false, false, false, false, false, false, false, false] (by simp only [List.getElem?_toArray, List.getElem?_cons_zero, List.getElem?_cons_succ]; rfl) rfl (by kernel_rfl) (by exact fun _ _ _ h => h) (Or.inr ⟨by rfl, rfl⟩) hS rfl ?_
    simp only [Act.put, List.setIfInBounds_toArray, List.set_cons_zero, List.set_cons_succ]
    refine Last.take_ (i := 16) (N := some 35) (v := undef) #[true, true, true, true, true, true, true, true, true, true, true, true, true, true, true, true, true, false, false, false, false, false, false, false, false] (by simp only [List.getElem?_toArray, List.getElem?_cons_zero, List.getElem?_cons_succ]; rfl) rfl (by kernel_rfl) (by exact fun _ _ _ h => h) (Or.inr ⟨by rfl, rfl⟩) hS rfl ?_
    simp only [Act.put, List.setIfInBounds_toArray, List.set_cons_zero, List.set_cons_succ]
    refine Last.take_ (i := 17) (N := some 36) (v := undef) #[true, true, true, true, true, true, true, true, true, true, true, true, true, true, true, true, true, true, false, false, false, false, false, false, false] (by simp only [List.getElem?_toArray, List.getElem?_cons_zero, List.getElem?_cons_succ]; rfl) rfl (by kernel_rfl) (by exact fun _ _ _ h => h) (Or.inr ⟨by rfl, rfl⟩) hS rfl ?_
    simp only [Act.put, List.setIfInBounds_toArray, List.set_cons_zero, List.set_cons_succ]
    refine Last.take_ (i := 18) (N := some 37) (v := undef) #[true, true, true, true, true, true, true, true, true, true, true, true, true, true, true, true, true, true, true, false, false, false, false, false, false] (by simp only [List.getElem?_toArray, List.getElem?_cons_zero, List.getElem?_cons_succ]; rfl) rfl (by kernel_rfl) (by exact fun _ _ _ h => h) (Or.inr ⟨by rfl, rfl⟩) hS rfl ?_
    simp only [Act.put, List.setIfInBounds_toArray, List.set_cons_zero, List.set_cons_succ]
    refine Last.take_ (i := 19) (N := some 38) (v := undef) #[true, true, true, true, true, true, true, true, true, true, true, true, true, true, true, true, true, true, true, true, false, false, false, false, false] (by simp only [List.getElem?_toArray, List.getElem?_cons_zero, List.getElem?_cons_succ]; rfl) rfl (by kernel_rfl) (by exact fun _ _ _ h => h) (Or.inr ⟨by rfl, rfl⟩) hS rfl ?_
    simp only [Act.put, List.setIfInBounds_toArray, List.set_cons_zero, List.set_cons_succ]
    refine Last.take_ (i := 20) (N := some 39) (v := undef) #[true, true, true, true, true, true, true, true, true, true, true, true, true, true, true, true, true, true, true, true, true, false, false, false, false] (by simp only [List.getElem?_toArray, List.getElem?_cons_zero, List.getElem?_cons_succ]; rfl) rfl (by kernel_rfl) (by exact fun _ _ _ h => h) (Or.inr ⟨by rfl, rfl⟩) hS rfl ?_
    simp only [Act.put, List.setIfInBounds_toArray, List.set_cons_zero, List.set_cons_succ]
    refine Last.take_ (i := 21) (N := some 40) (v := undef) #[true, true, true, true, true, true, true, true, true, true, true, true, true, true, true, true, true, true, true, true, true, true, false, false, false] (by simp only [List.getElem?_toArray, List.getElem?_cons_zero, List.getElem?_cons_succ]; rfl) rfl (by kernel_rfl) (by exact fun _ _ _ h => h) (Or.inr ⟨by rfl, rfl⟩) hS rfl ?_
    simp only [Act.put, List.setIfInBounds_toArray, List.set_cons_zero, List.set_cons_succ]
    refine Last.take_ (i := 22) (N := some 41) (v := undef) #[true, true, true, true, true, true, true, true, true, true, true, true, true, true, true, true, true, true, true, true, true, true, true, false, false] (by simp only [List.getElem?_toArray, List.getElem?_cons_zero, List.getElem?_cons_succ]; rfl) rfl (by kernel_rfl) (by exact fun _ _ _ h => h) (Or.inr ⟨by rfl, rfl⟩) hS rfl ?_
    simp only [Act.put, List.setIfInBounds_toArray, List.set_cons_zero, List.set_cons_succ]
    refine Last.take_ (i := 23) (N := some 42) (v := undef) #[true, true, true, true, true, true, true, true, true, true, true, true, true, true, true, true, true, true, true, true, true, true, true, true, false] (by simp only [List.getElem?_toArray, List.getElem?_cons_zero, List.getElem?_cons_succ]; rfl) rfl (by kernel_rfl) (by exact fun _ _ _ h => h) (Or.inr ⟨by rfl, rfl⟩) hS rfl ?_
    simp only [Act.put, List.setIfInBounds_toArray, List.set_cons_zero, List.set_cons_succ]
    refine Last.take_ (i := 24) (N := some 43) (v := .bool true) #[true, true, true, true, true, true, true, true, true, true, true, true, true, true, true, true, true, true, true, true, true, true, true, true, true] (by simp only [List.getElem?_toArray, List.getElem?_cons_zero, List.getElem?_cons_succ]; rfl) rfl (by kernel_rfl) (by exact fun _ _ _ h => h) (Or.inl ⟨by rfl, fun W hW => by first | rfl | (try dsimp only at hW); go_simp⟩) hS rfl ?_
    simp only [Act.put, List.setIfInBounds_toArray, List.set_cons_zero, List.set_cons_succ]
    refine Last.done_ (by kernel_rfl) ?_
    obtain ⟨w4, hw4⟩ : ∃ w4, w3.drew = w4 := ⟨_, rfl⟩
    have E4 : Ext Non w3 w4 := by rw [← hw4]; exact (Ext.refl Non w3).drew
    have D4 := Lib.hid (E4.obj D3.out (fun h => h))
    rw [hw4] at y0 y1 y2 y3 z0 z1 z2 z3 f0 f1 f2 f3 hlD ⊢
    have XE4 := Lib.hid E4
    clear hw4 E4 r0 r1 r2 hS
    go_wp2_with fail
    have EF := ext_set4 w4 w.heap.size (.int .i64 0) (.string ⟨#[]⟩) (.string ⟨#[]⟩) (.slice none 0 0)
    (try simp only [Exit.inBlock, Exit.then])
    refine bodyPost_ret (results_cell_row2 rfl _ _ w.heap.size 24 #[.int .i64 0, .string ⟨#[]⟩, .string ⟨#[]⟩, .slice none 0 0] (0, 0) _ rfl (row_set4 D4.out _ _ _ _) Try.underlying24 rfl (by kernel_rfl)) rfl ?_
    refine ⟨_, by rw [HOKK.out]; rfl, ?_, ?_, ?_⟩
    · rw [hf1.out, HOKK.out]
      exact ⟨.slice none 0 0, rfl, Rd.nil _ _ _⟩
    · rw [HRR.out]
      exact (R3.out.ext XE4.out).far EF (fun h => by have h : g = w.heap.size := h; omega) (fun j hj _ h => by have h : j = w.heap.size := h; have := HO.out j hj; omega)
    · exact (E3.out.trans0 XE4.out).trans EF (fun i hi h => by have h : i = w.heap.size := h; omega)
/-- Whether the document's Get gets; what it tells. -/
def glOK (bs : List UInt8) : Bool := tlOK bs 0 0 && decide (rEnd bs (rdT 192 bs 7 0 0).2.1 (rdT 192 bs 7 0 0).2.2 = 0)
def glF (bs : List UInt8) : Flt := if glOK bs = true then (rdT 192 bs 7 0 0).1 else noF
def glE (bs : List UInt8) : Int := if glOK bs = true then 0 else 50
def RGetPost (bs : List UInt8) (w : World) (e : Ending) (w' : World) : Prop :=
  ∃ x, e = .returned (.tuple #[x, .int .i64 (glE bs)]) ∧ FV 7 w' (fun j => w.heap.size ≤ j) x (glF bs) ∧ Ext Non w w'
set_option maxRecDepth 100000 in
set_option maxHeartbeats 8000000 in
theorem RGet_calls {w : World} {ok : Nat → Prop} {Ab : Option Addr} {nb cb : Nat} {bs : List UInt8} (H : Rd Kd.u8 w ok (.slice Ab nb cb) bs) (hbl : bs.length ≤ 140737488355328) :
    Calls Try.prog 31 #[.slice Ab nb cb] w (RGetPost bs w) := by
  have HH := Lib.hid H.bound
  have HBL := Lib.hid hbl
  obtain ⟨b, hb⟩ : ∃ b, tlOK bs 0 0 = b := ⟨_, rfl⟩
  have HB := Lib.hid hb
  have hle := (rdT_le (bs := bs) 192 7 0 0 (Nat.zero_le _)).1
  obtain ⟨r, hr⟩ : ∃ r, (rdT 192 bs 7 0 0).2 = r := ⟨_, rfl⟩
  rw [hr] at hle
  obtain ⟨a', e'⟩ := r
  have HRR : Hid ((rdT 192 bs 7 0 0).2 = (a', e')) := hr
  have HLE : Hid (a' ≤ bs.length) := hle
  obtain ⟨z, hz⟩ : ∃ z, rEnd bs a' e' = z := ⟨_, rfl⟩
  have HZ := Lib.hid hz
  have hg1 : Hid (glOK bs = (b && decide (z = 0))) := by
    show _ = _
    unfold glOK
    rw [hb, hr]
    show (b && decide (rEnd bs a' e' = 0)) = _
    rw [hz]
  clear hb hr hle hz H hbl
  go_enter Try.func31, Try.ntmps31
  go_wp2_with fail
  obtain ⟨w0, hw0⟩ : ∃ w0, w.alloc (.cells #[.int .i64 0, .string ⟨#[]⟩, .string ⟨#[]⟩, .slice none 0 0] 24) = w0 := ⟨_, rfl⟩
  have hB0 : w0.heap[w.heap.size]? = some (.cells #[.int .i64 0, .string ⟨#[]⟩, .string ⟨#[]⟩, .slice none 0 0] 24) := by rw [← hw0]; exact blk_new _ _
  have hE0 : Ext Non w w0 := by rw [← hw0]; exact (Ext.refl _ _).alloc _
  obtain ⟨w1, hw1⟩ : ∃ w1, w0.alloc (.cells #[.slice Ab nb cb, .int .i64 0, .int .i64 0] 34) = w1 := ⟨_, rfl⟩
  obtain ⟨g, hgq⟩ : ∃ g, w0.heap.size = g := ⟨_, rfl⟩
  have hz0 : w.heap.size < w0.heap.size := blk_lt hB0
  have hBR : w1.heap[g]? = some (.cells #[.slice Ab nb cb, .int .i64 0, .int .i64 0] 34) := by rw [← hw1, ← hgq]; exact blk_new _ _
  have hE01 : Ext Non w0 w1 := by rw [← hw1]; exact (Ext.refl _ _).alloc _
  have E1 : Hid (Ext Non w w1) := hE0.trans0 hE01
  have D1 := Lib.hid (hE01.obj hB0 (fun h => h))
  have R1 : Hid (RrAt w1 (fun k => ok k ∧ k < w.heap.size) g bs 0 0) := ⟨_, hBR, HH.out.ext0 E1.out⟩
  have hg1' : g < w1.heap.size := blk_lt hBR
  have hg0 : w0.heap.size ≤ g := by omega
  have HW0 := Lib.hid hw0
  have HW1 := Lib.hid hw1
  have HGQ : Hid (w.heap.size + 1 = g) := by show _ = _; rw [← hgq, ← hw0]; simp
  have hzw := E1.out.size
  clear hw0 hw1 hgq hBR hE01 hE0 hB0
  go_wp2_with fail
  rw [HW0.out, HGQ.out, HW1.out]
  refine (RTake_calls R1.out (fun h => by have := h.2; omega) (fun j hj => by have := hj.2; omega) hg1' (Nat.zero_le _) HBL.out).mono ?_
  rintro e1 w2 ⟨x, rfl, hF, hR2, he⟩
  rw [HRR.out] at hR2
  rw [HB.out]
  obtain ⟨v, rfl, hr⟩ := hF
  obtain ⟨A, n, c, rfl, hn⟩ := rd_abs hr
  obtain ⟨f, hf⟩ : ∃ f, tlF bs 0 0 = f := ⟨_, rfl⟩
  have HF := Lib.hid hf
  rw [hf] at hr ⊢
  obtain ⟨op, key, val, kids⟩ := f
  dsimp only [Flt.op, Flt.key, Flt.val]
  have V2 : Hid (Rd (fltK 7) w2 (fun j => w1.heap.size ≤ j) (.slice A n c) kids) := hr
  have R2 : Hid (RrAt w2 _ g bs a' e') := hR2
  have E2 : Hid (Ext Non w w2) := E1.out.trans he (fun i hi h => by have h : i = g := h; omega)
  have D2 := Lib.hid (he.obj D1.out (fun h => by have h : w.heap.size = g := h; omega))
  have hz2 := he.size
  clear hr hR2 he hn hf
  obtain ⟨w3, hw3⟩ : ∃ w3, w2.alloc (.cells #[.int .i64 op, .string key, .string val, .slice A n c] 24) = w3 := ⟨_, rfl⟩
  obtain ⟨q, hq⟩ : ∃ q, w2.heap.size = q := ⟨_, rfl⟩
  have hB3 : w3.heap[q]? = some (.cells #[.int .i64 op, .string key, .string val, .slice A n c] 24) := by rw [← hw3, ← hq]; exact blk_new _ _
  have hE3 : Ext Non w2 w3 := by rw [← hw3]; exact (Ext.refl _ _).alloc _
  have R3 := Lib.hid (R2.out.ext hE3)
  have V3 := Lib.hid (V2.out.ext0 hE3)
  have E3 : Hid (Ext Non w w3) := E2.out.trans0 hE3
  have D3 := Lib.hid (hE3.obj D2.out (fun h => h))
  have B3 := Lib.hid hB3
  have HW3 := Lib.hid hw3
  have HQ := Lib.hid hq
  clear hw3 hq hB3 hE3
  cases b with
  | false =>
    have HG : Hid (glOK bs = false) := by show _ = _; rw [hg1.out, Bool.false_and]
    have y0 : w3.cell? ⟨w.heap.size, 0, none⟩ = some (.int .i64 0) := blk_cell D3.out 0
    have y1 : w3.cell? ⟨w.heap.size, 1, none⟩ = some (.string ⟨#[]⟩) := blk_cell D3.out 1
    have y2 : w3.cell? ⟨w.heap.size, 2, none⟩ = some (.string ⟨#[]⟩) := blk_cell D3.out 2
    have y3 : w3.cell? ⟨w.heap.size, 3, none⟩ = some (.slice none 0 0) := blk_cell D3.out 3
    have z0 := blk_frozen D3.out 0
    have z1 := blk_frozen D3.out 1
    have z2 := blk_frozen D3.out 2
    have z3 := blk_frozen D3.out 3
    have f0 : w3.cell? ⟨q, 0, none⟩ = some (.int .i64 op) := blk_cell B3.out 0
    have f1 : w3.cell? ⟨q, 1, none⟩ = some (.string key) := blk_cell B3.out 1
    have f2 : w3.cell? ⟨q, 2, none⟩ = some (.string val) := blk_cell B3.out 2
    have f3 : w3.cell? ⟨q, 3, none⟩ = some (.slice A n c) := blk_cell B3.out 3
    have hlD := blk_lt D3.out
    have hw3 := HW3.out
    have hq := HQ.out
    go_wp2_with fail
    have EF := ext_set4 w3 w.heap.size (.int .i64 0) (.string ⟨#[]⟩) (.string ⟨#[]⟩) (.slice none 0 0)
    (try simp only [Exit.inBlock, Exit.then])
    refine bodyPost_ret (results_cell_row2 rfl _ _ w.heap.size 24 #[.int .i64 0, .string ⟨#[]⟩, .string ⟨#[]⟩, .slice none 0 0] (0, 0) _ rfl (row_set4 D3.out _ _ _ _) Try.underlying24 rfl (by kernel_rfl)) rfl ?_
    refine ⟨_, by rw [show glE bs = 50 from if_neg (by rw [HG.out]; simp)]; rfl, ?_, ?_⟩
    · rw [show glF bs = noF from if_neg (by rw [HG.out]; simp)]
      exact ⟨.slice none 0 0, rfl, Rd.nil _ _ _⟩
    · exact (E3.out).trans EF (fun i hi h => by have h : i = w.heap.size := h; omega)
  | true =>
    have HFT : Hid ((rdT 192 bs 7 0 0).1 = .mk op key val kids) := by
      have h := HF.out
      unfold tlF at h
      rw [HB.out, if_pos rfl] at h
      exact h
    go_wp2_with fail
    rw [HQ.out, HW3.out]
    refine (RrEnd_calls R3.out HLE.out).mono ?_
    rw [HZ.out]
    rintro e1 w4 ⟨rfl, he⟩
    have E4 := Lib.hid (E3.out.trans0 he)
    have D4 := Lib.hid (he.obj D3.out (fun h => h))
    have B4 := Lib.hid (he.obj B3.out (fun h => h))
    have V4 := Lib.hid (V3.out.ext0 he)
    clear he
    have y0 : w4.cell? ⟨w.heap.size, 0, none⟩ = some (.int .i64 0) := blk_cell D4.out 0
    have y1 : w4.cell? ⟨w.heap.size, 1, none⟩ = some (.string ⟨#[]⟩) := blk_cell D4.out 1
    have y2 : w4.cell? ⟨w.heap.size, 2, none⟩ = some (.string ⟨#[]⟩) := blk_cell D4.out 2
    have y3 : w4.cell? ⟨w.heap.size, 3, none⟩ = some (.slice none 0 0) := blk_cell D4.out 3
    have z0 := blk_frozen D4.out 0
    have z1 := blk_frozen D4.out 1
    have z2 := blk_frozen D4.out 2
    have z3 := blk_frozen D4.out 3
    have f0 : w4.cell? ⟨q, 0, none⟩ = some (.int .i64 op) := blk_cell B4.out 0
    have f1 : w4.cell? ⟨q, 1, none⟩ = some (.string key) := blk_cell B4.out 1
    have f2 : w4.cell? ⟨q, 2, none⟩ = some (.string val) := blk_cell B4.out 2
    have f3 : w4.cell? ⟨q, 3, none⟩ = some (.slice A n c) := blk_cell B4.out 3
    have hlD := blk_lt D4.out
    by_cases hz0 : z = 0
    · subst hz0
      have HG : Hid (glOK bs = true) := by show _ = _; rw [hg1.out]; rfl
      go_wp2_with fail
      have EF := ext_set4 w4 w.heap.size (.int .i64 op) (.string key) (.string val) (.slice A n c)
      (try simp only [Exit.inBlock, Exit.then])
      refine bodyPost_ret (results_cell_row2 rfl _ _ w.heap.size 24 #[.int .i64 op, .string key, .string val, .slice A n c] (0, 0) _ rfl (row_set4 D4.out _ _ _ _) Try.underlying24 rfl (by kernel_rfl)) rfl ?_
      refine ⟨_, by rw [show glE bs = 0 from if_pos HG.out]; rfl, ?_, ?_⟩
      · rw [show glF bs = .mk op key val kids from (if_pos HG.out).trans (HFT.out)]
        exact ⟨.slice A n c, rfl, (V4.out.ext EF (fun j hj _ h => by have h : j = w.heap.size := h; omega)).mono (fun j hj => by omega)⟩
      · exact (E4.out).trans EF (fun i hi h => by have h : i = w.heap.size := h; omega)
    · have HG : Hid (glOK bs = false) := by show _ = _; rw [hg1.out, decide_eq_false hz0]; rfl
      go_wp2_with fail
      have EF := ext_set4 w4 w.heap.size (.int .i64 0) (.string ⟨#[]⟩) (.string ⟨#[]⟩) (.slice none 0 0)
      (try simp only [Exit.inBlock, Exit.then])
      refine bodyPost_ret (results_cell_row2 rfl _ _ w.heap.size 24 #[.int .i64 0, .string ⟨#[]⟩, .string ⟨#[]⟩, .slice none 0 0] (0, 0) _ rfl (row_set4 D4.out _ _ _ _) Try.underlying24 rfl (by kernel_rfl)) rfl ?_
      refine ⟨_, by rw [show glE bs = 50 from if_neg (by rw [HG.out]; simp)]; rfl, ?_, ?_⟩
      · rw [show glF bs = noF from if_neg (by rw [HG.out]; simp)]
        exact ⟨.slice none 0 0, rfl, Rd.nil _ _ _⟩
      · exact (E4.out).trans EF (fun i hi h => by have h : i = w.heap.size := h; omega)
end Go.Proofs.Ytooafilbmjnfmaa
