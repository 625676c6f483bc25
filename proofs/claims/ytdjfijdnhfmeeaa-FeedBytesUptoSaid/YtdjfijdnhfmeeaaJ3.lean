/- Take and Get of the program. -/
import Derived.Test.YtdjfijdnhfmeeaaJ1
import Derived.Test.YtdjfijdnhfmeeaaHA
namespace Go.Proofs.Ytdjfijdnhfmeeaa
open Go.RowKit Go.TM
theorem rText_small (bs : List UInt8) (a : Nat) (e most : Int) (h0 : 0 ≤ most) : ((rText bs a e most).1.length : Int) ≤ most := by
  unfold rText
  split
  · simp; exact h0
  · split
    · simp; exact h0
    · split
      · simp; exact h0
      · rename_i h1 h2 h3
        simp only [List.length_take]
        have : max most 0 = most := by omega
        omega
theorem arr_size (l : List UInt8) : (⟨l.toArray⟩ : ByteArray).size = l.length := List.size_toArray
theorem rdKids_all {F : Nat → Int → Flt × Nat × Int} {P : Flt → Prop} {L : Nat} (hL : ∀ a e, a ≤ L → (F a e).2.1 ≤ L) (h : ∀ a e, a ≤ L → P (F a e).1) : ∀ (m : Nat) (a : Nat) (e : Int), a ≤ L → (rdKids F m a e).1.length ≤ m ∧ ∀ k ∈ (rdKids F m a e).1, P k
  | 0, a, e, _ => ⟨Nat.le_refl _, fun k hk => by cases hk⟩
  | m + 1, a, e, ha => by
    by_cases h0 : e = 0
    · subst h0
      rw [rdKids_go (f := (F a 0).1) (a' := (F a 0).2.1) (e' := (F a 0).2.2) rfl]
      obtain ⟨h1, h2⟩ := rdKids_all hL h m (F a 0).2.1 (F a 0).2.2 (hL a 0 ha)
      refine ⟨by simpa using h1, fun k hk => ?_⟩
      rcases List.mem_cons.1 hk with rfl | hk
      · exact h a 0 ha
      · exact h2 k hk
    · rw [rdKids_err h0]
      exact ⟨Nat.zero_le _, fun k hk => by cases hk⟩
theorem rdT_okL {bs : List UInt8} (lim : Int) (hl0 : 0 ≤ lim) (hl : lim ≤ 192) : ∀ (k : Nat) (a : Nat) (e : Int), a ≤ bs.length → okL (k + 1) (rdT lim bs k a e).1
  | 0, a, e, ha => by
    obtain ⟨-, -, -, -, -, -, -, h8, h9⟩ := q4_le (e := e) lim ha
    have h2 := rText_small bs (q1 bs a e).2.1 (q1 bs a e).2.2 lim hl0
    have h3 := rText_small bs (q2 lim bs a e).2.1 (q2 lim bs a e).2.2 192 (by omega)
    refine ⟨⟨?_, h9⟩, ?_, ?_, Nat.zero_le _, fun k hk => by cases hk⟩
    · show _ ≤ (q1 bs a e).1
      omega
    · show (⟨(q2 lim bs a e).1.toArray⟩ : ByteArray).size ≤ 1048576
      rw [arr_size]
      have : ((q2 lim bs a e).1.length : Int) ≤ lim := h2
      omega
    · show (⟨(q3 lim bs a e).1.toArray⟩ : ByteArray).size ≤ 1048576
      rw [arr_size]
      have : ((q3 lim bs a e).1.length : Int) ≤ 192 := h3
      omega
  | k + 1, a, e, ha => by
    obtain ⟨-, -, -, h4, -, h6, h7, h8, h9⟩ := q4_le (e := e) lim ha
    have h2 := rText_small bs (q1 bs a e).2.1 (q1 bs a e).2.2 lim hl0
    have h3 := rText_small bs (q2 lim bs a e).2.1 (q2 lim bs a e).2.2 192 (by omega)
    obtain ⟨i1, i2⟩ := rdKids_all (F := rdT lim bs k) (P := okL (k + 1)) (L := bs.length) (fun a e h => (rdT_le lim k a e h).1) (fun a e h => rdT_okL lim hl0 hl k a e h) (q4 lim bs a e).1.toNat (q4 lim bs a e).2.1 (q4 lim bs a e).2.2 h4
    refine ⟨⟨?_, h9⟩, ?_, ?_, ?_, i2⟩
    · show _ ≤ (q1 bs a e).1
      omega
    · show (⟨(q2 lim bs a e).1.toArray⟩ : ByteArray).size ≤ 1048576
      rw [arr_size]
      have : ((q2 lim bs a e).1.length : Int) ≤ lim := h2
      omega
    · show (⟨(q3 lim bs a e).1.toArray⟩ : ByteArray).size ≤ 1048576
      rw [arr_size]
      have : ((q3 lim bs a e).1.length : Int) ≤ 192 := h3
      omega
    · show (rdKids (rdT lim bs k) (q4 lim bs a e).1.toNat (q4 lim bs a e).2.1 (q4 lim bs a e).2.2).1.length ≤ 1000
      omega
def noF : Flt := .mk 0 ⟨#[]⟩ ⟨#[]⟩ []
/-- Whether the program's Take takes; the filter that it tells. -/
def tkOK (bs : List UInt8) (a : Nat) (e : Int) : Bool := decide ((rdT 32 bs 6 a e).2.2 = 0) && decide (checkE 7 (rdT 32 bs 6 a e).1 = 0)
def tkF (bs : List UInt8) (a : Nat) (e : Int) : Flt := if tkOK bs a e = true then (rdT 32 bs 6 a e).1 else noF
def TakePost (bs : List UInt8) (a : Nat) (e0 : Int) (ok : Nat → Prop) (g : Nat) (w : World) (e : Ending) (w' : World) : Prop :=
  ∃ x, e = .returned (.tuple #[x, .bool (tkOK bs a e0)]) ∧ FV 6 w' (fun j => w.heap.size ≤ j) x (tkF bs a e0) ∧ RdrAt w' ok g bs (rdT 32 bs 6 a e0).2.1 (rdT 32 bs 6 a e0).2.2 ∧ Ext (Only g) w w'
set_option maxRecDepth 100000 in
set_option maxHeartbeats 8000000 in
theorem Take_calls {w : World} {ok : Nat → Prop} {g : Nat} {bs : List UInt8} {a : Nat} {e : Int} (hR : RdrAt w ok g bs a e) (hg : ¬ ok g) (hok : ∀ j, ok j → j < w.heap.size) (hgl : g < w.heap.size) (ha : a ≤ bs.length) :
    Calls Try.prog 75 #[.pointer (some ⟨g, 0, none⟩)] w (TakePost bs a e ok g w) := by
  have HR := Lib.hid hR
  have HO := Lib.hid hok
  have hkl := rdT_okL (bs := bs) 32 (by omega) (by omega) 6 a e ha
  obtain ⟨r, hr⟩ : ∃ r, rdT 32 bs 6 a e = r := ⟨_, rfl⟩
  have hok1 : Hid (tkOK bs a e = (decide (r.2.2 = 0) && decide (checkE 7 r.1 = 0))) := by show _ = _; rw [← hr]; rfl
  have hf1 : Hid (tkF bs a e = if tkOK bs a e = true then r.1 else noF) := by show _ = _; rw [← hr]; rfl
  rw [hr] at hkl
  obtain ⟨f, a', e'⟩ := r
  obtain ⟨op, key, val, kids⟩ := f
  have HRR := Lib.hid hr
  have HKL := Lib.hid hkl
  clear hr hkl hR hok
  go_enter Try.func75, Try.ntmps75
  go_wp2_with fail
  obtain ⟨w0, hw0⟩ : ∃ w0, w.alloc (.cells #[.int .i64 0, .string ⟨#[]⟩, .string ⟨#[]⟩, .slice none 0 0] 24) = w0 := ⟨_, rfl⟩
  have hB0 : w0.heap[w.heap.size]? = some (.cells #[.int .i64 0, .string ⟨#[]⟩, .string ⟨#[]⟩, .slice none 0 0] 24) := by rw [← hw0]; exact blk_new _ _
  have hE0 : Ext Non w w0 := by rw [← hw0]; exact (Ext.refl _ _).alloc _
  rw [hw0]
  have B0 := Lib.hid hB0
  have E0 := Lib.hid hE0
  have hz0 : w.heap.size < w0.heap.size := blk_lt hB0
  clear hw0 hB0 hE0
  refine (take_at 6 w0 ok g bs a e 1 (HR.out.ext E0.out) hg (fun j hj => by have := HO.out j hj; omega) (by omega) ha (by omega) (by omega)).mono ?_
  rintro e1 w1 ⟨v, h1, h2, h3, h4⟩
  rw [HRR.out] at h1 h2 h3
  have h1' : e1 = .returned (.agg #[.int .i64 op, .string key, .string val, v]) := h1
  subst h1'
  obtain ⟨A, n, c, rfl, hn⟩ := rd_abs h2
  have V1 : Hid (FV 6 w1 (fun j => w0.heap.size ≤ j) (.agg #[.int .i64 op, .string key, .string val, .slice A n c]) (.mk op key val kids)) := ⟨_, rfl, h2⟩
  have R1 : Hid (RdrAt w1 ok g bs a' e') := h3
  have E1 : Hid (Ext (Only g) w0 w1) := h4
  have hz1 := h4.size
  clear h1 h2 h3 h4 hn
  obtain ⟨w2, hw2⟩ : ∃ w2, w1.alloc (.cells #[.int .i64 op, .string key, .string val, .slice A n c] 24) = w2 := ⟨_, rfl⟩
  obtain ⟨q, hq⟩ : ∃ q, w1.heap.size = q := ⟨_, rfl⟩
  have hB2 : w2.heap[q]? = some (.cells #[.int .i64 op, .string key, .string val, .slice A n c] 24) := by rw [← hw2, ← hq]; exact blk_new _ _
  have hE2 : Ext Non w1 w2 := by rw [← hw2]; exact (Ext.refl _ _).alloc _
  have R2 := Lib.hid (R1.out.ext hE2)
  have V2 := Lib.hid (V1.out.ext0 hE2)
  have E2 : Hid (Ext (Only g) w0 w2) := E1.out.trans0 hE2
  have B2 := Lib.hid hB2
  have HW2 := Lib.hid hw2
  have HQ := Lib.hid hq
  have hqz : w0.heap.size ≤ q := by rw [← hq]; exact hz1
  clear hw2 hq hB2 hE2 hz1
  go_wp2_with fail
  rw [HQ.out, HW2.out]
  refine (Err_calls R2.out).mono ?_
  rintro e1 w3 ⟨rfl, rfl⟩
  have D2 := Lib.hid (E2.out.obj B0.out (fun h => by have h : w.heap.size = g := h; omega))
  have y0 : w2.cell? ⟨w.heap.size, 0, none⟩ = some (.int .i64 0) := blk_cell D2.out 0
  have y1 : w2.cell? ⟨w.heap.size, 1, none⟩ = some (.string ⟨#[]⟩) := blk_cell D2.out 1
  have y2 : w2.cell? ⟨w.heap.size, 2, none⟩ = some (.string ⟨#[]⟩) := blk_cell D2.out 2
  have y3 : w2.cell? ⟨w.heap.size, 3, none⟩ = some (.slice none 0 0) := blk_cell D2.out 3
  have z0 := blk_frozen D2.out 0
  have z1 := blk_frozen D2.out 1
  have z2 := blk_frozen D2.out 2
  have z3 := blk_frozen D2.out 3
  have f0 : w2.cell? ⟨q, 0, none⟩ = some (.int .i64 op) := blk_cell B2.out 0
  have f1 : w2.cell? ⟨q, 1, none⟩ = some (.string key) := blk_cell B2.out 1
  have f2 : w2.cell? ⟨q, 2, none⟩ = some (.string val) := blk_cell B2.out 2
  have f3 : w2.cell? ⟨q, 3, none⟩ = some (.slice A n c) := blk_cell B2.out 3
  have hlD := blk_lt D2.out
  by_cases h0 : e' = 0
  · subst h0
    obtain ⟨z, hz⟩ : ∃ z, checkE 7 (.mk op key val kids) = z := ⟨_, rfl⟩
    have HZ := Lib.hid hz
    clear hz
    go_wp2_with fail
    refine (Check_calls (n := 6) V2.out (okF_of HKL.out)).mono ?_
    rw [HZ.out]
    rintro e1 w4 ⟨rfl, he⟩
    have E4 := Lib.hid he
    have D4 := Lib.hid (he.obj D2.out (fun h => h))
    have hlD4 := blk_lt D4.out
    have y0 := he.cell y0 (fun h => h)
    have y1 := he.cell y1 (fun h => h)
    have y2 := he.cell y2 (fun h => h)
    have y3 := he.cell y3 (fun h => h)
    have z0 := blk_frozen D4.out 0
    have z1 := blk_frozen D4.out 1
    have z2 := blk_frozen D4.out 2
    have z3 := blk_frozen D4.out 3
    have f0 := he.cell f0 (fun h => h)
    have f1 := he.cell f1 (fun h => h)
    have f2 := he.cell f2 (fun h => h)
    have f3 := he.cell f3 (fun h => h)
    clear he
    by_cases hz0 : z = 0
    · subst hz0
      have HOKK : Hid (tkOK bs a e = true) := by show _ = _; rw [hok1.out, HZ.out]; rfl
      go_wp2_with fail
      have EF := ext_set4 w4 w.heap.size (.int .i64 op) (.string key) (.string val) (.slice A n c)
      (try simp only [Exit.inBlock, Exit.then])
      refine bodyPost_ret (results_cell_row2 rfl _ _ w.heap.size 24 #[.int .i64 op, .string key, .string val, .slice A n c] (0, 0) _ rfl (row_set4 D4.out _ _ _ _) Try.underlying24 rfl (by kernel_rfl)) rfl ?_
      refine ⟨_, by rw [HOKK.out]; rfl, ?_, ?_, ?_⟩
      · rw [hf1.out, if_pos HOKK.out]
        obtain ⟨v, hv, hr⟩ := V2.out.ext0 E4.out
        simp only [Value.agg.injEq] at hv
        refine ⟨.slice A n c, rfl, ?_⟩
        have hvv : v = .slice A n c := by simp at hv; exact hv.2.2.2.symm
        subst hvv
        exact (hr.ext EF (fun j hj _ h => by have h : j = w.heap.size := h; omega)).mono (fun j hj => by omega)
      · rw [HRR.out]
        exact (R2.out.ext E4.out).far EF (fun h => by have h : g = w.heap.size := h; omega) (fun j hj _ h => by have h : j = w.heap.size := h; have := HO.out j hj; omega)
      · exact (((Ext.of0 E0.out : Ext (Only g) w w0).trans E2.out (fun _ _ e => e)).trans0 E4.out).trans EF (fun i hi h => by have h : i = w.heap.size := h; omega)
    · have HOKK : Hid (tkOK bs a e = false) := by show _ = _; rw [hok1.out, HZ.out, decide_eq_false hz0, Bool.and_false]
      go_wp2_with fail
      have EF := ext_set4 w4 w.heap.size (.int .i64 0) (.string ⟨#[]⟩) (.string ⟨#[]⟩) (.slice none 0 0)
      (try simp only [Exit.inBlock, Exit.then])
      refine bodyPost_ret (results_cell_row2 rfl _ _ w.heap.size 24 #[.int .i64 0, .string ⟨#[]⟩, .string ⟨#[]⟩, .slice none 0 0] (0, 0) _ rfl (row_set4 D4.out _ _ _ _) Try.underlying24 rfl (by kernel_rfl)) rfl ?_
      refine ⟨_, by rw [HOKK.out]; rfl, ?_, ?_, ?_⟩
      · rw [hf1.out, HOKK.out]
        exact ⟨.slice none 0 0, rfl, Rd.nil _ _ _⟩
      · rw [HRR.out]
        exact (R2.out.ext E4.out).far EF (fun h => by have h : g = w.heap.size := h; omega) (fun j hj _ h => by have h : j = w.heap.size := h; have := HO.out j hj; omega)
      · exact (((Ext.of0 E0.out : Ext (Only g) w w0).trans E2.out (fun _ _ e => e)).trans0 E4.out).trans EF (fun i hi h => by have h : i = w.heap.size := h; omega)
  · have HOKK : Hid (tkOK bs a e = false) := by show _ = _; rw [hok1.out, decide_eq_false h0, Bool.false_and]
    go_wp2_with fail
    have EF := ext_set4 w2 w.heap.size (.int .i64 0) (.string ⟨#[]⟩) (.string ⟨#[]⟩) (.slice none 0 0)
    (try simp only [Exit.inBlock, Exit.then])
    refine bodyPost_ret (results_cell_row2 rfl _ _ w.heap.size 24 #[.int .i64 0, .string ⟨#[]⟩, .string ⟨#[]⟩, .slice none 0 0] (0, 0) _ rfl (row_set4 D2.out _ _ _ _) Try.underlying24 rfl (by kernel_rfl)) rfl ?_
    refine ⟨_, by rw [HOKK.out]; rfl, ?_, ?_, ?_⟩
    · rw [hf1.out, HOKK.out]
      exact ⟨.slice none 0 0, rfl, Rd.nil _ _ _⟩
    · rw [HRR.out]
      exact R2.out.far EF (fun h => by have h : g = w.heap.size := h; omega) (fun j hj _ h => by have h : j = w.heap.size := h; have := HO.out j hj; omega)
    · exact ((Ext.of0 E0.out : Ext (Only g) w w0).trans E2.out (fun _ _ e => e)).trans EF (fun i hi h => by have h : i = w.heap.size := h; omega)
end Go.Proofs.Ytdjfijdnhfmeeaa
