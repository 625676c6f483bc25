/- A filter in memory of its own: copied. -/
import Derived.Test.YtdjfijdnhfmeeaaQA
import Derived.Test.YtdjfijdnhfmeeaaHC
namespace Go.Proofs.Ytdjfijdnhfmeeaa
open Go.RowKit Go.TM
set_option maxRecDepth 100000 in
theorem info24 (n : Nat) : (Try.prog.info? 24).map (fun i => (i.zero, i.size, i.bytes)) = some (some (.agg #[.int .i64 0, .string ⟨#[]⟩, .string ⟨#[]⟩, .slice none 0 0]), (fltK n).sz, 64) := by
  rw [fltK_sz]
  kernel_rfl
theorem row_set4 {w : World} {g : Nat} {a0 a1 a2 a3 : Value} {t : TypeId} (h : w.heap[g]? = some (.cells #[a0, a1, a2, a3] t (0, 0))) (v0 v1 v2 v3 : Value) :
    ((((w.setCell ⟨g, 0, none⟩ v0).setCell ⟨g, 1, none⟩ v1).setCell ⟨g, 2, none⟩ v2).setCell ⟨g, 3, none⟩ v3).heap[g]? = some (.cells #[v0, v1, v2, v3] t (0, 0)) :=
  row_setCells [v0, v1, v2, v3] 0 w _ h
theorem ext_set4 (w : World) (g : Nat) (v0 v1 v2 v3 : Value) : Ext (Only g) w ((((w.setCell ⟨g, 0, none⟩ v0).setCell ⟨g, 1, none⟩ v1).setCell ⟨g, 2, none⟩ v2).setCell ⟨g, 3, none⟩ v3) :=
  ext_setCells g [v0, v1, v2, v3] 0 w
def CopyPost (n : Nat) (f : Flt) (w : World) (e : Ending) (w' : World) : Prop := ∃ v', e = .returned (.agg #[.int .i64 f.op, .string f.key, .string f.val, v']) ∧ Rd (fltK n) w' (fun k => w.heap.size ≤ k) v' f.kids ∧ Ext Non w w'
def CopyAt (n : Nat) : Prop := ∀ (f : Flt) (w : World) (ok : Nat → Prop) (v : Value), Rd (fltK n) w ok v f.kids → okK (n + 1) f →
    Calls Try.prog 50 #[.agg #[.int .i64 f.op, .string f.key, .string f.val, v]] w (CopyPost n f w)
set_option maxRecDepth 100000 in
set_option maxHeartbeats 4000000 in
theorem copy_step (n : Nat) (ih : ∀ m, n = m + 1 → CopyAt m) : CopyAt n := by
  intro f w ok v hr hk
  obtain ⟨op, key, val, kids⟩ := f
  obtain ⟨A, len, cap, rfl, hlen⟩ := rd_abs hr
  have hlen' : len = kids.length := hlen
  have hl5 : len ≤ 500 := by rw [hlen']; exact hk.1
  have HR := Lib.hid hr
  have HL := Lib.hid hlen'
  have HIH := Lib.hid ih
  have HOK : Hid (∀ k ∈ kids, okK n k) := hk.2
  show Calls Try.prog 50 #[.agg #[.int .i64 op, .string key, .string val, .slice A len cap]] w (CopyPost n (.mk op key val kids) w)
  clear hr hk hlen hlen' ih
  go_enter Try.func50, Try.ntmps50
  go_wp2_with fail
  obtain ⟨q, hq⟩ : ∃ q, w.heap.size = q := ⟨_, rfl⟩
  have HQ := Lib.hid hq
  obtain ⟨w0, hw0⟩ : ∃ w0, (w.alloc (.cells #[.int .i64 op, .string key, .string val, .slice A len cap] 24)).alloc (.cells #[.int .i64 0, .string ⟨#[]⟩, .string ⟨#[]⟩, .slice none 0 0] 24) = w0 := ⟨_, rfl⟩
  have E0 : Hid (Ext Non w w0) := by rw [← hw0]; exact ((Ext.refl Non w).alloc _).alloc _
  have B1 : Hid (w0.heap[q]? = some (.cells #[.int .i64 op, .string key, .string val, .slice A len cap] 24 (0, 0))) := by rw [← hw0, ← hq]; exact blk_alloc (blk_new w _) _
  have B2 : Hid (w0.heap[q + 1]? = some (.cells #[.int .i64 0, .string ⟨#[]⟩, .string ⟨#[]⟩, .slice none 0 0] 24 (0, 0))) := by
    rw [← hw0, ← hq]
    have := blk_new (w.alloc (.cells #[.int .i64 op, .string key, .string val, .slice A len cap] 24)) (.cells #[.int .i64 0, .string ⟨#[]⟩, .string ⟨#[]⟩, .slice none 0 0] 24)
    rwa [show (w.alloc (.cells #[.int .i64 op, .string key, .string val, .slice A len cap] 24)).heap.size = w.heap.size + 1 by simp] at this
  have S0 : Hid (w0.heap.size = q + 2) := by rw [← hw0, ← hq]; show _ = _; simp
  have RK : Hid (Rd (fltK n) w0 ok (.slice A len cap) kids) := HR.out.ext0 E0.out
  rw [hq, hw0]
  clear hw0
  go_loopw [3, 5, 9] (fun s3 _ s9 wr => ∃ (j : Nat) (A3 : Option Addr) (n3 c3 : Nat), s3 = .slice A3 n3 c3 ∧ s9 = .int .i64 (j : Int) ∧ j ≤ len ∧ Hid (Ext Non w0 wr) ∧ Hid (Own (fltK n) 24 wr (q + 2) (fun k => q + 2 ≤ k) (.slice A3 n3 c3) (kids.take j))) (fun _ _ s9 _ => len - (intOf s9).toNat)
  case atStart => exact ⟨0, none, 0, 0, rfl, rfl, by omega, Ext.refl _ _, Own.nil _ _ _ _ _⟩
  case round =>
    obtain ⟨j, A3, n3, c3, rfl, rfl, hj, HE, HO⟩ := hrel
    by_cases hlt : j < len
    · obtain ⟨k, hk⟩ : ∃ k, kids[j]? = some k := ⟨_, List.getElem?_eq_getElem (by rw [← HL.out]; exact hlt)⟩
      obtain ⟨gk, off, v, m, hnm, rfl, hgk, hgl, d0, d1, d2, d3, hrk⟩ := kid_at (RK.out.ext0 HE.out) hk
      have hkok : okK (m + 1) k := hnm ▸ HOK.out k (List.mem_of_getElem? hk)
      obtain ⟨A2, len2, cap2, rfl, hlen2⟩ := rd_abs hrk
      have HRK := Lib.hid hrk
      have HK := Lib.hid hk
      clear hrk hk hlen2
      go_wp2_with fail
      refine (HIH.out m hnm k _ ok _ (HRK.out.ext0 (by repeat (first | exact Ext.refl _ _ | refine Ext.drew ?_ | refine Ext.alloc ?_ _ | refine Ext.setNew ?_ (Nat.le_refl _) _))) hkok).mono ?_
      rintro e w5 ⟨v5, rfl, hr5, he5⟩
      obtain ⟨A5, n5, c5, rfl, hn5⟩ := rd_abs hr5
      have HE5 : Hid (Ext Non wr w5) := Ext.trans (by repeat (first | exact Ext.refl _ _ | refine Ext.drew ?_ | refine Ext.alloc ?_ _ | refine Ext.setNew ?_ (Nat.le_refl _) _)) he5 (fun _ _ h => h)
      have HR5 := Lib.hid hr5.bound
      have HO5 : Hid (Own (fltK n) 24 w5 (q + 2) (fun k => q + 2 ≤ k) (.slice A3 n3 c3) (kids.take j)) := HO.out.ext0 HE5.out
      have hsz5 : wr.heap.size ≤ w5.heap.size := HE5.out.size
      have hszr : q + 2 ≤ wr.heap.size := by have := HE.out.size; have := S0.out; omega
      have HBL : Hid (∀ g, (Value.slice A3 n3 c3).ownBlock = some g → q + 2 ≤ g ∧ g < wr.heap.size) := fun g hg => HO.out.base_le g hg
      have HRW : Hid (Rd (fltK m) w5 (fun j => wr.heap.size ≤ j) (.slice A5 n5 c5) k.kids) := hr5.mono (fun j hj => by simp at hj; omega)
      clear hr5 he5 hn5
      have HY : Hid (Rd (fltK n) (w5.alloc (.cells #[.int .i64 k.op, .string k.key, .string k.val, .slice A5 n5 c5] 24)) (fun g => q + 2 ≤ g ∧ some g ≠ (Value.slice A3 n3 c3).ownBlock) (.slice (some ⟨w5.heap.size, 0, none⟩) 1 1) [k]) := by
        refine Rd.lit_at (cs := [.int .i64 k.op, .string k.key, .string k.val, .slice A5 n5 c5]) (e := 24) (fr := (0, 0)) (blk_new w5 _) ?_ ⟨by omega, fun h => by have := (HBL.out _ h.symm).2; omega⟩
        rw [hnm]
        exact ⟨_, rfl, (HRW.out.ext0 ((Ext.refl _ _).alloc _)).mono (fun g hg => ⟨by omega, fun h => by have := (HBL.out _ h.symm).2; omega⟩)⟩
      have hkl : (kids.take j).length ≤ 500 := by rw [List.length_take]; omega
      go_wp2_with (first
        | (at_builtin
           refine wpList_app (fltK n) (ok := fun k => q + 2 ≤ k) (v := .slice A3 n3 c3) (vx := .slice (some ⟨w5.heap.size, 0, none⟩) 1 1) (xs := kids.take j) (ys := [k]) (q + 2) rfl _ _ 22 24 _ 64 rfl Try.underlying22 (info24 n) (by rw [fltK_sz]; rfl) (by rw [fltK_sz]; decide) (by simp [Act.eval]) (by simp [Act.eval]) (HO5.out.ext0 ((Ext.refl _ _).alloc _)) HY.out (fun k hk => by simp at hk; omega) (by simp only [List.length_singleton]; omega) (by simp only [List.length_singleton]; omega) (by simp; omega) ?_
           intro v' w' hown hext hblk)
        | fail)
      obtain ⟨A6, n6, c6, rfl⟩ : ∃ A n c, v' = .slice A n c := by obtain ⟨A6, c6, h6, _, _⟩ := hown.slice; exact ⟨_, _, _, h6⟩
      have HOW := Lib.hid hown
      have EA : Ext (fun k => some k = (Value.slice A3 n3 c3).ownBlock) w5 w' := Ext.trans ((Ext.refl _ _).alloc _) hext (fun _ _ e => e)
      have HEX : Hid (Ext Non w0 w') := (HE.out.trans0 HE5.out).trans EA (fun i hi h => by have := (HBL.out i h.symm).1; have := S0.out; omega)
      clear hown hext hblk EA
      go_roundw
      case rel =>
        refine ⟨j + 1, A6, n6, c6, rfl, by go_num, by omega, HEX.out, ?_⟩
        have := HOW.out
        rw [List.take_succ_eq_append_getElem (by rw [← HL.out]; exact hlt), (List.getElem?_eq_some_iff.1 HK.out).2]
        exact this
      case measure => simp [intOf]; omega
    · obtain rfl : j = len := by omega
      have e1 := HE.out.obj B1.out (fun h => h)
      have e2 := HE.out.obj B2.out (fun h => h)
      have HB2 := Lib.hid e2
      have HO2 : Hid (Own (fltK n) 24 wr (q + 2) (fun k => q + 2 ≤ k) (.slice A3 n3 c3) kids) := by
        have := HO.out
        rwa [List.take_of_length_le (by rw [← HL.out]; exact Nat.le_refl _)] at this
      have f0 : wr.cell? ⟨q, 0, none⟩ = some (.int .i64 op) := blk_cell e1 0
      have f1 : wr.cell? ⟨q, 1, none⟩ = some (.string key) := blk_cell e1 1
      have f2 : wr.cell? ⟨q, 2, none⟩ = some (.string val) := blk_cell e1 2
      have f3 : wr.cell? ⟨q, 3, none⟩ = some (.slice A j cap) := blk_cell e1 3
      have x3 := blk_frozen e1 3
      have y0 : wr.cell? ⟨q + 1, 0, none⟩ = some (.int .i64 0) := blk_cell e2 0
      have y1 : wr.cell? ⟨q + 1, 1, none⟩ = some (.string ⟨#[]⟩) := blk_cell e2 1
      have y2 : wr.cell? ⟨q + 1, 2, none⟩ = some (.string ⟨#[]⟩) := blk_cell e2 2
      have y3 : wr.cell? ⟨q + 1, 3, none⟩ = some (.slice none 0 0) := blk_cell e2 3
      have z0 := blk_frozen e2 0
      have z1 := blk_frozen e2 1
      have z2 := blk_frozen e2 2
      have z3 := blk_frozen e2 3
      have hl1 := blk_lt e1
      have hl2 := blk_lt e2
      clear e1 e2
      go_wp2_with fail
      have R2 : Hid ((wr.setCell ⟨q, 3, none⟩ (.slice A3 n3 c3)).heap[q + 1]? = some (.cells #[.int .i64 0, .string ⟨#[]⟩, .string ⟨#[]⟩, .slice none 0 0] 24 (0, 0))) := blk_far HB2.out (by show q + 1 ≠ q; omega) _
      have EF := ext_set4 (wr.setCell ⟨q, 3, none⟩ (.slice A3 n3 c3)) (q + 1) (.int .i64 op) (.string key) (.string val) (.slice A3 n3 c3)
      have EG : Ext Non w ((((((wr.setCell ⟨q, 3, none⟩ (.slice A3 n3 c3))).setCell ⟨q + 1, 0, none⟩ (.int .i64 op)).setCell ⟨q + 1, 1, none⟩ (.string key)).setCell ⟨q + 1, 2, none⟩ (.string val)).setCell ⟨q + 1, 3, none⟩ (.slice A3 n3 c3)) := by
        refine Ext.trans (M' := fun k => k = q ∨ k = q + 1) (E0.out.trans0 HE.out) ?_ (fun i hi h => by have := HQ.out; rcases h with h | h <;> omega)
        exact Ext.trans (Ext.setCell (Ext.refl _ wr) (p := ⟨q, 3, none⟩) (fun _ => .inl rfl) _) EF (fun i _ h => .inr h)
      (try simp only [Exit.inBlock, Exit.then])
      refine bodyPost_ret (results_cell_row rfl _ _ (q + 1) 24 #[.int .i64 op, .string key, .string val, .slice A3 n3 c3] (0, 0) _ rfl (row_set4 R2.out _ _ _ _) Try.underlying24 rfl (by kernel_rfl)) rfl ?_
      refine ⟨.slice A3 n3 c3, rfl, ?_, EG⟩
      refine ((HO2.out.rd.ext (Ext.setCell (Ext.refl (Only q) wr) (p := ⟨q, 3, none⟩) (fun _ => rfl) _) (fun k hk _ h => by have h : k = q := h; omega)).ext EF (fun k hk _ h => by have h : k = q + 1 := h; omega)).mono (fun k hk => ?_)
      have := HQ.out
      omega
theorem copy_at : ∀ n, CopyAt n := by
  intro n
  induction n with
  | zero => exact copy_step 0 (fun m h => by omega)
  | succ n ih => exact copy_step (n + 1) (fun m h => by cases h; exact ih)
theorem copied_calls {n : Nat} {f : Flt} {w : World} {ok : Nat → Prop} {x : Value} (hx : FV n w ok x f) (hk : okK (n + 1) f) : Calls Try.prog 50 #[x] w (CopyPost n f w) := by
  obtain ⟨v, rfl, hr⟩ := hx
  exact copy_at n f w ok v hr hk
end Go.Proofs.Ytdjfijdnhfmeeaa
