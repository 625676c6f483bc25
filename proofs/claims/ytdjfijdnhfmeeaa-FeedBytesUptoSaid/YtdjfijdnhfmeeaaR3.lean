/- List. -/
import Derived.Test.YtdjfijdnhfmeeaaR2
namespace Go.Proofs.Ytdjfijdnhfmeeaa
open Go.RowKit Go.TM
def ListPost (n : Nat) (l : List Sb) (w : World) (e : Ending) (w' : World) : Prop := ∃ B m d, e = .returned (.slice B m d) ∧ Rd (sbK n) w' (fun k => w.heap.size ≤ k) (.slice B m d) l ∧ Ext Non w w'
set_option maxRecDepth 100000 in
set_option maxHeartbeats 8000000 in
theorem List_calls {w : World} {n g : Nat} {ok : Nat → Prop} {D : Fdr} (h : Fd n ok w g D) (hn0 : D.next ≠ 0) (hs : D.subs.length ≤ 1000) (hk : ∀ s ∈ D.subs, okK (n + 1) s.q) :
    Calls Try.prog 34 #[.pointer (some ⟨g, 0, none⟩)] w (ListPost n D.subs w) := by
  obtain ⟨A1, n1, c1, A2, n2, c2, hb, h1, h2, h3⟩ := h
  have hn2 : n2 = D.subs.length := by
    obtain ⟨_, _, hs, _, _⟩ := h2.slice
    simp only [Value.slice.injEq] at hs
    exact hs.2.1
  have HD := Lib.hid (dead_live hb hn0)
  have b1 := hb.c1
  have hmx : (n2 : Int) ≤ 1000 := by omega
  have HN2 := Lib.hid hn2
  have H2 := Lib.hid h2
  have HOK := Lib.hid hk
  clear h1 h2 h3 hb hn2 hk
  go_enter Try.func34, Try.ntmps34
  go_wp2_with fail
  refine HD.out.mono ?_
  rintro e w5 ⟨rfl, rfl⟩
  go_wp2_with fail
  go_loopw [3, 14] (fun s3 i wr => ∃ (j : Nat) (A3 : Option Addr) (n3 c3 : Nat), s3 = .slice A3 n3 c3 ∧ i = .int .i64 (j : Int) ∧ j ≤ n2 ∧ Hid (Ext Non w wr) ∧ Hid (Own (sbK n) 64 wr w.heap.size (fun k => w.heap.size ≤ k) (.slice A3 n3 c3) (D.subs.take j))) (fun _ i _ => n2 - (intOf i).toNat)
  case atStart => exact ⟨0, none, 0, 0, rfl, rfl, by omega, Ext.refl _ _, Own.nil _ _ _ _ _⟩
  case round =>
    obtain ⟨j, A3, n3, c3, rfl, rfl, hj, HE, HO⟩ := hrel
    by_cases hlt : j < n2
    · obtain ⟨x, hx⟩ : ∃ x, D.subs[j]? = some x := ⟨_, List.getElem?_eq_getElem (by have := HN2.out; omega)⟩
      obtain ⟨ga, offa, B, bl, bd, rfl, hga, hgla, a0, a1, a2, a3, a4, a5, a6, a7, ar⟩ := sb_at (H2.out.ext0 HE.out) hx
      have HX := Lib.hid hx
      have HXK := Lib.hid (HOK.out x (List.mem_of_getElem? hx))
      have HAR := Lib.hid ar
      have hszr := HE.out.size
      have hM : ∀ k, some k = (Value.slice A3 n3 c3).ownBlock → w.heap.size ≤ k ∧ k < wr.heap.size := fun k h => HO.out.base_le k h.symm
      obtain ⟨q, hq⟩ : ∃ q, wr.heap.size = q := ⟨_, rfl⟩
      obtain ⟨w2, hw2⟩ : ∃ w2, wr.alloc (.cells #[.int .i64 x.id, .int .i64 x.fr, .int .i64 x.at_, .int .i64 x.q.op, .string x.q.key, .string x.q.val, .slice B bl bd, .bool x.gone] 64) = w2 := ⟨_, rfl⟩
      have E2 : Hid (Ext Non wr w2) := by rw [← hw2]; exact (Ext.refl _ _).alloc _
      have B2 : Hid (w2.heap[q]? = some (.cells #[.int .i64 x.id, .int .i64 x.fr, .int .i64 x.at_, .int .i64 x.q.op, .string x.q.key, .string x.q.val, .slice B bl bd, .bool x.gone] 64 (0, 0))) := by rw [← hw2, ← hq]; exact blk_new wr _
      have t3 := blk_cell B2.out 3
      have t4 := blk_cell B2.out 4
      have t5 := blk_cell B2.out 5
      have t6 := blk_cell B2.out 6
      have hql := blk_lt B2.out
      clear ar hx hga
      go_wp2_with fail
      (try rw [hq, hw2])
      refine (copied_calls (n := n) (f := x.q) (ok := ok) ⟨_, rfl, HAR.out.ext0 E2.out⟩ HXK.out).mono ?_
      rintro e w5 ⟨v5, rfl, hr5, he5⟩
      obtain ⟨A5, n5, c5, rfl, -⟩ := rd_abs hr5
      have E5 := Lib.hid he5
      have B5 : Hid (w5.heap[q]? = some _) := he5.obj B2.out (fun e => e)
      have HR5 := Lib.hid hr5.bound
      have hs25 := he5.size
      have hs2 := E2.out.size
      have O5 : Hid (Own (sbK n) 64 w5 w.heap.size (fun k => w.heap.size ≤ k) (.slice A3 n3 c3) (D.subs.take j)) := (HO.out.ext0 E2.out).ext0 E5.out
      have y0 := blk_cell B5.out 0
      have y1 := blk_cell B5.out 1
      have y2 := blk_cell B5.out 2
      have y3 := blk_cell B5.out 3
      have y4 := blk_cell B5.out 4
      have y5 := blk_cell B5.out 5
      have y6 := blk_cell B5.out 6
      have y7 := blk_cell B5.out 7
      have z3 := blk_frozen B5.out 3
      have z4 := blk_frozen B5.out 4
      have z5 := blk_frozen B5.out 5
      have z6 := blk_frozen B5.out 6
      have hql5 := blk_lt B5.out
      obtain ⟨w6, hw6⟩ : ∃ w6, (((w5.setCell ⟨q, 3, none⟩ (.int .i64 x.q.op)).setCell ⟨q, 4, none⟩ (.string x.q.key)).setCell ⟨q, 5, none⟩ (.string x.q.val)).setCell ⟨q, 6, none⟩ (.slice A5 n5 c5) = w6 := ⟨_, rfl⟩
      have e6 : Ext (Only q) w5 w6 := by rw [← hw6]; exact ext_setCells q [.int .i64 x.q.op, .string x.q.key, .string x.q.val, .slice A5 n5 c5] 3 w5
      have b6 : w6.heap[q]? = some (.cells #[.int .i64 x.id, .int .i64 x.fr, .int .i64 x.at_, .int .i64 x.q.op, .string x.q.key, .string x.q.val, .slice A5 n5 c5, .bool x.gone] 64 (0, 0)) := by rw [← hw6]; exact row_setCells [.int .i64 x.q.op, .string x.q.key, .string x.q.val, .slice A5 n5 c5] 3 w5 _ B5.out
      have E6 := Lib.hid e6
      have hs6 := e6.size
      have u0 := blk_cell b6 0
      have u1 := blk_cell b6 1
      have u2 := blk_cell b6 2
      have u3 := blk_cell b6 3
      have u4 := blk_cell b6 4
      have u5 := blk_cell b6 5
      have u6 := blk_cell b6 6
      have u7 := blk_cell b6 7
      have O6 : Hid (Own (sbK n) 64 w6 w.heap.size (fun k => w.heap.size ≤ k) (.slice A3 n3 c3) (D.subs.take j)) := (((HO.out.bound.ext0 E2.out).ext0 E5.out).ext e6 (fun k hk _ h => by have h' : k = q := h; have := hk.2; omega)).mono (fun _ hk => hk.1)
      have R6 : Rd (fltK n) w6 (fun k => w2.heap.size ≤ k ∧ k < w5.heap.size) (.slice A5 n5 c5) x.q.kids := HR5.out.ext e6 (fun k hk _ h => by have h' : k = q := h; have := hk.1; omega)
      have HY : Hid (Rd (sbK n) (w6.alloc (.cells #[.int .i64 x.id, .int .i64 x.fr, .int .i64 x.at_, .int .i64 x.q.op, .string x.q.key, .string x.q.val, .slice A5 n5 c5, .bool x.gone] 64)) (fun g => w.heap.size ≤ g ∧ some g ≠ (Value.slice A3 n3 c3).ownBlock) (.slice (some ⟨w6.heap.size, 0, none⟩) 1 1) [x]) := by
        refine Rd.lit_at (cs := [.int .i64 x.id, .int .i64 x.fr, .int .i64 x.at_, .int .i64 x.q.op, .string x.q.key, .string x.q.val, .slice A5 n5 c5, .bool x.gone]) (e := 64) (fr := (0, 0)) (blk_new w6 _) ⟨_, rfl, ?_⟩ ⟨by omega, fun h => by have := hM _ h; omega⟩
        exact (R6.ext0 ((Ext.refl _ _).alloc _)).mono (fun k hk => ⟨by have := hk.1; omega, fun h => by have := hM _ h; have := hk.1; omega⟩)
      have hkl : (D.subs.take j).length ≤ 1000 := by rw [List.length_take]; omega
      clear hr5 he5 e6 b6 R6
      go_wp2_with (first
        | (at_builtin
           refine wpList_app (sbK n) (ok := fun k => w.heap.size ≤ k) (v := .slice A3 n3 c3) (vx := .slice (some ⟨w6.heap.size, 0, none⟩) 1 1) (xs := D.subs.take j) (ys := [x]) w.heap.size rfl _ _ 53 64 _ 96 rfl Try.underlying53 (info64 n) rfl (by show 0 < 8; decide) (by simp [Act.eval]) (by simp [Act.eval]) (O6.out.ext0 ((Ext.refl _ _).alloc _)) HY.out (fun k hk => by simp at hk; omega) (by simp only [List.length_singleton]; omega) (by simp only [List.length_singleton]; omega) (by simp; omega) ?_
           intro v' w' hown hext hblk)
        | fail)
      obtain ⟨A7, n7, c7, rfl⟩ : ∃ A n c, v' = .slice A n c := by obtain ⟨A6, c6, h6, _, _⟩ := hown.slice; exact ⟨_, _, _, h6⟩
      have HOW := Lib.hid hown
      have EA : Ext (fun k => some k = (Value.slice A3 n3 c3).ownBlock) w6 w' := Ext.trans ((Ext.refl _ _).alloc _) hext (fun _ _ e => e)
      have HEX : Hid (Ext Non w w') := (((HE.out.trans0 E2.out).trans0 E5.out).trans E6.out (fun i hi h => by have h' : i = q := h; omega)).trans EA (fun i hi h => by have := hM _ h; omega)
      clear hown hext hblk EA
      go_roundw
      case rel =>
        refine ⟨j + 1, A7, n7, c7, rfl, by go_num, by omega, HEX.out, ?_⟩
        have := HOW.out
        rw [List.take_succ_eq_append_getElem (by rw [← HN2.out]; exact hlt), (List.getElem?_eq_some_iff.1 HX.out).2]
        exact this
      case measure => simp [intOf]; omega
    · obtain rfl : j = n2 := by omega
      have HO2 : Hid (Own (sbK n) 64 wr w.heap.size (fun k => w.heap.size ≤ k) (.slice A3 n3 c3) D.subs) := by
        have := HO.out
        rwa [List.take_of_length_le (by rw [← HN2.out]; exact Nat.le_refl _)] at this
      go_wp2_with fail
      go_ret
      exact ⟨_, _, _, rfl, HO2.out.rd, HE.out⟩
end Go.Proofs.Ytdjfijdnhfmeeaa
