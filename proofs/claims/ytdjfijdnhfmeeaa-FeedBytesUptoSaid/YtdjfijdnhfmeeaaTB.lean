/- The document's trim. The document's Ack. The document's Note. The document's SameEvents of two lists that are the same. -/
import Derived.Test.YtdjfijdnhfmeeaaTA
import Derived.Test.YtdjfijdnhfmeeaaR1
import Derived.Test.YtdjfijdnhfmeeaaMB
namespace Go.Proofs.Ytdjfijdnhfmeeaa
open Go.RowKit Go.TM
def RfPost (n : Nat) (ok : Nat → Prop) (g : Nat) (D : Fdr) (v : Value) (w : World) (e : Ending) (w' : World) : Prop := e = .returned v ∧ Rf n ok w' g D ∧ Ext (Only g) w w'
theorem trimE_snoc (l : List Sb) (evs : List Ev) (x : Ev) : trimE l (evs ++ [x]) = trimE l evs ++ trimE l [x] := by
  unfold trimE
  cases lastS l with
  | none => rfl
  | some a => exact List.filter_append ..
set_option maxRecDepth 100000 in
set_option maxHeartbeats 16000000 in
theorem rtrim_calls {w : World} {n g : Nat} {ok : Nat → Prop} {D : Fdr} (h : Rf n ok w g D) (hl : D.evs.length ≤ 1048576000) (hf : Fresh ok w) :
    Calls Try.prog 58 #[.pointer (some ⟨g, 0, none⟩)] w (RfPost n ok g (trimD D) (.tuple #[]) w) := by
  have HF := Lib.hid h
  have FF := Lib.hid hf
  have HLS := Lib.hid (least_calls h)
  obtain ⟨A1, n1, c1, A2, n2, c2, hb, h1, h2, h3⟩ := h
  obtain ⟨_, _, hs, _, hm⟩ := h1.slice
  simp only [Value.slice.injEq] at hs
  obtain ⟨-, hn, -⟩ := hs
  have hmx : (n1 : Int) ≤ 1048576000 := by omega
  have hn2 : n2 = D.subs.length := by
    obtain ⟨_, _, hs, _, _⟩ := h2.slice
    simp only [Value.slice.injEq] at hs
    exact hs.2.1
  have HB := Lib.hid hb
  have H1 := Lib.hid h1
  have H2 := Lib.hid h2
  have HN := Lib.hid hn
  have HN2 := Lib.hid hn2
  have hgl := blk_lt hb
  obtain ⟨o, ho⟩ : ∃ o, lastS D.subs = o := ⟨_, rfl⟩
  rw [ho] at HLS
  have HLO := Lib.hid ho
  clear hb h1 h2 h3 hn hm hf hl hn2 ho
  go_enter Try.func58, Try.ntmps58
  go_wp2_with fail
  refine HLS.out.mono ?_
  rintro e w1 ⟨rfl, he1⟩
  have E1 := Lib.hid he1
  have b0 : w1.cell? ⟨g, 0, none⟩ = _ := blk_cell (he1.obj HB.out (fun e => e)) 0
  clear he1
  go_wp2_with fail
  go_loopw [3, 13] (fun s3 i wr => ∃ (j : Nat) (A3 : Option Addr) (n3 c3 : Nat), s3 = .slice A3 n3 c3 ∧ i = .int .i64 (j : Int) ∧ j ≤ n1 ∧ Hid (Ext Non w wr) ∧ Hid (Own evK 43 wr w.heap.size (fun k => w.heap.size ≤ k) (.slice A3 n3 c3) (trimE D.subs (D.evs.take j)))) (fun _ i _ => n1 - (intOf i).toNat)
  case atStart => exact ⟨0, none, 0, 0, rfl, rfl, by omega, E1.out, by
    have : trimE D.subs (D.evs.take 0) = [] := by unfold trimE; cases lastS D.subs <;> rfl
    rw [this]
    exact Own.nil _ _ _ _ _⟩
  case round =>
    obtain ⟨j, A3, n3, c3, rfl, rfl, hj, HE, HO⟩ := hrel
    by_cases hlt : j < n1
    · obtain ⟨x, hx⟩ : ∃ x, D.evs[j]? = some x := ⟨_, List.getElem?_eq_getElem (by have := HN.out; omega)⟩
      obtain ⟨ga, offa, rfl, hga, hgla, a0, a1, a2, a3, a4, a5⟩ := ev_at (H1.out.ext0 HE.out) hx
      have HX := Lib.hid hx
      have hszr := HE.out.size
      have hM : ∀ k, some k = (Value.slice A3 n3 c3).ownBlock → w.heap.size ≤ k ∧ k < wr.heap.size := fun k h => HO.out.base_le k h.symm
      have hnl : (trimE D.subs (D.evs.take j)).length ≤ j := Nat.le_trans (trimE_len _ _) (by rw [List.length_take]; exact Nat.min_le_left _ _)
      have HNL := Lib.hid hnl
      have HSN : Hid (trimE D.subs (D.evs.take (j + 1)) = trimE D.subs (D.evs.take j) ++ trimE D.subs [x]) := by
        show _ = _
        rw [List.take_succ_eq_append_getElem (by rw [← HN.out]; exact hlt), (List.getElem?_eq_some_iff.1 hx).2, trimE_snoc]
      obtain ⟨q, hq⟩ : ∃ q, wr.heap.size = q := ⟨_, rfl⟩
      obtain ⟨w2, hw2⟩ : ∃ w2, wr.alloc (.cells #[.int .i64 x.pos, .string x.key, .bool x.had, .string x.old, .bool x.has, .string x.now] 43) = w2 := ⟨_, rfl⟩
      have E2 : Hid (Ext Non wr w2) := by rw [← hw2]; exact (Ext.refl _ _).alloc _
      have B2 : Hid (w2.heap[q]? = some (.cells #[.int .i64 x.pos, .string x.key, .bool x.had, .string x.old, .bool x.has, .string x.now] 43 (0, 0))) := by rw [← hw2, ← hq]; exact blk_new wr _
      have e0 := blk_cell B2.out 0
      have e1 := blk_cell B2.out 1
      have e2 := blk_cell B2.out 2
      have e3 := blk_cell B2.out 3
      have e4 := blk_cell B2.out 4
      have e5 := blk_cell B2.out 5
      have hql := blk_lt B2.out
      have hs2 := E2.out.size
      have O2 : Hid (Own evK 43 w2 w.heap.size (fun k => w.heap.size ≤ k) (.slice A3 n3 c3) (trimE D.subs (D.evs.take j))) := HO.out.ext0 E2.out
      clear hx hga hnl
      cases o with
      | none =>
        have HSK : Hid (trimE D.subs [x] = []) := by show _ = _; unfold trimE; rw [HLO.out]
        simp only [idx]
        go_wp2_with fail
        (try rw [hq, hw2])
        refine Last.start_ (S := fun W => Ext Non w2 W) (ds := []) #[false, false, false, false, false, false, false, false, false, false, false, false, false, false, false] (by kernel_rfl) (by rfl) (by rfl) ((Ext.refl Non w2).drew) (fun hS => ?_)
        refine Last.take_ (i := 0) (N := some 17) (v := .int .i64 (-1)) #[true, false, false, false, false, false, false, false, false, false, false, false, false, false, false] (by simp only [List.getElem?_toArray, List.getElem?_cons_zero]; rfl) rfl (by kernel_rfl) (by exact fun _ _ _ h => h) (Or.inl ⟨by rfl, fun W hW => by first | rfl | go_simp⟩) hS rfl ?_
        simp only [Act.put, List.setIfInBounds_toArray, List.set_cons_zero, List.set_cons_succ]
        refine Last.take_ (i := 1) (N := some 18) (v := .bool false) #[true, true, false, false, false, false, false, false, false, false, false, false, false, false, false] (by simp only [List.getElem?_toArray, List.getElem?_cons_zero, List.getElem?_cons_succ]; rfl) rfl (by kernel_rfl) (by exact fun _ _ _ h => h) (Or.inl ⟨by rfl, fun W hW => by first | rfl | go_simp⟩) hS rfl ?_
        simp only [Act.put, List.setIfInBounds_toArray, List.set_cons_zero, List.set_cons_succ]
        refine Last.take_ (i := 2) (N := some 19) (v := .bool false) #[true, true, true, false, false, false, false, false, false, false, false, false, false, false, false] (by simp only [List.getElem?_toArray, List.getElem?_cons_zero, List.getElem?_cons_succ]; rfl) rfl (by kernel_rfl) (by exact fun _ _ _ h => h) (Or.inl ⟨by rfl, fun W hW => by first | rfl | go_simp⟩) hS rfl ?_
        simp only [Act.put, List.setIfInBounds_toArray, List.set_cons_zero, List.set_cons_succ]
        refine Last.take_ (i := 3) (N := some 20) (v := undef) #[true, true, true, true, false, false, false, false, false, false, false, false, false, false, false] (by simp only [List.getElem?_toArray, List.getElem?_cons_zero, List.getElem?_cons_succ]; rfl) rfl (by kernel_rfl) (by exact fun _ _ _ h => h) (Or.inr ⟨by rfl, rfl⟩) hS rfl ?_
        simp only [Act.put, List.setIfInBounds_toArray, List.set_cons_zero, List.set_cons_succ]
        refine Last.take_ (i := 4) (N := some 21) (v := undef) #[true, true, true, true, true, false, false, false, false, false, false, false, false, false, false] (by simp only [List.getElem?_toArray, List.getElem?_cons_zero, List.getElem?_cons_succ]; rfl) rfl (by kernel_rfl) (by exact fun _ _ _ h => h) (Or.inr ⟨by rfl, rfl⟩) hS rfl ?_
        simp only [Act.put, List.setIfInBounds_toArray, List.set_cons_zero, List.set_cons_succ]
        refine Last.take_ (i := 5) (N := some 22) (v := undef) #[true, true, true, true, true, true, false, false, false, false, false, false, false, false, false] (by simp only [List.getElem?_toArray, List.getElem?_cons_zero, List.getElem?_cons_succ]; rfl) rfl (by kernel_rfl) (by exact fun _ _ _ h => h) (Or.inr ⟨by rfl, rfl⟩) hS rfl ?_
        simp only [Act.put, List.setIfInBounds_toArray, List.set_cons_zero, List.set_cons_succ]
        refine Last.take_ (i := 6) (N := some 23) (v := undef) #[true, true, true, true, true, true, true, false, false, false, false, false, false, false, false] (by simp only [List.getElem?_toArray, List.getElem?_cons_zero, List.getElem?_cons_succ]; rfl) rfl (by kernel_rfl) (by exact fun _ _ _ h => h) (Or.inr ⟨by rfl, rfl⟩) hS rfl ?_
        simp only [Act.put, List.setIfInBounds_toArray, List.set_cons_zero, List.set_cons_succ]
        refine Last.take_ (i := 7) (N := some 24) (v := undef) #[true, true, true, true, true, true, true, true, false, false, false, false, false, false, false] (by simp only [List.getElem?_toArray, List.getElem?_cons_zero, List.getElem?_cons_succ]; rfl) rfl (by kernel_rfl) (by exact fun _ _ _ h => h) (Or.inr ⟨by rfl, rfl⟩) hS rfl ?_
        simp only [Act.put, List.setIfInBounds_toArray, List.set_cons_zero, List.set_cons_succ]
        refine Last.take_ (i := 8) (N := some 25) (v := undef) #[true, true, true, true, true, true, true, true, true, false, false, false, false, false, false] (by simp only [List.getElem?_toArray, List.getElem?_cons_zero, List.getElem?_cons_succ]; rfl) rfl (by kernel_rfl) (by exact fun _ _ _ h => h) (Or.inr ⟨by rfl, rfl⟩) hS rfl ?_
        simp only [Act.put, List.setIfInBounds_toArray, List.set_cons_zero, List.set_cons_succ]
        refine Last.take_ (i := 9) (N := some 26) (v := undef) #[true, true, true, true, true, true, true, true, true, true, false, false, false, false, false] (by simp only [List.getElem?_toArray, List.getElem?_cons_zero, List.getElem?_cons_succ]; rfl) rfl (by kernel_rfl) (by exact fun _ _ _ h => h) (Or.inr ⟨by rfl, rfl⟩) hS rfl ?_
        simp only [Act.put, List.setIfInBounds_toArray, List.set_cons_zero, List.set_cons_succ]
        refine Last.take_ (i := 10) (N := some 27) (v := undef) #[true, true, true, true, true, true, true, true, true, true, true, false, false, false, false] (by simp only [List.getElem?_toArray, List.getElem?_cons_zero, List.getElem?_cons_succ]; rfl) rfl (by kernel_rfl) (by exact fun _ _ _ h => h) (Or.inr ⟨by rfl, rfl⟩) hS rfl ?_
        simp only [Act.put, List.setIfInBounds_toArray, List.set_cons_zero, List.set_cons_succ]
        refine Last.take_ (i := 11) (N := some 28) (v := undef) #[true, true, true, true, true, true, true, true, true, true, true, true, false, false, false] (by simp only [List.getElem?_toArray, List.getElem?_cons_zero, List.getElem?_cons_succ]; rfl) rfl (by kernel_rfl) (by exact fun _ _ _ h => h) (Or.inr ⟨by rfl, rfl⟩) hS rfl ?_
        simp only [Act.put, List.setIfInBounds_toArray, List.set_cons_zero, List.set_cons_succ]
        refine Last.take_ (i := 12) (N := some 29) (v := undef) #[true, true, true, true, true, true, true, true, true, true, true, true, true, false, false] (by simp only [List.getElem?_toArray, List.getElem?_cons_zero, List.getElem?_cons_succ]; rfl) rfl (by kernel_rfl) (by exact fun _ _ _ h => h) (Or.inr ⟨by rfl, rfl⟩) hS rfl ?_
        simp only [Act.put, List.setIfInBounds_toArray, List.set_cons_zero, List.set_cons_succ]
        refine Last.take_ (i := 13) (N := some 30) (v := undef) #[true, true, true, true, true, true, true, true, true, true, true, true, true, true, false] (by simp only [List.getElem?_toArray, List.getElem?_cons_zero, List.getElem?_cons_succ]; rfl) rfl (by kernel_rfl) (by exact fun _ _ _ h => h) (Or.inr ⟨by rfl, rfl⟩) hS rfl ?_
        simp only [Act.put, List.setIfInBounds_toArray, List.set_cons_zero, List.set_cons_succ]
        refine Last.take_ (i := 14) (N := some 31) (v := .bool false) #[true, true, true, true, true, true, true, true, true, true, true, true, true, true, true] (by simp only [List.getElem?_toArray, List.getElem?_cons_zero, List.getElem?_cons_succ]; rfl) rfl (by kernel_rfl) (by exact fun _ _ _ h => h) (Or.inl ⟨by rfl, fun W hW => by first | rfl | go_simp⟩) hS rfl ?_
        simp only [Act.put, List.setIfInBounds_toArray, List.set_cons_zero, List.set_cons_succ]
        refine Last.done_ (by kernel_rfl) ?_
        go_wp2_with fail
        go_roundw
        case rel => exact ⟨j + 1, A3, n3, c3, rfl, by go_num, by omega, (HE.out.trans0 E2.out).drew, by rw [HSN.out, HSK.out, List.append_nil]; exact O2.out.ext0 (Ext.refl Non w2).drew⟩
        case measure => simp [intOf]; omega
      | some a =>
        obtain ⟨y, hy, hyg⟩ := lastTo_spec HLO.out
        have han : a < n2 := by have := (List.getElem?_eq_some_iff.1 hy).1; have := HN2.out; omega
        have hat : atOf D.subs a = y.at_ := by unfold atOf; rw [hy]
        obtain ⟨gs, offs, B, bl, bd, rfl, hgs, hgls, d0, d1, d2, d3, d4, d5, d6, d7, dr⟩ := sb_at ((H2.out.ext0 HE.out).ext0 E2.out) hy
        have b1 : w2.cell? ⟨g, 1, none⟩ = _ := blk_cell ((HE.out.trans0 E2.out).obj HB.out (fun e => e)) 1
        have q0 : (0 : Int) ≤ (a : Int) := by omega
        clear hy hyg d0 d1 d3 d4 d5 d6 d7 dr hgs
        by_cases hc : y.at_ < x.pos
        · have HSK : Hid (trimE D.subs [x] = [x]) := by
            show _ = _
            unfold trimE
            rw [HLO.out]
            simp only [hat]
            rw [List.filter_cons_of_pos (by simp; omega)]
            rfl
          clear hat
          simp only [idx]
          go_wp2_with fail
          (try rw [hq, hw2])
          refine Last.start_ (S := fun W => Ext Non w2 W) (ds := []) #[false, false, false, false, false, false, false, false, false, false, false, false, false, false, false] (by kernel_rfl) (by rfl) (by rfl) ((Ext.refl Non w2).drew) (fun hS => ?_)
          refine Last.take_ (i := 0) (N := some 17) (v := .int .i64 (a : Int)) #[true, false, false, false, false, false, false, false, false, false, false, false, false, false, false] (by simp only [List.getElem?_toArray, List.getElem?_cons_zero]; rfl) rfl (by kernel_rfl) (by exact fun _ _ _ h => h) (Or.inl ⟨by rfl, fun W hW => by first | rfl | go_simp⟩) hS rfl ?_
          simp only [Act.put, List.setIfInBounds_toArray, List.set_cons_zero, List.set_cons_succ]
          refine Last.take_ (i := 1) (N := some 18) (v := .bool true) #[true, true, false, false, false, false, false, false, false, false, false, false, false, false, false] (by simp only [List.getElem?_toArray, List.getElem?_cons_zero, List.getElem?_cons_succ]; rfl) rfl (by kernel_rfl) (by exact fun _ _ _ h => h) (Or.inl ⟨by rfl, fun W hW => by first | rfl | go_simp⟩) hS rfl ?_
          simp only [Act.put, List.setIfInBounds_toArray, List.set_cons_zero, List.set_cons_succ]
          refine Last.take_ (i := 2) (N := some 19) (v := .bool true) #[true, true, true, false, false, false, false, false, false, false, false, false, false, false, false] (by simp only [List.getElem?_toArray, List.getElem?_cons_zero, List.getElem?_cons_succ]; rfl) rfl (by kernel_rfl) (by exact fun _ _ _ h => h) (Or.inl ⟨by rfl, fun W hW => by first | rfl | go_simp⟩) hS rfl ?_
          simp only [Act.put, List.setIfInBounds_toArray, List.set_cons_zero, List.set_cons_succ]
          refine Last.take_ (i := 3) (N := some 20) (v := .pointer (some ⟨q, 0, none⟩)) #[true, true, true, true, false, false, false, false, false, false, false, false, false, false, false] (by simp only [List.getElem?_toArray, List.getElem?_cons_zero, List.getElem?_cons_succ]; rfl) rfl (by kernel_rfl) (by exact fun _ _ _ h => h) (Or.inl ⟨by rfl, fun W hW => by first | rfl | go_simp⟩) hS rfl ?_
          simp only [Act.put, List.setIfInBounds_toArray, List.set_cons_zero, List.set_cons_succ]
          refine Last.take_ (i := 4) (N := some 21) (v := .int .i64 x.pos) #[true, true, true, true, true, false, false, false, false, false, false, false, false, false, false] (by simp only [List.getElem?_toArray, List.getElem?_cons_zero, List.getElem?_cons_succ]; rfl) rfl (by kernel_rfl) (by exact fun _ _ _ h => h) (Or.inl ⟨by rfl, fun W hW => ld3 rfl rfl (Ext.cell hW e0 (fun e => e))⟩) hS rfl ?_
          simp only [Act.put, List.setIfInBounds_toArray, List.set_cons_zero, List.set_cons_succ]
          refine Last.take_ (i := 5) (N := some 22) (v := .pointer (some ⟨g, 0, none⟩)) #[true, true, true, true, true, true, false, false, false, false, false, false, false, false, false] (by simp only [List.getElem?_toArray, List.getElem?_cons_zero, List.getElem?_cons_succ]; rfl) rfl (by kernel_rfl) (by exact fun _ _ _ h => h) (Or.inl ⟨by rfl, fun W hW => by first | rfl | go_simp⟩) hS rfl ?_
          simp only [Act.put, List.setIfInBounds_toArray, List.set_cons_zero, List.set_cons_succ]
          refine Last.take_ (i := 6) (N := some 23) (v := .pointer (some ⟨g, 0, none⟩)) #[true, true, true, true, true, true, true, false, false, false, false, false, false, false, false] (by simp only [List.getElem?_toArray, List.getElem?_cons_zero, List.getElem?_cons_succ]; rfl) rfl (by kernel_rfl) (by exact fun _ _ _ h => h) (Or.inl ⟨by rfl, fun W hW => by first | rfl | go_simp⟩) hS rfl ?_
          simp only [Act.put, List.setIfInBounds_toArray, List.set_cons_zero, List.set_cons_succ]
          refine Last.take_ (i := 7) (N := some 24) (v := .pointer (some ⟨g, 1, none⟩)) #[true, true, true, true, true, true, true, true, false, false, false, false, false, false, false] (by simp only [List.getElem?_toArray, List.getElem?_cons_zero, List.getElem?_cons_succ]; rfl) rfl (by kernel_rfl) (by exact fun _ _ _ h => h) (Or.inl ⟨by rfl, fun W hW => by first | rfl | go_simp⟩) hS rfl ?_
          simp only [Act.put, List.setIfInBounds_toArray, List.set_cons_zero, List.set_cons_succ]
          refine Last.take_ (i := 8) (N := some 25) (v := .slice (some ⟨gs, offs, none⟩) n2 c2) #[true, true, true, true, true, true, true, true, true, false, false, false, false, false, false] (by simp only [List.getElem?_toArray, List.getElem?_cons_zero, List.getElem?_cons_succ]; rfl) rfl (by kernel_rfl) (by exact fun _ _ _ h => h) (Or.inl ⟨by rfl, fun W hW => by have hc := Ext.cell hW b1 (fun e => e); go_simp⟩) hS rfl ?_
          simp only [Act.put, List.setIfInBounds_toArray, List.set_cons_zero, List.set_cons_succ]
          refine Last.take_ (i := 9) (N := some 26) (v := .int .i64 (a : Int)) #[true, true, true, true, true, true, true, true, true, true, false, false, false, false, false] (by simp only [List.getElem?_toArray, List.getElem?_cons_zero, List.getElem?_cons_succ]; rfl) rfl (by kernel_rfl) (by exact fun _ _ _ h => h) (Or.inl ⟨by rfl, fun W hW => by first | rfl | go_simp⟩) hS rfl ?_
          simp only [Act.put, List.setIfInBounds_toArray, List.set_cons_zero, List.set_cons_succ]
          refine Last.take_ (i := 10) (N := some 27) (v := .pointer (some ⟨gs, offs + a * 8, none⟩)) #[true, true, true, true, true, true, true, true, true, true, true, false, false, false, false] (by simp only [List.getElem?_toArray, List.getElem?_cons_zero, List.getElem?_cons_succ]; rfl) rfl (by kernel_rfl) (by exact fun _ _ _ h => h) (Or.inl ⟨by rfl, fun W hW => ix53 rfl rfl rfl han⟩) hS rfl ?_
          simp only [Act.put, List.setIfInBounds_toArray, List.set_cons_zero, List.set_cons_succ]
          refine Last.take_ (i := 11) (N := some 28) (v := .pointer (some ⟨gs, offs + a * 8 + 2, none⟩)) #[true, true, true, true, true, true, true, true, true, true, true, true, false, false, false] (by simp only [List.getElem?_toArray, List.getElem?_cons_zero, List.getElem?_cons_succ]; rfl) rfl (by kernel_rfl) (by exact fun _ _ _ h => h) (Or.inl ⟨by rfl, fun W hW => by first | rfl | go_simp⟩) hS rfl ?_
          simp only [Act.put, List.setIfInBounds_toArray, List.set_cons_zero, List.set_cons_succ]
          refine Last.take_ (i := 12) (N := some 29) (v := .int .i64 y.at_) #[true, true, true, true, true, true, true, true, true, true, true, true, true, false, false] (by simp only [List.getElem?_toArray, List.getElem?_cons_zero, List.getElem?_cons_succ]; rfl) rfl (by kernel_rfl) (by exact fun _ _ _ h => h) (Or.inl ⟨by rfl, fun W hW => ld3 rfl rfl (Ext.cell hW d2 (fun e => e))⟩) hS rfl ?_
          simp only [Act.put, List.setIfInBounds_toArray, List.set_cons_zero, List.set_cons_succ]
          refine Last.take_ (i := 13) (N := some 30) (v := .bool true) #[true, true, true, true, true, true, true, true, true, true, true, true, true, true, false] (by simp only [List.getElem?_toArray, List.getElem?_cons_zero, List.getElem?_cons_succ]; rfl) rfl (by kernel_rfl) (by exact fun _ _ _ h => h) (Or.inl ⟨by rfl, fun W hW => by first | rfl | go_simp⟩) hS rfl ?_
          simp only [Act.put, List.setIfInBounds_toArray, List.set_cons_zero, List.set_cons_succ]
          refine Last.take_ (i := 14) (N := some 31) (v := .bool true) #[true, true, true, true, true, true, true, true, true, true, true, true, true, true, true] (by simp only [List.getElem?_toArray, List.getElem?_cons_zero, List.getElem?_cons_succ]; rfl) rfl (by kernel_rfl) (by exact fun _ _ _ h => h) (Or.inl ⟨by rfl, fun W hW => by first | rfl | go_simp⟩) hS rfl ?_
          simp only [Act.put, List.setIfInBounds_toArray, List.set_cons_zero, List.set_cons_succ]
          refine Last.done_ (by kernel_rfl) ?_
          go_wp2_with (first
            | (at_builtin
               refine wpList_app evK (ok := fun k => w.heap.size ≤ k) (v := .slice A3 n3 c3) (vx := .slice (some ⟨w2.heap.size, 0, none⟩) 1 1) (xs := trimE D.subs (D.evs.take j)) (ys := [x]) w.heap.size rfl _ _ 34 43 _ 72 rfl Try.underlying34 info43 rfl (by decide) (by simp [Act.eval]) (by simp [Act.eval]) (O2.out.ext0 ((Ext.refl Non w2).drew.alloc _)) (Rd.lit_at (cs := x.cells) (e := 43) (fr := (0, 0)) (blk_new w2.drew _) rfl ⟨by omega, fun h => by have := hM _ h; omega⟩) (fun k hk => by have hdr : w2.drew.heap.size = w2.heap.size := rfl; simp at hk; omega) (by have := HNL.out; simp only [List.length_singleton]; omega) (by have := HNL.out; simp only [List.length_singleton]; omega) (by have hdr : w2.drew.heap.size = w2.heap.size := rfl; simp; omega) ?_
               intro v' w' hown hext hblk)
            | fail)
          obtain ⟨A7, n7, c7, rfl⟩ : ∃ A n c, v' = .slice A n c := by obtain ⟨A6, c6, h6, _, _⟩ := hown.slice; exact ⟨_, _, _, h6⟩
          have HOW := Lib.hid hown
          have HEX : Hid (Ext Non w w') := ((HE.out.trans0 E2.out).drew.alloc _).trans hext (fun i hi h => by have := hM _ h; omega)
          clear hown hext hblk
          go_roundw
          case rel => exact ⟨j + 1, A7, n7, c7, rfl, by go_num, by omega, HEX.out, by rw [HSN.out, HSK.out]; exact HOW.out⟩
          case measure => simp [intOf]; omega
        · have HSK : Hid (trimE D.subs [x] = []) := by
            show _ = _
            unfold trimE
            rw [HLO.out]
            simp only [hat]
            rw [List.filter_cons_of_neg (by simp; omega)]
            rfl
          clear hat
          simp only [idx]
          go_wp2_with fail
          (try rw [hq, hw2])
          refine Last.start_ (S := fun W => Ext Non w2 W) (ds := []) #[false, false, false, false, false, false, false, false, false, false, false, false, false, false, false] (by kernel_rfl) (by rfl) (by rfl) ((Ext.refl Non w2).drew) (fun hS => ?_)
          refine Last.take_ (i := 0) (N := some 17) (v := .int .i64 (a : Int)) #[true, false, false, false, false, false, false, false, false, false, false, false, false, false, false] (by simp only [List.getElem?_toArray, List.getElem?_cons_zero]; rfl) rfl (by kernel_rfl) (by exact fun _ _ _ h => h) (Or.inl ⟨by rfl, fun W hW => by first | rfl | go_simp⟩) hS rfl ?_
          simp only [Act.put, List.setIfInBounds_toArray, List.set_cons_zero, List.set_cons_succ]
          refine Last.take_ (i := 1) (N := some 18) (v := .bool true) #[true, true, false, false, false, false, false, false, false, false, false, false, false, false, false] (by simp only [List.getElem?_toArray, List.getElem?_cons_zero, List.getElem?_cons_succ]; rfl) rfl (by kernel_rfl) (by exact fun _ _ _ h => h) (Or.inl ⟨by rfl, fun W hW => by first | rfl | go_simp⟩) hS rfl ?_
          simp only [Act.put, List.setIfInBounds_toArray, List.set_cons_zero, List.set_cons_succ]
          refine Last.take_ (i := 2) (N := some 19) (v := .bool true) #[true, true, true, false, false, false, false, false, false, false, false, false, false, false, false] (by simp only [List.getElem?_toArray, List.getElem?_cons_zero, List.getElem?_cons_succ]; rfl) rfl (by kernel_rfl) (by exact fun _ _ _ h => h) (Or.inl ⟨by rfl, fun W hW => by first | rfl | go_simp⟩) hS rfl ?_
          simp only [Act.put, List.setIfInBounds_toArray, List.set_cons_zero, List.set_cons_succ]
          refine Last.take_ (i := 3) (N := some 20) (v := .pointer (some ⟨q, 0, none⟩)) #[true, true, true, true, false, false, false, false, false, false, false, false, false, false, false] (by simp only [List.getElem?_toArray, List.getElem?_cons_zero, List.getElem?_cons_succ]; rfl) rfl (by kernel_rfl) (by exact fun _ _ _ h => h) (Or.inl ⟨by rfl, fun W hW => by first | rfl | go_simp⟩) hS rfl ?_
          simp only [Act.put, List.setIfInBounds_toArray, List.set_cons_zero, List.set_cons_succ]
          refine Last.take_ (i := 4) (N := some 21) (v := .int .i64 x.pos) #[true, true, true, true, true, false, false, false, false, false, false, false, false, false, false] (by simp only [List.getElem?_toArray, List.getElem?_cons_zero, List.getElem?_cons_succ]; rfl) rfl (by kernel_rfl) (by exact fun _ _ _ h => h) (Or.inl ⟨by rfl, fun W hW => ld3 rfl rfl (Ext.cell hW e0 (fun e => e))⟩) hS rfl ?_
          simp only [Act.put, List.setIfInBounds_toArray, List.set_cons_zero, List.set_cons_succ]
          refine Last.take_ (i := 5) (N := some 22) (v := .pointer (some ⟨g, 0, none⟩)) #[true, true, true, true, true, true, false, false, false, false, false, false, false, false, false] (by simp only [List.getElem?_toArray, List.getElem?_cons_zero, List.getElem?_cons_succ]; rfl) rfl (by kernel_rfl) (by exact fun _ _ _ h => h) (Or.inl ⟨by rfl, fun W hW => by first | rfl | go_simp⟩) hS rfl ?_
          simp only [Act.put, List.setIfInBounds_toArray, List.set_cons_zero, List.set_cons_succ]
          refine Last.take_ (i := 6) (N := some 23) (v := .pointer (some ⟨g, 0, none⟩)) #[true, true, true, true, true, true, true, false, false, false, false, false, false, false, false] (by simp only [List.getElem?_toArray, List.getElem?_cons_zero, List.getElem?_cons_succ]; rfl) rfl (by kernel_rfl) (by exact fun _ _ _ h => h) (Or.inl ⟨by rfl, fun W hW => by first | rfl | go_simp⟩) hS rfl ?_
          simp only [Act.put, List.setIfInBounds_toArray, List.set_cons_zero, List.set_cons_succ]
          refine Last.take_ (i := 7) (N := some 24) (v := .pointer (some ⟨g, 1, none⟩)) #[true, true, true, true, true, true, true, true, false, false, false, false, false, false, false] (by simp only [List.getElem?_toArray, List.getElem?_cons_zero, List.getElem?_cons_succ]; rfl) rfl (by kernel_rfl) (by exact fun _ _ _ h => h) (Or.inl ⟨by rfl, fun W hW => by first | rfl | go_simp⟩) hS rfl ?_
          simp only [Act.put, List.setIfInBounds_toArray, List.set_cons_zero, List.set_cons_succ]
          refine Last.take_ (i := 8) (N := some 25) (v := .slice (some ⟨gs, offs, none⟩) n2 c2) #[true, true, true, true, true, true, true, true, true, false, false, false, false, false, false] (by simp only [List.getElem?_toArray, List.getElem?_cons_zero, List.getElem?_cons_succ]; rfl) rfl (by kernel_rfl) (by exact fun _ _ _ h => h) (Or.inl ⟨by rfl, fun W hW => by have hc := Ext.cell hW b1 (fun e => e); go_simp⟩) hS rfl ?_
          simp only [Act.put, List.setIfInBounds_toArray, List.set_cons_zero, List.set_cons_succ]
          refine Last.take_ (i := 9) (N := some 26) (v := .int .i64 (a : Int)) #[true, true, true, true, true, true, true, true, true, true, false, false, false, false, false] (by simp only [List.getElem?_toArray, List.getElem?_cons_zero, List.getElem?_cons_succ]; rfl) rfl (by kernel_rfl) (by exact fun _ _ _ h => h) (Or.inl ⟨by rfl, fun W hW => by first | rfl | go_simp⟩) hS rfl ?_
          simp only [Act.put, List.setIfInBounds_toArray, List.set_cons_zero, List.set_cons_succ]
          refine Last.take_ (i := 10) (N := some 27) (v := .pointer (some ⟨gs, offs + a * 8, none⟩)) #[true, true, true, true, true, true, true, true, true, true, true, false, false, false, false] (by simp only [List.getElem?_toArray, List.getElem?_cons_zero, List.getElem?_cons_succ]; rfl) rfl (by kernel_rfl) (by exact fun _ _ _ h => h) (Or.inl ⟨by rfl, fun W hW => ix53 rfl rfl rfl han⟩) hS rfl ?_
          simp only [Act.put, List.setIfInBounds_toArray, List.set_cons_zero, List.set_cons_succ]
          refine Last.take_ (i := 11) (N := some 28) (v := .pointer (some ⟨gs, offs + a * 8 + 2, none⟩)) #[true, true, true, true, true, true, true, true, true, true, true, true, false, false, false] (by simp only [List.getElem?_toArray, List.getElem?_cons_zero, List.getElem?_cons_succ]; rfl) rfl (by kernel_rfl) (by exact fun _ _ _ h => h) (Or.inl ⟨by rfl, fun W hW => by first | rfl | go_simp⟩) hS rfl ?_
          simp only [Act.put, List.setIfInBounds_toArray, List.set_cons_zero, List.set_cons_succ]
          refine Last.take_ (i := 12) (N := some 29) (v := .int .i64 y.at_) #[true, true, true, true, true, true, true, true, true, true, true, true, true, false, false] (by simp only [List.getElem?_toArray, List.getElem?_cons_zero, List.getElem?_cons_succ]; rfl) rfl (by kernel_rfl) (by exact fun _ _ _ h => h) (Or.inl ⟨by rfl, fun W hW => ld3 rfl rfl (Ext.cell hW d2 (fun e => e))⟩) hS rfl ?_
          simp only [Act.put, List.setIfInBounds_toArray, List.set_cons_zero, List.set_cons_succ]
          refine Last.take_ (i := 13) (N := some 30) (v := .bool false) #[true, true, true, true, true, true, true, true, true, true, true, true, true, true, false] (by simp only [List.getElem?_toArray, List.getElem?_cons_zero, List.getElem?_cons_succ]; rfl) rfl (by kernel_rfl) (by exact fun _ _ _ h => h) (Or.inl ⟨by rfl, fun W hW => by first | rfl | go_simp⟩) hS rfl ?_
          simp only [Act.put, List.setIfInBounds_toArray, List.set_cons_zero, List.set_cons_succ]
          refine Last.take_ (i := 14) (N := some 31) (v := .bool false) #[true, true, true, true, true, true, true, true, true, true, true, true, true, true, true] (by simp only [List.getElem?_toArray, List.getElem?_cons_zero, List.getElem?_cons_succ]; rfl) rfl (by kernel_rfl) (by exact fun _ _ _ h => h) (Or.inl ⟨by rfl, fun W hW => by first | rfl | go_simp⟩) hS rfl ?_
          simp only [Act.put, List.setIfInBounds_toArray, List.set_cons_zero, List.set_cons_succ]
          refine Last.done_ (by kernel_rfl) ?_
          go_wp2_with fail
          go_roundw
          case rel => exact ⟨j + 1, A3, n3, c3, rfl, by go_num, by omega, (HE.out.trans0 E2.out).drew, by rw [HSN.out, HSK.out, List.append_nil]; exact O2.out.ext0 (Ext.refl Non w2).drew⟩
          case measure => simp [intOf]; omega
    · obtain rfl : j = n1 := by omega
      have HOF : Hid (Rd evK wr ok (.slice A3 n3 c3) (trimE D.subs D.evs)) := by
        have := HO.out
        rw [List.take_of_length_le (by rw [← HN.out]; exact Nat.le_refl _)] at this
        exact this.rd.mono (fun k hk => FF.out k hk)
      have br : RfB wr g _ _ _ _ := HE.out.obj HB.out (fun e => e)
      have c0 := blk_cell br 0
      have z0 := blk_frozen br 0
      have hgr := blk_lt br
      clear br
      go_wp2_with fail
      go_end0
      exact ⟨rfl, (HF.out.ext0 HE.out).setEvs HOF.out, HE.out.of0.trans (og_set wr g 0 _) (fun _ _ h => h)⟩
end Go.Proofs.Ytdjfijdnhfmeeaa

namespace Go.Proofs.Ytdjfijdnhfmeeaa
open Go.RowKit Go.TM
theorem subR_cases (l : List Sb) (id : Int) : (findR l id = (0, 80) ∧ subR l id = (0, 80)) ∨ ∃ (i : Nat) (x : Sb), l[i]? = some x ∧ x.id = id ∧ ((x.gone = true ∧ findR l id = (0, 81) ∧ subR l id = ((i : Int), 81)) ∨ (x.gone = false ∧ findR l id = ((i : Int), 0) ∧ subR l id = ((i : Int), 0))) := by
  rcases findR_cases l id with ⟨h, ha⟩ | ⟨i, x, hx, hi, hb, h⟩
  · exact .inl ⟨h, subR_none (fun k y hy => ha y (List.mem_of_getElem? hy))⟩
  · have hs := subR_at hx hi hb
    rcases h with ⟨hg, h⟩ | ⟨hg, h⟩
    · exact .inr ⟨i, x, hx, hi, .inl ⟨hg, h, hs.trans (if_pos hg)⟩⟩
    · exact .inr ⟨i, x, hx, hi, .inr ⟨hg, h, hs.trans (if_neg (by rw [hg]; decide))⟩⟩
set_option maxRecDepth 100000 in
set_option maxHeartbeats 8000000 in
theorem RAck_calls {w : World} {n g : Nat} {ok : Nat → Prop} {D : Fdr} (h : Rf n ok w g D) (hl : D.evs.length ≤ 1048576000) (hs : D.subs.length ≤ 1000) (hf : Fresh ok w) (id pos : Int) :
    Calls Try.prog 26 #[.pointer (some ⟨g, 0, none⟩), .int .i64 id, .int .i64 pos] w (RfPost n ok g (ackR D id pos).2 (.int .i64 (ackR D id pos).1) w) := by
  have HF := Lib.hid h
  have FF := Lib.hid hf
  have HD := Lib.hid (sub_calls h id)
  have hgone : ∀ u v : Int, v ≠ 0 → findR D.subs id = (0, v) → subR D.subs id = (u, v) → Calls Try.prog 26 #[.pointer (some ⟨g, 0, none⟩), .int .i64 id, .int .i64 pos] w (RfPost n ok g (ackR D id pos).2 (.int .i64 (ackR D id pos).1) w) := fun u v hv he hsu => by
    have HT : Hid (ackR D id pos = (v, D)) := by show _ = _; rw [ackR, he, if_pos hv]
    rw [hsu] at HD
    have ev : (v == 0) = false := beq_eq_false_iff_ne.2 hv
    clear h hf he hsu
    go_enter Try.func26, Try.ntmps26
    go_wp2_with fail
    refine HD.out.mono ?_
    rintro e w5 ⟨rfl, he⟩
    have HE := Lib.hid he
    clear he
    go_wp2_with fail
    go_ret
    rw [HT.out]
    exact ⟨rfl, HF.out.ext0 HE.out, HE.out.of0⟩
  rcases subR_cases D.subs id with ⟨hr, hr2⟩ | ⟨i, x, hx, -, ⟨-, hr, hr2⟩ | ⟨hgx, hr, hr2⟩⟩
  · exact hgone _ 80 (by decide) hr hr2
  · exact hgone _ 81 (by decide) hr hr2
  · have hat : atOf D.subs i = x.at_ := by unfold atOf; rw [hx]
    have hset : setAt D.subs i (toAt pos) = D.subs.set i (toAt pos x) := by unfold setAt; rw [hx]
    have HR : ackR D id pos = if pos < x.at_ then (82, D) else if D.top < pos then (5, D) else (0, trimD { D with subs := D.subs.set i (toAt pos x) }) := by
      rw [ackR, hr, if_neg (fun h => h rfl)]
      simp only [Int.toNat_natCast, hat, hset]
    rw [hr2] at HD
    obtain ⟨A1, n1, c1, A2, n2, c2, hb, h1, h2, h3⟩ := h
    have hn2 : n2 = D.subs.length := by
      obtain ⟨_, _, hs, _, _⟩ := h2.slice
      simp only [Value.slice.injEq] at hs
      exact hs.2.1
    have hin : i < n2 := by have := (List.getElem?_eq_some_iff.1 hx).1; omega
    obtain ⟨ga, offa, B, bl, bd, rfl, hga, hgla, a0, a1, a2, a3, a4, a5, a6, a7, ar⟩ := sb_at h2 hx
    have HB := Lib.hid hb
    have H1 := Lib.hid h1
    have H2 := Lib.hid h2.bound
    have HX := Lib.hid hx
    have H3 := Lib.hid h3
    have hgl := blk_lt hb
    have b1 := blk_cell hb 1
    have b3 := blk_cell hb 3
    have HS : Hid (D.subs.length ≤ 1000) := hs
    have HHR := Lib.hid HR
    clear hf hr hr2 hx hb h1 h2 h3 hat hset hgone a0 a1 a3 a4 a5 a6 a7 ar hga hn2 hs HR
    by_cases ca : pos < x.at_
    · have HT : Hid (ackR D id pos = (82, D)) := by show _ = _; rw [HHR.out, if_pos ca]
      go_enter Try.func26, Try.ntmps26
      go_wp2_with fail
      refine HD.out.mono ?_
      rintro e w5 ⟨rfl, he⟩
      have HE := Lib.hid he
      have b1 := he.cell b1 (fun e => e)
      have a2 := he.cell a2 (fun e => e)
      clear he
      go_wp2_with fail
      go_ret
      rw [HT.out]
      exact ⟨rfl, HF.out.ext0 HE.out, HE.out.of0⟩
    · by_cases c3 : D.top < pos
      · have HT : Hid (ackR D id pos = (5, D)) := by show _ = _; rw [HHR.out, if_neg ca, if_pos c3]
        go_enter Try.func26, Try.ntmps26
        go_wp2_with fail
        refine HD.out.mono ?_
        rintro e w5 ⟨rfl, he⟩
        have HE := Lib.hid he
        have b1 := he.cell b1 (fun e => e)
        have b3 := he.cell b3 (fun e => e)
        have a2 := he.cell a2 (fun e => e)
        clear he
        go_wp2_with fail
        go_ret
        rw [HT.out]
        exact ⟨rfl, HF.out.ext0 HE.out, HE.out.of0⟩
      · have HT : Hid (ackR D id pos = (0, trimD { D with subs := D.subs.set i (toAt pos x) })) := by show _ = _; rw [HHR.out, if_neg ca, if_neg c3]
        go_enter Try.func26, Try.ntmps26
        go_wp2_with fail
        refine HD.out.mono ?_
        rintro e w5 ⟨rfl, he⟩
        have HE := Lib.hid he
        have b1 := he.cell b1 (fun e => e)
        have b3 := he.cell b3 (fun e => e)
        have a2 := he.cell a2 (fun e => e)
        have hs5 := he.size
        have hgl5 : g < w5.heap.size := by omega
        have hga5 : ga < w5.heap.size := by omega
        have F5 := Lib.hid (HF.out.ext0 he)
        have H25 := Lib.hid (H2.out.ext0 he)
        have FF5 := Lib.hid (FF.out.ext he)
        clear he
        go_wp2_with (first
          | (at_builtin
             refine wpList_app (sbK n) (ok := ok) (v := .slice (some ⟨w5.heap.size, 0, none⟩) 0 0) (vx := .slice (some ⟨ga, offa, none⟩) n2 c2) (xs := []) (ys := D.subs) w5.heap.size rfl _ _ 53 64 _ 96 rfl Try.underlying53 (info64 n) rfl (by show 0 < 8; decide) (by simp [Act.eval]) (by simp [Act.eval]) (Own.lit (xs := []) (inner := []) (Reps.nil _ _ _) (Nat.le_refl _) (by simp) (FF5.out _ (Nat.le_refl _))) ((H25.out.ext0 ((Ext.refl _ _).alloc _)).mono (fun k hk => ⟨hk.1, fun e => by simp [Value.ownBlock] at e; have := hk.2; omega⟩)) (fun k hk => FF5.out k (by simp at hk; omega)) (by have := HS.out; simp; omega) (by have := HS.out; simp; omega) (by simp) ?_
             intro v' w6 hown hext hblk
             obtain ⟨A6, m, d, rfl⟩ : ∃ A n c, v' = .slice A n c := by obtain ⟨A4, c4, h4, _, _⟩ := hown.slice; exact ⟨_, _, _, h4⟩
             obtain ⟨g6, rfl⟩ := own_some hown (by have := (List.getElem?_eq_some_iff.1 HX.out).1; simp; omega)
             have he6 : Ext Non w5 w6 := ((Ext.refl Non w5).alloc _).trans hext (fun i hi h => by simp [Value.ownBlock] at h; omega)
             have HE6 := Lib.hid he6
             have hown : Own (sbK n) 64 w6 w5.heap.size ok (.slice (some ⟨g6, 0, none⟩) m d) D.subs := hown
             obtain ⟨rfl, hb6, cur, zs, T, hzs, hz⟩ := hown.to_prow
             obtain ⟨z, hzi, hzx⟩ : ∃ z, zs[i]? = some z ∧ z.1 = x := by
               have := HX.out
               rw [← hzs, List.getElem?_map, Option.map_eq_some_iff] at this
               exact this
             obtain ⟨z1, zc⟩ := z
             simp only at hzx
             subst hzx
             obtain ⟨v, hcs, hkr⟩ := hz.at_ _ (List.mem_of_getElem? hzi)
             simp only at hcs hkr
             subst hcs
             have u2 : w6.cell? ⟨g6, i * 8 + 2, none⟩ = some (.int .i64 z1.at_) := hz.cell hzi (i := 2) rfl
             have f2 := blk_frozen hz.blk (i * 8 + 2)
             have hil : i < D.subs.length := (List.getElem?_eq_some_iff.1 HX.out).1
             have F6 := Lib.hid (F5.out.ext0 he6)
             have hne : g ≠ g6 := by omega
             have y1 : w6.cell? ⟨g, 1, none⟩ = some (.slice (some ⟨ga, offa, none⟩) n2 c2) := he6.cell b1 (fun e => e)
             have f1 : w6.frozen? ⟨g, 1, none⟩ = false := by
               obtain ⟨_, _, _, _, _, _, hb, _⟩ := F6.out
               exact blk_frozen hb 1
             have hgl6 : g < w6.heap.size := by have := he6.size; omega
             have HP := Lib.hid hz
             have HK := Lib.hid hkr
             have HZ := Lib.hid hzi
             have HZS := Lib.hid hzs
             have HB6 := Lib.hid hb6
             clear hown hext hblk he6 hz hkr hzi hzs hb6)
          | fail)
        obtain ⟨cur', HP2⟩ := HP.out.set1 HZ.out (i := 2) (by show 2 < 8; decide) (x := toAt pos z1) (u := .int .i64 pos) ⟨v, rfl, HK.out⟩
        have hzl : zs.length = D.subs.length := by rw [← HZS.out, List.length_map]
        have HS2 : Rd (sbK n) (w6.setCell ⟨g6, i * 8 + 2, none⟩ (.int .i64 pos)) ok (.slice (some ⟨g6, 0, none⟩) D.subs.length d) (D.subs.set i (toAt pos z1)) := by
          have := (HP2.own (base := 0) (by show 0 < 8; decide) (Nat.zero_le _)).rd
          rw [List.length_set, map_fst_set, HZS.out, hzl] at this
          exact this
        have hF : Rf n (fun k => ok k ∧ k < w.heap.size) w g D := HF.out.re (fun k hk hl => ⟨hk, hl⟩) (fun h => H3.out h.1)
        have hF6 : Rf n ok (w6.setCell ⟨g6, i * 8 + 2, none⟩ (.int .i64 pos)) g D := ((hF.ext0 (HE.out.trans0 HE6.out)).ext (M := Only g6) (Ext.setCell (Ext.refl (Only g6) w6) (p := ⟨g6, i * 8 + 2, none⟩) (fun _ => rfl) _) (fun k hk _ h => by have h' : k = g6 := h; have := hk.2; have := HB6.out; omega) (fun h => by have h' : g = g6 := h; omega)).re (fun k hk _ => hk.1) H3.out
        have F7 := hF6.setSubs HS2
        have E7 : Hid (Ext (Only g) w ((w6.setCell ⟨g6, i * 8 + 2, none⟩ (.int .i64 pos)).setCell ⟨g, 1, none⟩ (.slice (some ⟨g6, 0, none⟩) D.subs.length d))) := by
          refine Ext.trans (Ext.setCell (M := Only g) (HE.out.trans0 HE6.out).of0 (p := ⟨g6, i * 8 + 2, none⟩) (fun h => ?_) _) (og_set _ g 1 _) (fun _ _ h => h)
          have h' : g6 < w.heap.size := h
          have := HB6.out
          omega
        refine (rtrim_calls F7 hl (FF.out.ext E7.out)).mono ?_
        rintro e w9 ⟨rfl, hf9, he9⟩
        have HF9 := Lib.hid hf9
        have HE9 := Lib.hid he9
        clear hf9 he9 F7 HP2 HS2 hF hF6
        go_wp2_with fail
        go_ret
        rw [HT.out]
        exact ⟨rfl, HF9.out, E7.out.trans HE9.out (fun _ _ h => h)⟩
end Go.Proofs.Ytdjfijdnhfmeeaa

namespace Go.Proofs.Ytdjfijdnhfmeeaa
open Go.RowKit Go.TM
set_option maxRecDepth 100000 in
set_option maxHeartbeats 16000000 in
theorem RNote_calls {w : World} {n g : Nat} {ok okA : Nat → Prop} {D : Fdr} (h : Rf n ok w g D) (hl : D.evs.length ≤ 1048576) (hs : D.subs.length ≤ 1000) (hf : Fresh ok w) {B : Option Addr} {m d : Nat} {l : List Ev}
    (hA : Rd evK w okA (.slice B m d) l) (hAg : ¬ okA g) (hll : l.length ≤ 1048576) (pos : Int) :
    Calls Try.prog 30 #[.pointer (some ⟨g, 0, none⟩), .int .i64 pos, .slice B m d] w (RfPost n ok g (noteR D pos l).2 (.int .i64 (noteR D pos l).1) w) := by
  have HF := Lib.hid h
  have FF := Lib.hid hf
  have HA := Lib.hid hA.bound
  obtain ⟨_, _, hms, _, hm⟩ := hA.slice
  simp only [Value.slice.injEq] at hms
  obtain ⟨-, hml, -⟩ := hms
  have HML := Lib.hid hml
  have hmx : (m : Int) ≤ 9223372036854775807 := by omega
  obtain ⟨A1, n1, c1, A2, n2, c2, hb, h1, h2, h3⟩ := h
  have HB := Lib.hid hb
  have H1 := Lib.hid h1.bound
  have H2 := Lib.hid h2
  have H3 := Lib.hid h3
  have HAG := Lib.hid hAg
  have hgl := blk_lt hb
  have b3 := blk_cell hb 3
  have bz := blk_frozen hb 3
  clear hf hA hb h1 h2 h3 hAg hm hml
  by_cases ca : pos ≤ D.top
  · have HT : Hid (noteR D pos l = (82, D)) := if_pos ca
    go_enter Try.func30, Try.ntmps30
    go_wp2_with fail
    go_ret
    rw [HT.out]
    exact ⟨rfl, HF.out, Ext.refl _ _⟩
  · by_cases cb : 1099511627776 < pos
    · have HT : Hid (noteR D pos l = (5, D)) := (if_neg ca).trans (if_pos cb)
      go_enter Try.func30, Try.ntmps30
      go_wp2_with fail
      go_ret
      rw [HT.out]
      exact ⟨rfl, HF.out, Ext.refl _ _⟩
    · have HT : Hid (noteR D pos l = (0, evict (liveN (noteD D pos l).subs) (noteD D pos l))) := (if_neg ca).trans (if_neg cb)
      obtain ⟨wt, hwt⟩ : ∃ wt, w.setCell ⟨g, 3, none⟩ (.int .i64 pos) = wt := ⟨_, rfl⟩
      have ET : Hid (Ext (Only g) w wt) := by rw [← hwt]; exact og_set w g 3 _
      have BT : Hid (RfB wt g (.slice A1 n1 c1) (.slice A2 n2 c2) D.next pos) := by show _ = _; rw [← hwt]; exact blk_set HB.out 3 _
      have t0 := blk_cell BT.out 0
      have hst := ET.out.size
      have hglt : g < wt.heap.size := by omega
      have hmk : Hid (∀ k, ok k → k < w.heap.size → ¬ Only g k) := fun k hk _ h => H3.out (by have h' : k = g := h; rw [← h']; exact hk)
      have HT1 : Hid (Rd evK wt (fun k => ok k ∧ k < w.heap.size) (.slice A1 n1 c1) D.evs) := H1.out.ext ET.out (fun k hk hl => hmk.out k hk.1 hl)
      have FT := Lib.hid (FF.out.ext ET.out)
      clear bz b3
      have b3 := blk_cell HB.out 3
      have bz := blk_frozen HB.out 3
      go_enter Try.func30, Try.ntmps30
      go_wp2_with (first
        | (at_builtin
           refine wpList_app evK (ok := ok) (v := .slice (some ⟨wt.heap.size, 0, none⟩) 0 0) (vx := .slice A1 n1 c1) (xs := []) (ys := D.evs) wt.heap.size rfl _ _ 34 43 _ 72 rfl Try.underlying34 info43 rfl (by decide) (by simp [Act.eval]) (by simp [Act.eval]) (Own.lit (xs := []) (inner := []) (Reps.nil _ _ _) (Nat.le_refl _) (by simp) (FT.out _ (Nat.le_refl _))) ((HT1.out.ext0 ((Ext.refl _ _).alloc _)).mono (fun k hk => ⟨hk.1, fun e => by simp [Value.ownBlock] at e; have := hk.2; omega⟩)) (fun k hk => FT.out k (by simp at hk; omega)) (by simp; omega) (by simp; omega) (by simp) ?_
           intro v' w6 hown hext hblk)
        | fail)
      obtain ⟨A6, n6, c6, rfl⟩ : ∃ A n c, v' = .slice A n c := by obtain ⟨A6, c6, h6, _, _⟩ := hown.slice; exact ⟨_, _, _, h6⟩
      have X6 : Hid (Ext Non wt w6) := ((Ext.refl Non wt).alloc _).trans hext (fun i hi h => by simp [Value.ownBlock] at h; omega)
      have E6 : Hid (Ext (Only g) w w6) := ET.out.trans0 X6.out
      have B6 : Hid (RfB w6 g (.slice A1 n1 c1) (.slice A2 n2 c2) D.next pos) := X6.out.obj BT.out (fun e => e)
      have O6 : Hid (Own evK 43 w6 wt.heap.size ok (.slice A6 n6 c6) D.evs) := hown
      clear hown hext hblk b3 bz t0
      go_loopw [7, 31] (fun s7 i wr => ∃ (j : Nat) (A3 : Option Addr) (n3 c3 : Nat), s7 = .slice A3 n3 c3 ∧ i = .int .i64 (j : Int) ∧ j ≤ m ∧ Hid (Ext (fun k => wt.heap.size ≤ k) wt wr) ∧ Hid (Own evK 43 wr wt.heap.size ok (.slice A3 n3 c3) (D.evs ++ (l.take j).map (toPos pos)))) (fun _ i _ => m - (intOf i).toNat)
      case atStart => exact ⟨0, A6, n6, c6, rfl, rfl, by omega, X6.out.of0, by show Own _ _ _ _ _ _ _; simpa using O6.out⟩
      case round =>
        obtain ⟨j, A3, n3, c3, rfl, rfl, hj, HE, HO⟩ := hrel
        by_cases hlt : j < m
        · obtain ⟨x, hx⟩ : ∃ x, l[j]? = some x := ⟨_, List.getElem?_eq_getElem (by have := HML.out; omega)⟩
          obtain ⟨ga, offa, rfl, hga, hgla, a0, a1, a2, a3, a4, a5⟩ := ev_at ((HA.out.ext ET.out (fun k hk _ h => HAG.out (by have h' : k = g := h; rw [← h']; exact hk.1))).ext HE.out (fun k hk _ h => by have h' : wt.heap.size ≤ k := h; have := hk.2; omega)) hx
          have HX := Lib.hid hx
          have hszr := HE.out.size
          have hsz6 := X6.out.size
          have hM : ∀ k, some k = (Value.slice A3 n3 c3).ownBlock → wt.heap.size ≤ k ∧ k < wr.heap.size := fun k h => HO.out.base_le k h.symm
          obtain ⟨q, hq⟩ : ∃ q, wr.heap.size = q := ⟨_, rfl⟩
          obtain ⟨w2, hw2⟩ : ∃ w2, wr.alloc (.cells #[.int .i64 pos, .string x.key, .bool x.had, .string x.old, .bool x.has, .string x.now] 43) = w2 := ⟨_, rfl⟩
          have E2 : Hid (Ext Non wr w2) := by rw [← hw2]; exact (Ext.refl _ _).alloc _
          have B2 : Hid (w2.heap[q]? = some (.cells #[.int .i64 pos, .string x.key, .bool x.had, .string x.old, .bool x.has, .string x.now] 43 (0, 0))) := by rw [← hw2, ← hq]; exact blk_new wr _
          have e0 := blk_cell B2.out 0
          have e1 := blk_cell B2.out 1
          have e2 := blk_cell B2.out 2
          have e3 := blk_cell B2.out 3
          have e4 := blk_cell B2.out 4
          have e5 := blk_cell B2.out 5
          have hql := blk_lt B2.out
          have hs2 := E2.out.size
          have O2 : Hid (Own evK 43 (w2.alloc (.cells (toPos pos x).cells.toArray 43)) wt.heap.size ok (.slice A3 n3 c3) (D.evs ++ (l.take j).map (toPos pos))) := (HO.out.ext0 E2.out).ext0 ((Ext.refl _ _).alloc _)
          clear hx hga
          go_wp2_with (first
            | (at_builtin
               refine wpList_app evK (ok := ok) (v := .slice A3 n3 c3) (vx := .slice (some ⟨w2.heap.size, 0, none⟩) 1 1) (xs := D.evs ++ (l.take j).map (toPos pos)) (ys := [toPos pos x]) wt.heap.size rfl _ _ 34 43 _ 72 rfl Try.underlying34 info43 rfl (by decide) (by simp [Act.eval]) (by simp [Act.eval]) O2.out (Rd.lit_at (cs := (toPos pos x).cells) (e := 43) (fr := (0, 0)) (blk_new w2 _) rfl ⟨FT.out _ (by omega), fun h => by have := hM _ h; omega⟩) (fun k hk => FT.out k (by simp at hk; omega)) (by simp only [List.length_append, List.length_map, List.length_take, List.length_singleton]; omega) (by simp only [List.length_append, List.length_map, List.length_take, List.length_singleton]; omega) (by simp; omega) ?_
               intro v' w' hown hext hblk)
            | fail)
          obtain ⟨A7, n7, c7, rfl⟩ : ∃ A n c, v' = .slice A n c := by obtain ⟨A6, c6, h6, _, _⟩ := hown.slice; exact ⟨_, _, _, h6⟩
          have OW : Hid (Own evK 43 w' wt.heap.size ok (.slice A7 n7 c7) (D.evs ++ (l.take (j + 1)).map (toPos pos))) := by
            show Own _ _ _ _ _ _ _
            rw [List.take_succ_eq_append_getElem (by have := HML.out; omega), (List.getElem?_eq_some_iff.1 HX.out).2, List.map_append, ← List.append_assoc]
            exact hown
          have HEX : Hid (Ext (fun k => wt.heap.size ≤ k) wt w') := ((HE.out.trans0 E2.out).alloc _).trans hext (fun i hi h => (hM _ h).1)
          clear hown hext hblk
          go_roundw
          case rel => exact ⟨j + 1, A7, n7, c7, rfl, by go_num, by omega, HEX.out, OW.out⟩
          case measure => simp [intOf]; omega
        · obtain rfl : j = m := by omega
          have hwr := HE.out.size
          have BW : Hid (RfB wr g (.slice A1 n1 c1) (.slice A2 n2 c2) D.next pos) := HE.out.obj BT.out (fun h => by have h' : wt.heap.size ≤ g := h; omega)
          have EW : Hid (Ext (Only g) w wr) := ET.out.trans HE.out (fun i hi h => by have h' : wt.heap.size ≤ i := h; omega)
          have c0 := blk_cell BW.out 0
          have z0 := blk_frozen BW.out 0
          have hgw := blk_lt BW.out
          have HOF : Hid (Rd evK wr ok (.slice A3 n3 c3) (D.evs ++ l.map (toPos pos))) := by
            have := HO.out
            rw [List.take_of_length_le (by rw [← HML.out]; exact Nat.le_refl _)] at this
            exact this.rd
          have FW : Hid (Rf n ok wr g { D with top := pos }) := ⟨A1, n1, c1, A2, n2, c2, BW.out, (HT1.out.ext HE.out (fun k hk _ h => by have h' : wt.heap.size ≤ k := h; have := hk.2; omega)).mono (fun k hk => hk.1), (H2.out.bound.ext EW.out (fun k hk hl => hmk.out k hk.1 hk.2)).mono (fun k hk => hk.1), H3.out⟩
          have F8 := Lib.hid (FW.out.setEvs HOF.out)
          have E8 : Hid (Ext (Only g) w (wr.setCell ⟨g, 0, none⟩ (.slice A3 n3 c3))) := EW.out.trans (og_set wr g 0 _) (fun _ _ h => h)
          go_wp2_with fail
          refine (rtrim_calls F8.out (by show (D.evs ++ l.map (toPos pos)).length ≤ _; simp only [List.length_append, List.length_map]; omega) (FF.out.ext E8.out)).mono ?_
          rintro e w9 ⟨rfl, hf9, he9⟩
          have HF9 : Hid (Rf n ok w9 g (noteD D pos l)) := hf9
          have HE9 : Hid (Ext (Only g) w w9) := E8.out.trans he9 (fun _ _ h => h)
          clear hf9 he9
          go_wp2_with fail
          go_loopg [] (liveN (noteD D pos l).subs) (fun k wr => ∃ D1, Hid (Rf n ok wr g D1) ∧ Hid (Ext (Only g) w wr) ∧ Hid (liveN D1.subs = k) ∧ Hid (evict k D1 = evict (liveN (noteD D pos l).subs) (noteD D pos l)) ∧ Hid (lastS D1.subs = none → D1.evs = []) ∧ Hid (D1.evs.length ≤ 2097152 ∧ D1.subs.length ≤ 1000))
          case atStart => exact ⟨noteD D pos l, HF9.out, HE9.out, rfl, rfl, fun h => trimD_none h, Nat.le_trans (trimE_len _ _) (by simp only [List.length_append, List.length_map]; omega), hs⟩
          case round =>
            obtain ⟨D1, F1, EX, HLV, HEV, HNO, HSZ⟩ := hrel
            obtain ⟨A1', n1', c1', A2', n2', c2', hb, h1, h2, h3⟩ := F1.out
            have hn1' : n1' = D1.evs.length := by
              obtain ⟨_, _, hs, _, _⟩ := h1.slice
              simp only [Value.slice.injEq] at hs
              exact hs.2.1
            have HN1 := Lib.hid hn1'
            have b0 := blk_cell hb 0
            have b1 := blk_cell hb 1
            have HBr := Lib.hid hb
            have H1r := Lib.hid h1
            have H2r := Lib.hid h2
            clear h1 h2 hb hn1'
            by_cases h32 : 32 < n1'
            · obtain ⟨a, ha⟩ : ∃ a, lastS D1.subs = some a := by
                cases hc : lastS D1.subs with
                | some a => exact ⟨a, rfl⟩
                | none =>
                  have := HN1.out
                  rw [HNO.out hc] at this
                  simp at this
                  omega
              obtain ⟨x, hx, hgx⟩ := lastTo_spec ha
              have hset : goneD D1 = { D1 with subs := D1.subs.set a (toGone x) } := by unfold goneD; rw [ha]; simp only [setAt, hx]
              have hlv := liveN_gone hx hgx
              have HG : Hid (evict (liveN (D1.subs.set a (toGone x))) (trimD { D1 with subs := D1.subs.set a (toGone x) }) = evict (liveN (noteD D pos l).subs) (noteD D pos l)) := by
                have := HEV.out
                rw [← HLV.out, ← hlv, evict, if_pos (by rw [← HN1.out]; exact h32), hset] at this
                exact this
              have HLT : Hid (liveN (D1.subs.set a (toGone x)) < gk) := by show _ < _; rw [← HLV.out]; omega
              have HLA := Lib.hid ha
              have HX := Lib.hid hx
              have HGX := Lib.hid hgx
              have hszr := EX.out.size
              clear ha hx hgx hset hlv
              have H25 := Lib.hid H2r.out.bound
              have FF5 := Lib.hid (FF.out.ext EX.out)
              have hgr0 := blk_lt HBr.out
              have HRF := Lib.hid (F1.out.re (ok' := fun k => ok k ∧ k < wr.heap.size) (fun k hk hl => ⟨hk, hl⟩) (fun h => H3.out h.1))
              go_wp2_with (first
                | (at_builtin
                   refine wpList_app (sbK n) (ok := ok) (v := .slice (some ⟨wr.heap.size, 0, none⟩) 0 0) (vx := .slice A2' n2' c2') (xs := []) (ys := D1.subs) wr.heap.size rfl _ _ 53 64 _ 96 rfl Try.underlying53 (info64 n) rfl (by show 0 < 8; decide) (by simp [Act.eval]) (by simp [Act.eval]) (Own.lit (xs := []) (inner := []) (Reps.nil _ _ _) (Nat.le_refl _) (by simp) (FF5.out _ (Nat.le_refl _))) ((H25.out.ext0 ((Ext.refl _ _).alloc _)).mono (fun k hk => ⟨hk.1, fun e => by simp [Value.ownBlock] at e; have := hk.2; omega⟩)) (fun k hk => FF5.out k (by simp at hk; omega)) (by have := HSZ.out.2; simp; omega) (by have := HSZ.out.2; simp; omega) (by simp) ?_
                   intro v' w6 hown hext hblk)
                | fail)
              obtain ⟨B6, mm, d, rfl⟩ : ∃ A n c, v' = .slice A n c := by obtain ⟨A4, c4, h4, _, _⟩ := hown.slice; exact ⟨_, _, _, h4⟩
              have he : Ext Non wr w6 := ((Ext.refl Non wr).alloc _).trans hext (fun i hi h => by simp [Value.ownBlock] at h; omega)
              have ho : Own (sbK n) 64 w6 wr.heap.size ok (.slice B6 mm d) D1.subs := hown
              clear hown hext hblk
              have hil : a < D1.subs.length := (List.getElem?_eq_some_iff.1 HX.out).1
              obtain ⟨g6, rfl⟩ := own_some ho (by omega)
              obtain ⟨rfl, hb6, cur, zs, T, hzs, hz⟩ := ho.to_prow
              obtain ⟨z, hzi, hzx⟩ : ∃ z, zs[a]? = some z ∧ z.1 = x := by
                have := HX.out
                rw [← hzs, List.getElem?_map, Option.map_eq_some_iff] at this
                exact this
              obtain ⟨z1, zc⟩ := z
              simp only at hzx
              subst hzx
              obtain ⟨v, hcs, hkr⟩ := hz.at_ _ (List.mem_of_getElem? hzi)
              simp only at hcs hkr
              subst hcs
              have hgr := blk_lt HBr.out
              have hne : g ≠ g6 := by omega
              have HLAST := Lib.hid (least_calls (F1.out.ext0 he))
              rw [HLA.out] at HLAST
              have F6 := Lib.hid (HRF.out.ext0 he)
              have HP := Lib.hid hz
              have HK := Lib.hid hkr
              have HZ := Lib.hid hzi
              have HZS := Lib.hid hzs
              have HB6 := Lib.hid hb6
              have X6' := Lib.hid he
              clear ho he hz hzi hzs hkr
              refine HLAST.out.mono ?_
              rintro e w8 ⟨rfl, he8⟩
              have X8 := Lib.hid he8
              have HP8 := Lib.hid (HP.out.ext he8 (fun _ _ _ h => h))
              have HK8 := Lib.hid (HK.out.ext0 he8)
              have u7 : w8.cell? ⟨g6, a * 8 + 7, none⟩ = some (.bool z1.gone) := HP8.out.cell HZ.out (i := 7) rfl
              have f7 := blk_frozen HP8.out.blk (a * 8 + 7)
              have F8 := Lib.hid (F6.out.ext0 he8)
              obtain ⟨_, _, _, _, _, _, hb8, _⟩ := F8.out
              have y1 := blk_cell hb8 1
              have f1 := blk_frozen hb8 1
              have hgl8 := blk_lt hb8
              have hl68 := blk_lt HP8.out.blk
              clear he8 hb8
              simp only [idx]
              go_wp2_with fail
              obtain ⟨cur', HP2⟩ := HP8.out.set1 HZ.out (i := 7) (by show 7 < 8; decide) (x := toGone z1) (u := .bool true) ⟨v, rfl, HK8.out⟩
              have hzl : zs.length = D1.subs.length := by rw [← HZS.out, List.length_map]
              have HS2 : Rd (sbK n) (w8.setCell ⟨g6, a * 8 + 7, none⟩ (.bool true)) ok (.slice (some ⟨g6, 0, none⟩) D1.subs.length d) (D1.subs.set a (toGone z1)) := by
                have := (HP2.own (base := 0) (by show 0 < 8; decide) (Nat.zero_le _)).rd
                rw [List.length_set, map_fst_set, HZS.out, hzl] at this
                exact this
              have hF6 : Rf n ok (w8.setCell ⟨g6, a * 8 + 7, none⟩ (.bool true)) g D1 := (F8.out.ext (M := Only g6) (Ext.setCell (Ext.refl (Only g6) w8) (p := ⟨g6, a * 8 + 7, none⟩) (fun _ => rfl) _) (fun k hk _ h => by have h' : k = g6 := h; have := hk.2; have := HB6.out; omega) (fun h => by have h' : g = g6 := h; omega)).re (fun k hk _ => hk.1) H3.out
              have F9 := hF6.setSubs HS2
              have E89 : Hid (Ext (Only g) w ((w8.setCell ⟨g6, a * 8 + 7, none⟩ (.bool true)).setCell ⟨g, 1, none⟩ (.slice (some ⟨g6, 0, none⟩) D1.subs.length d))) := by
                refine Ext.trans (Ext.setCell (M := Only g) ((EX.out.trans0 X6'.out).trans0 X8.out) (p := ⟨g6, a * 8 + 7, none⟩) (fun h => ?_) _) (og_set _ g 1 _) (fun _ _ h => h)
                have h' : g6 < w.heap.size := h
                have := HB6.out
                omega
              refine (rtrim_calls F9 (by have := HSZ.out.1; show D1.evs.length ≤ _; omega) (FF.out.ext E89.out)).mono ?_
              rintro e w11 ⟨rfl, hf11, he11⟩
              have F11 := Lib.hid hf11
              have E11 : Hid (Ext (Only g) w w11) := E89.out.trans he11 (fun _ _ h => h)
              clear hf11 he11 F9 HP2 HS2 hF6
              go_wp2_with fail
              go_roundg (liveN (D1.subs.set a (toGone z1)))
              case measure => exact HLT.out
              case rel => exact ⟨_, F11.out, E11.out, rfl, HG.out, fun h => trimD_none h, Nat.le_trans (trimE_len _ _) HSZ.out.1, by show (D1.subs.set a (toGone z1)).length ≤ _; rw [List.length_set]; exact HSZ.out.2⟩
            · have HR : Hid (D1 = evict (liveN (noteD D pos l).subs) (noteD D pos l)) := by
                show _ = _
                rw [← HEV.out]
                cases gk with
                | zero => rfl
                | succ k => rw [evict, if_neg (by rw [← HN1.out]; exact h32)]
              go_wp2_with fail
              go_ret
              rw [HT.out]
              refine ⟨rfl, ?_, EX.out⟩
              show Rf n ok wr g (evict (liveN (noteD D pos l).subs) (noteD D pos l))
              rw [← HR.out]
              exact F1.out
end Go.Proofs.Ytdjfijdnhfmeeaa

namespace Go.Proofs.Ytdjfijdnhfmeeaa
open Go.RowKit Go.TM
set_option maxRecDepth 100000 in
set_option maxHeartbeats 8000000 in
theorem SameE_calls {w : World} {ok ok2 : Nat → Prop} {A B : Option Addr} {n m c d : Nat} {l : List Ev} (H : Rd evK w ok (.slice A n c) l) (K : Rd evK w ok2 (.slice B m d) l) : Calls Try.prog 28 #[.slice A n c, .slice B m d] w fun e w' => e = .returned (.bool true) ∧ Ext Non w w' := by
  obtain ⟨_, _, hs, _, hm⟩ := H.slice
  simp only [Value.slice.injEq] at hs
  obtain ⟨-, hn, -⟩ := hs
  obtain ⟨_, _, hs, _, -⟩ := K.slice
  simp only [Value.slice.injEq] at hs
  obtain ⟨-, hn2, -⟩ := hs
  obtain rfl : m = n := hn2.trans hn.symm
  have hmx : (m : Int) ≤ 9223372036854775807 := by omega
  have HH := Lib.hid H
  have HK := Lib.hid K
  have HN := Lib.hid hn
  clear H K hn hn2 hm
  go_enter Try.func28, Try.ntmps28
  go_wp2_with fail
  go_loopw [13] (fun i wr => ∃ j : Nat, i = .int .i64 (j : Int) ∧ j ≤ m ∧ Hid (Ext Non w wr)) (fun i _ => m - (intOf i).toNat)
  case atStart => exact ⟨0, rfl, by omega, Ext.refl _ _⟩
  case round =>
    obtain ⟨j, rfl, hj, HE⟩ := hrel
    by_cases hlt : j < m
    · obtain ⟨e, he0⟩ : ∃ e, l[j]? = some e := ⟨_, List.getElem?_eq_getElem (by have := HN.out; omega)⟩
      obtain ⟨ga, offa, rfl, hga, hgla, a0, a1, a2, a3, a4, a5⟩ := ev_at (HH.out.ext0 HE.out) he0
      obtain ⟨gb, offb, rfl, hgb, hglb, b0, b1, b2, b3, b4, b5⟩ := ev_at (HK.out.ext0 HE.out) he0
      clear he0
      go_wp2_with fail
      go_region
      go_wp2_with fail
      go_roundw
      case rel => exact ⟨j + 1, by go_num, by omega, by repeat (first | exact HE.out | refine Ext.drew ?_)⟩
      case measure => simp [intOf]; omega
    · obtain rfl : j = m := by omega
      go_wp2_with fail
      go_ret
      exact ⟨rfl, HE.out⟩
end Go.Proofs.Ytdjfijdnhfmeeaa

