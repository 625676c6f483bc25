/- Who is furthest behind; the function values of a feed. -/
import Derived.Test.YtdjfijdnhfmeeaaQ4
import Derived.Test.YtdjfijdnhfmeeaaL
namespace Go.Proofs.Ytdjfijdnhfmeeaa
open Go.RowKit Go.TM
def atOf (l : List Sb) (a : Nat) : Int := match l[a]? with | some s => s.at_ | none => 0
def lastTo (l : List Sb) : Nat → Option Nat
  | 0 => none
  | j + 1 => match l[j]? with
    | some s => if s.gone = true then lastTo l j else match lastTo l j with
      | none => some j
      | some a => if s.at_ < atOf l a then some j else some a
    | none => lastTo l j
/-- Who is furthest behind. -/
def lastS (l : List Sb) : Option Nat := lastTo l l.length
def idx : Option Nat → Int
  | none => -1
  | some a => (a : Int)
theorem lastTo_lt {l : List Sb} : ∀ {j a : Nat}, lastTo l j = some a → a < j ∧ a < l.length
  | 0, a, h => by cases h
  | j + 1, a, h => by
    unfold lastTo at h
    cases hj : l[j]? with
    | none =>
      rw [hj] at h
      have := lastTo_lt h
      omega
    | some s =>
      have hjl := (List.getElem?_eq_some_iff.1 hj).1
      rw [hj] at h
      simp only at h
      by_cases hg : s.gone = true
      · rw [if_pos hg] at h
        have := lastTo_lt h
        omega
      · rw [if_neg hg] at h
        cases hb : lastTo l j with
        | none =>
          rw [hb] at h
          cases h
          omega
        | some b =>
          rw [hb] at h
          simp only at h
          have := lastTo_lt hb
          by_cases hx : s.at_ < atOf l b
          · rw [if_pos hx] at h
            cases h
            omega
          · rw [if_neg hx] at h
            cases h
            omega
theorem lastTo_gone {l : List Sb} {j : Nat} {s : Sb} (hj : l[j]? = some s) (hg : s.gone = true) : lastTo l (j + 1) = lastTo l j := by
  rw [lastTo, hj]
  simp [hg]
theorem lastTo_new {l : List Sb} {j : Nat} {s : Sb} (hj : l[j]? = some s) (hg : s.gone = false) (hn : lastTo l j = none) : lastTo l (j + 1) = some j := by
  rw [lastTo, hj, hn]
  simp [hg]
theorem lastTo_less {l : List Sb} {j a : Nat} {s : Sb} (hj : l[j]? = some s) (hg : s.gone = false) (hn : lastTo l j = some a) (hx : s.at_ < atOf l a) : lastTo l (j + 1) = some j := by
  rw [lastTo, hj, hn]
  simp [hg, hx]
theorem lastTo_keep {l : List Sb} {j a : Nat} {s : Sb} (hj : l[j]? = some s) (hg : s.gone = false) (hn : lastTo l j = some a) (hx : ¬ s.at_ < atOf l a) : lastTo l (j + 1) = some a := by
  rw [lastTo, hj, hn]
  simp [hg, hx]
set_option maxRecDepth 100000 in
set_option maxHeartbeats 8000000 in
theorem last_calls {w : World} {n g : Nat} {ok : Nat → Prop} {D : Fdr} (h : Fd n ok w g D) :
    Calls Try.prog 52 #[.pointer (some ⟨g, 0, none⟩)] w fun e w' => e = .returned (.int .i64 (idx (lastS D.subs))) ∧ Ext Non w w' := by
  obtain ⟨A1, n1, c1, A2, n2, c2, hb, h1, h2, h3⟩ := h
  obtain ⟨_, _, hs, _, hm⟩ := h2.slice
  simp only [Value.slice.injEq] at hs
  obtain ⟨-, hn, -⟩ := hs
  have hmx : (n2 : Int) ≤ 9223372036854775807 := by omega
  obtain ⟨l, hl⟩ : ∃ l, D.subs = l := ⟨_, rfl⟩
  rw [hl] at h2 hn ⊢
  have b1 := hb.c1
  have HB := Lib.hid hb
  have H2 := Lib.hid h2
  have HN := Lib.hid hn
  clear hb h1 h2 h3 hn hm hl
  go_enter Try.func52, Try.ntmps52
  go_wp2_with fail
  go_loopw [3, 11] (fun s3 i wr => ∃ j : Nat, s3 = .int .i64 (idx (lastTo l j)) ∧ i = .int .i64 (j : Int) ∧ j ≤ n2 ∧ Hid (Ext Non w wr)) (fun _ i _ => n2 - (intOf i).toNat)
  case atStart => exact ⟨0, rfl, rfl, by omega, Ext.refl _ _⟩
  case round =>
    obtain ⟨j, rfl, rfl, hj, HE⟩ := hrel
    by_cases hlt : j < n2
    · obtain ⟨x, hx⟩ : ∃ x, l[j]? = some x := ⟨_, List.getElem?_eq_getElem (by have := HN.out; omega)⟩
      obtain ⟨ga, offa, B, bl, bd, rfl, hga, hgla, a0, a1, a2, a3, a4, a5, a6, a7, ar⟩ := sb_at (H2.out.ext0 HE.out) hx
      have HX := Lib.hid hx
      have bb := HB.out.c1
      have bb' : wr.cell? ⟨g, 1, none⟩ = _ := HE.out.cell bb (fun e => e)
      have hg' : g < wr.heap.size := Nat.lt_of_lt_of_le (blk_lt HB.out) HE.out.size
      clear ar hx bb
      cases hq : x.gone with
      | true =>
        rw [hq] at a7
        have hl := lastTo_gone HX.out hq
        clear hq
        go_wp2_with fail
        go_region
        go_wp2_with fail
        go_roundw
        case rel =>
          refine ⟨j + 1, by rw [hl], by go_num, by omega, HE.out.trans0 ?_⟩
          repeat (first | exact Ext.refl _ _ | refine Ext.drew ?_ | refine Ext.alloc ?_ _ | refine Ext.setNew ?_ (Nat.le_refl _) _)
        case measure => simp [intOf]; omega
      | false =>
        rw [hq] at a7
        cases ha : lastTo l j with
        | none =>
          have hl := lastTo_new HX.out hq ha
          clear hq
          go_wp2_with fail
          have NB := blk_new wr (.cells #[.int .i64 x.id, .int .i64 x.fr, .int .i64 x.at_, .int .i64 x.q.op, .string x.q.key, .string x.q.val, .slice B bl bd, .bool false] 64)
          have x7 := blk_cell NB 7
          simp only [idx]
          refine Last.start_ (S := fun W => W.cell? ⟨wr.heap.size, 7, none⟩ = some (.bool false)) (ds := []) #[false, false, false, false, false, false, false, false, false, false, false, false, false, false, false, false, false, false, false, false] (by kernel_rfl) (by rfl) (by rfl) x7 (fun hS => ?_)
          refine Last.take_ (i := 0) (N := some 16) (v := .pointer (some ⟨wr.heap.size, 7, none⟩)) #[true, false, false, false, false, false, false, false, false, false, false, false, false, false, false, false, false, false, false, false] (by simp only [List.getElem?_toArray, List.getElem?_cons_zero]; rfl) rfl (by kernel_rfl) (by exact fun _ _ _ h => h) (Or.inl ⟨by rfl, fun W hW => by first | rfl | (try dsimp only at hW); go_simp⟩) hS rfl ?_
          simp only [Act.put, List.setIfInBounds_toArray, List.set_cons_zero, List.set_cons_succ]
          refine Last.take_ (i := 1) (N := some 17) (v := .bool false) #[true, true, false, false, false, false, false, false, false, false, false, false, false, false, false, false, false, false, false, false] (by simp only [List.getElem?_toArray, List.getElem?_cons_zero, List.getElem?_cons_succ]; rfl) rfl (by kernel_rfl) (by exact fun _ _ _ h => h) (Or.inl ⟨by rfl, fun W hW => by first | rfl | (try dsimp only at hW); go_simp⟩) hS rfl ?_
          simp only [Act.put, List.setIfInBounds_toArray, List.set_cons_zero, List.set_cons_succ]
          refine Last.take_ (i := 2) (N := some 18) (v := .bool true) #[true, true, true, false, false, false, false, false, false, false, false, false, false, false, false, false, false, false, false, false] (by simp only [List.getElem?_toArray, List.getElem?_cons_zero, List.getElem?_cons_succ]; rfl) rfl (by kernel_rfl) (by exact fun _ _ _ h => h) (Or.inl ⟨by rfl, fun W hW => by first | rfl | (try dsimp only at hW); go_simp⟩) hS rfl ?_
          simp only [Act.put, List.setIfInBounds_toArray, List.set_cons_zero, List.set_cons_succ]
          refine Last.take_ (i := 3) (N := some 19) (v := .bool true) #[true, true, true, true, false, false, false, false, false, false, false, false, false, false, false, false, false, false, false, false] (by simp only [List.getElem?_toArray, List.getElem?_cons_zero, List.getElem?_cons_succ]; rfl) rfl (by kernel_rfl) (by exact fun _ _ _ h => h) (Or.inl ⟨by rfl, fun W hW => by first | rfl | (try dsimp only at hW); go_simp⟩) hS rfl ?_
          simp only [Act.put, List.setIfInBounds_toArray, List.set_cons_zero, List.set_cons_succ]
          refine Last.take_ (i := 4) (N := some 20) (v := .int .i64 (-1)) #[true, true, true, true, true, false, false, false, false, false, false, false, false, false, false, false, false, false, false, false] (by simp only [List.getElem?_toArray, List.getElem?_cons_zero, List.getElem?_cons_succ]; rfl) rfl (by kernel_rfl) (by exact fun _ _ _ h => h) (Or.inl ⟨by rfl, fun W hW => by first | rfl | (try dsimp only at hW); go_simp⟩) hS rfl ?_
          simp only [Act.put, List.setIfInBounds_toArray, List.set_cons_zero, List.set_cons_succ]
          refine Last.take_ (i := 5) (N := some 21) (v := .bool true) #[true, true, true, true, true, true, false, false, false, false, false, false, false, false, false, false, false, false, false, false] (by simp only [List.getElem?_toArray, List.getElem?_cons_zero, List.getElem?_cons_succ]; rfl) rfl (by kernel_rfl) (by exact fun _ _ _ h => h) (Or.inl ⟨by rfl, fun W hW => by first | rfl | (try dsimp only at hW); go_simp⟩) hS rfl ?_
          simp only [Act.put, List.setIfInBounds_toArray, List.set_cons_zero, List.set_cons_succ]
          refine Last.take_ (i := 6) (N := some 22) (v := .bool true) #[true, true, true, true, true, true, true, false, false, false, false, false, false, false, false, false, false, false, false, false] (by simp only [List.getElem?_toArray, List.getElem?_cons_zero, List.getElem?_cons_succ]; rfl) rfl (by kernel_rfl) (by exact fun _ _ _ h => h) (Or.inl ⟨by rfl, fun W hW => by first | rfl | (try dsimp only at hW); go_simp⟩) hS rfl ?_
          simp only [Act.put, List.setIfInBounds_toArray, List.set_cons_zero, List.set_cons_succ]
          refine Last.take_ (i := 7) (N := some 23) (v := undef) #[true, true, true, true, true, true, true, true, false, false, false, false, false, false, false, false, false, false, false, false] (by simp only [List.getElem?_toArray, List.getElem?_cons_zero, List.getElem?_cons_succ]; rfl) rfl (by kernel_rfl) (by exact fun _ _ _ h => h) (Or.inr ⟨by rfl, rfl⟩) hS rfl ?_
          simp only [Act.put, List.setIfInBounds_toArray, List.set_cons_zero, List.set_cons_succ]
          refine Last.take_ (i := 8) (N := some 24) (v := undef) #[true, true, true, true, true, true, true, true, true, false, false, false, false, false, false, false, false, false, false, false] (by simp only [List.getElem?_toArray, List.getElem?_cons_zero, List.getElem?_cons_succ]; rfl) rfl (by kernel_rfl) (by exact fun _ _ _ h => h) (Or.inr ⟨by rfl, rfl⟩) hS rfl ?_
          simp only [Act.put, List.setIfInBounds_toArray, List.set_cons_zero, List.set_cons_succ]
          refine Last.take_ (i := 9) (N := some 25) (v := undef) #[true, true, true, true, true, true, true, true, true, true, false, false, false, false, false, false, false, false, false, false] (by simp only [List.getElem?_toArray, List.getElem?_cons_zero, List.getElem?_cons_succ]; rfl) rfl (by kernel_rfl) (by exact fun _ _ _ h => h) (Or.inr ⟨by rfl, rfl⟩) hS rfl ?_
          simp only [Act.put, List.setIfInBounds_toArray, List.set_cons_zero, List.set_cons_succ]
          refine Last.take_ (i := 10) (N := some 26) (v := undef) #[true, true, true, true, true, true, true, true, true, true, true, false, false, false, false, false, false, false, false, false] (by simp only [List.getElem?_toArray, List.getElem?_cons_zero, List.getElem?_cons_succ]; rfl) rfl (by kernel_rfl) (by exact fun _ _ _ h => h) (Or.inr ⟨by rfl, rfl⟩) hS rfl ?_
          simp only [Act.put, List.setIfInBounds_toArray, List.set_cons_zero, List.set_cons_succ]
          refine Last.take_ (i := 11) (N := some 27) (v := undef) #[true, true, true, true, true, true, true, true, true, true, true, true, false, false, false, false, false, false, false, false] (by simp only [List.getElem?_toArray, List.getElem?_cons_zero, List.getElem?_cons_succ]; rfl) rfl (by kernel_rfl) (by exact fun _ _ _ h => h) (Or.inr ⟨by rfl, rfl⟩) hS rfl ?_
          simp only [Act.put, List.setIfInBounds_toArray, List.set_cons_zero, List.set_cons_succ]
          refine Last.take_ (i := 12) (N := some 28) (v := undef) #[true, true, true, true, true, true, true, true, true, true, true, true, true, false, false, false, false, false, false, false] (by simp only [List.getElem?_toArray, List.getElem?_cons_zero, List.getElem?_cons_succ]; rfl) rfl (by kernel_rfl) (by exact fun _ _ _ h => h) (Or.inr ⟨by rfl, rfl⟩) hS rfl ?_
          simp only [Act.put, List.setIfInBounds_toArray, List.set_cons_zero, List.set_cons_succ]
          refine Last.take_ (i := 13) (N := some 29) (v := undef) #[true, true, true, true, true, true, true, true, true, true, true, true, true, true, false, false, false, false, false, false] (by simp only [List.getElem?_toArray, List.getElem?_cons_zero, List.getElem?_cons_succ]; rfl) rfl (by kernel_rfl) (by exact fun _ _ _ h => h) (Or.inr ⟨by rfl, rfl⟩) hS rfl ?_
          simp only [Act.put, List.setIfInBounds_toArray, List.set_cons_zero, List.set_cons_succ]
          refine Last.take_ (i := 14) (N := some 30) (v := undef) #[true, true, true, true, true, true, true, true, true, true, true, true, true, true, true, false, false, false, false, false] (by simp only [List.getElem?_toArray, List.getElem?_cons_zero, List.getElem?_cons_succ]; rfl) rfl (by kernel_rfl) (by exact fun _ _ _ h => h) (Or.inr ⟨by rfl, rfl⟩) hS rfl ?_
          simp only [Act.put, List.setIfInBounds_toArray, List.set_cons_zero, List.set_cons_succ]
          refine Last.take_ (i := 15) (N := some 31) (v := undef) #[true, true, true, true, true, true, true, true, true, true, true, true, true, true, true, true, false, false, false, false] (by simp only [List.getElem?_toArray, List.getElem?_cons_zero, List.getElem?_cons_succ]; rfl) rfl (by kernel_rfl) (by exact fun _ _ _ h => h) (Or.inr ⟨by rfl, rfl⟩) hS rfl ?_
          simp only [Act.put, List.setIfInBounds_toArray, List.set_cons_zero, List.set_cons_succ]
          refine Last.take_ (i := 16) (N := some 32) (v := undef) #[true, true, true, true, true, true, true, true, true, true, true, true, true, true, true, true, true, false, false, false] (by simp only [List.getElem?_toArray, List.getElem?_cons_zero, List.getElem?_cons_succ]; rfl) rfl (by kernel_rfl) (by exact fun _ _ _ h => h) (Or.inr ⟨by rfl, rfl⟩) hS rfl ?_
          simp only [Act.put, List.setIfInBounds_toArray, List.set_cons_zero, List.set_cons_succ]
          refine Last.take_ (i := 17) (N := some 33) (v := undef) #[true, true, true, true, true, true, true, true, true, true, true, true, true, true, true, true, true, true, false, false] (by simp only [List.getElem?_toArray, List.getElem?_cons_zero, List.getElem?_cons_succ]; rfl) rfl (by kernel_rfl) (by exact fun _ _ _ h => h) (Or.inr ⟨by rfl, rfl⟩) hS rfl ?_
          simp only [Act.put, List.setIfInBounds_toArray, List.set_cons_zero, List.set_cons_succ]
          refine Last.take_ (i := 18) (N := some 34) (v := .bool true) #[true, true, true, true, true, true, true, true, true, true, true, true, true, true, true, true, true, true, true, false] (by simp only [List.getElem?_toArray, List.getElem?_cons_zero, List.getElem?_cons_succ]; rfl) rfl (by kernel_rfl) (by exact fun _ _ _ h => h) (Or.inl ⟨by rfl, fun W hW => by first | rfl | (try dsimp only at hW); go_simp⟩) hS rfl ?_
          simp only [Act.put, List.setIfInBounds_toArray, List.set_cons_zero, List.set_cons_succ]
          refine Last.take_ (i := 19) (N := some 35) (v := .bool true) #[true, true, true, true, true, true, true, true, true, true, true, true, true, true, true, true, true, true, true, true] (by simp only [List.getElem?_toArray, List.getElem?_cons_zero, List.getElem?_cons_succ]; rfl) rfl (by kernel_rfl) (by exact fun _ _ _ h => h) (Or.inl ⟨by rfl, fun W hW => by first | rfl | (try dsimp only at hW); go_simp⟩) hS rfl ?_
          simp only [Act.put, List.setIfInBounds_toArray, List.set_cons_zero, List.set_cons_succ]
          refine Last.done_ (by kernel_rfl) ?_
          go_wp2_with fail
          go_roundw
          case rel =>
            refine ⟨j + 1, by rw [hl]; rfl, by go_num, by omega, HE.out.trans0 ?_⟩
            repeat (first | exact Ext.refl _ _ | refine Ext.drew ?_ | refine Ext.alloc ?_ _ | refine Ext.setNew ?_ (Nat.le_refl _) _)
          case measure => simp [intOf]; omega
        | some a =>
          obtain ⟨haj, hal⟩ := lastTo_lt ha
          obtain ⟨y, hy⟩ : ∃ y, l[a]? = some y := ⟨_, List.getElem?_eq_getElem hal⟩
          obtain ⟨gb, offb, B2, bl2, bd2, hA, hgb, hglb, d0, d1, d2, d3, d4, d5, d6, d7, dr⟩ := sb_at (H2.out.ext0 HE.out) hy
          simp only [Option.some.injEq, Addr.mk.injEq, and_true] at hA
          obtain ⟨rfl, rfl⟩ := hA
          have hat : atOf l a = y.at_ := by unfold atOf; rw [hy]
          have han : a < n2 := by have := HN.out; omega
          clear d0 d1 d3 d4 d5 d6 d7 dr hy hgb
          by_cases hc : x.at_ < y.at_
          · have hl := lastTo_less HX.out hq ha (by rw [hat]; exact hc)
            clear hq hat
            simp only [idx]
            go_wp2_with fail
            have NB := blk_new wr (.cells #[.int .i64 x.id, .int .i64 x.fr, .int .i64 x.at_, .int .i64 x.q.op, .string x.q.key, .string x.q.val, .slice B bl bd, .bool false] 64)
            have x7 := blk_cell NB 7
            have x2 := blk_cell NB 2
            have x1 := ((Ext.refl Non wr).alloc (.cells #[.int .i64 x.id, .int .i64 x.fr, .int .i64 x.at_, .int .i64 x.q.op, .string x.q.key, .string x.q.val, .slice B bl bd, .bool false] 64)).cell bb' (fun e => e)
            have xa := ((Ext.refl Non wr).alloc (.cells #[.int .i64 x.id, .int .i64 x.fr, .int .i64 x.at_, .int .i64 x.q.op, .string x.q.key, .string x.q.val, .slice B bl bd, .bool false] 64)).cell d2 (fun e => e)
            refine Last.start_ (S := fun W => W.cell? ⟨wr.heap.size, 7, none⟩ = some (.bool false) ∧ W.cell? ⟨wr.heap.size, 2, none⟩ = some (.int .i64 x.at_) ∧ W.cell? ⟨g, 1, none⟩ = some (.slice (some ⟨ga, offa, none⟩) n2 c2) ∧ W.cell? ⟨ga, offa + a * 8 + 2, none⟩ = some (.int .i64 y.at_)) (ds := []) #[false, false, false, false, false, false, false, false, false, false, false, false, false, false, false, false, false, false, false, false] (by kernel_rfl) (by rfl) (by rfl) ⟨x7, x2, x1, xa⟩ (fun hS => ?_)
            refine Last.take_ (i := 0) (N := some 16) (v := .pointer (some ⟨wr.heap.size, 7, none⟩)) #[true, false, false, false, false, false, false, false, false, false, false, false, false, false, false, false, false, false, false, false] (by simp only [List.getElem?_toArray, List.getElem?_cons_zero]; rfl) rfl (by kernel_rfl) (by exact fun _ _ _ h => h) (Or.inl ⟨by rfl, fun W hW => by first | rfl | (try dsimp only at hW); go_simp⟩) hS rfl ?_
            simp only [Act.put, List.setIfInBounds_toArray, List.set_cons_zero, List.set_cons_succ]
            refine Last.take_ (i := 1) (N := some 17) (v := .bool false) #[true, true, false, false, false, false, false, false, false, false, false, false, false, false, false, false, false, false, false, false] (by simp only [List.getElem?_toArray, List.getElem?_cons_zero, List.getElem?_cons_succ]; rfl) rfl (by kernel_rfl) (by exact fun _ _ _ h => h) (Or.inl ⟨by rfl, fun W hW => by first | rfl | (try dsimp only at hW); go_simp⟩) hS rfl ?_
            simp only [Act.put, List.setIfInBounds_toArray, List.set_cons_zero, List.set_cons_succ]
            refine Last.take_ (i := 2) (N := some 18) (v := .bool true) #[true, true, true, false, false, false, false, false, false, false, false, false, false, false, false, false, false, false, false, false] (by simp only [List.getElem?_toArray, List.getElem?_cons_zero, List.getElem?_cons_succ]; rfl) rfl (by kernel_rfl) (by exact fun _ _ _ h => h) (Or.inl ⟨by rfl, fun W hW => by first | rfl | (try dsimp only at hW); go_simp⟩) hS rfl ?_
            simp only [Act.put, List.setIfInBounds_toArray, List.set_cons_zero, List.set_cons_succ]
            refine Last.take_ (i := 3) (N := some 19) (v := .bool true) #[true, true, true, true, false, false, false, false, false, false, false, false, false, false, false, false, false, false, false, false] (by simp only [List.getElem?_toArray, List.getElem?_cons_zero, List.getElem?_cons_succ]; rfl) rfl (by kernel_rfl) (by exact fun _ _ _ h => h) (Or.inl ⟨by rfl, fun W hW => by first | rfl | (try dsimp only at hW); go_simp⟩) hS rfl ?_
            simp only [Act.put, List.setIfInBounds_toArray, List.set_cons_zero, List.set_cons_succ]
            refine Last.take_ (i := 4) (N := some 20) (v := .int .i64 (a : Int)) #[true, true, true, true, true, false, false, false, false, false, false, false, false, false, false, false, false, false, false, false] (by simp only [List.getElem?_toArray, List.getElem?_cons_zero, List.getElem?_cons_succ]; rfl) rfl (by kernel_rfl) (by exact fun _ _ _ h => h) (Or.inl ⟨by rfl, fun W hW => by first | rfl | (try dsimp only at hW); go_simp⟩) hS rfl ?_
            simp only [Act.put, List.setIfInBounds_toArray, List.set_cons_zero, List.set_cons_succ]
            refine Last.take_ (i := 5) (N := some 21) (v := .bool false) #[true, true, true, true, true, true, false, false, false, false, false, false, false, false, false, false, false, false, false, false] (by simp only [List.getElem?_toArray, List.getElem?_cons_zero, List.getElem?_cons_succ]; rfl) rfl (by kernel_rfl) (by exact fun _ _ _ h => h) (Or.inl ⟨by rfl, fun W hW => by first | rfl | (try dsimp only at hW); go_simp⟩) hS rfl ?_
            simp only [Act.put, List.setIfInBounds_toArray, List.set_cons_zero, List.set_cons_succ]
            refine Last.take_ (i := 6) (N := some 22) (v := .bool false) #[true, true, true, true, true, true, true, false, false, false, false, false, false, false, false, false, false, false, false, false] (by simp only [List.getElem?_toArray, List.getElem?_cons_zero, List.getElem?_cons_succ]; rfl) rfl (by kernel_rfl) (by exact fun _ _ _ h => h) (Or.inl ⟨by rfl, fun W hW => by first | rfl | (try dsimp only at hW); go_simp⟩) hS rfl ?_
            simp only [Act.put, List.setIfInBounds_toArray, List.set_cons_zero, List.set_cons_succ]
            refine Last.take_ (i := 7) (N := some 23) (v := .pointer (some ⟨wr.heap.size, 2, none⟩)) #[true, true, true, true, true, true, true, true, false, false, false, false, false, false, false, false, false, false, false, false] (by simp only [List.getElem?_toArray, List.getElem?_cons_zero, List.getElem?_cons_succ]; rfl) rfl (by kernel_rfl) (by exact fun _ _ _ h => h) (Or.inl ⟨by rfl, fun W hW => by first | rfl | (try dsimp only at hW); go_simp⟩) hS rfl ?_
            simp only [Act.put, List.setIfInBounds_toArray, List.set_cons_zero, List.set_cons_succ]
            refine Last.take_ (i := 8) (N := some 24) (v := .int .i64 x.at_) #[true, true, true, true, true, true, true, true, true, false, false, false, false, false, false, false, false, false, false, false] (by simp only [List.getElem?_toArray, List.getElem?_cons_zero, List.getElem?_cons_succ]; rfl) rfl (by kernel_rfl) (by exact fun _ _ _ h => h) (Or.inl ⟨by rfl, fun W hW => by first | rfl | (try dsimp only at hW); go_simp⟩) hS rfl ?_
            simp only [Act.put, List.setIfInBounds_toArray, List.set_cons_zero, List.set_cons_succ]
            refine Last.take_ (i := 9) (N := some 25) (v := .pointer (some ⟨g, 0, none⟩)) #[true, true, true, true, true, true, true, true, true, true, false, false, false, false, false, false, false, false, false, false] (by simp only [List.getElem?_toArray, List.getElem?_cons_zero, List.getElem?_cons_succ]; rfl) rfl (by kernel_rfl) (by exact fun _ _ _ h => h) (Or.inl ⟨by rfl, fun W hW => by first | rfl | (try dsimp only at hW); go_simp⟩) hS rfl ?_
            simp only [Act.put, List.setIfInBounds_toArray, List.set_cons_zero, List.set_cons_succ]
            refine Last.take_ (i := 10) (N := some 26) (v := .pointer (some ⟨g, 0, none⟩)) #[true, true, true, true, true, true, true, true, true, true, true, false, false, false, false, false, false, false, false, false] (by simp only [List.getElem?_toArray, List.getElem?_cons_zero, List.getElem?_cons_succ]; rfl) rfl (by kernel_rfl) (by exact fun _ _ _ h => h) (Or.inl ⟨by rfl, fun W hW => by first | rfl | (try dsimp only at hW); go_simp⟩) hS rfl ?_
            simp only [Act.put, List.setIfInBounds_toArray, List.set_cons_zero, List.set_cons_succ]
            refine Last.take_ (i := 11) (N := some 27) (v := .pointer (some ⟨g, 1, none⟩)) #[true, true, true, true, true, true, true, true, true, true, true, true, false, false, false, false, false, false, false, false] (by simp only [List.getElem?_toArray, List.getElem?_cons_zero, List.getElem?_cons_succ]; rfl) rfl (by kernel_rfl) (by exact fun _ _ _ h => h) (Or.inl ⟨by rfl, fun W hW => by first | rfl | (try dsimp only at hW); go_simp⟩) hS rfl ?_
            simp only [Act.put, List.setIfInBounds_toArray, List.set_cons_zero, List.set_cons_succ]
            refine Last.take_ (i := 12) (N := some 28) (v := .slice (some ⟨ga, offa, none⟩) n2 c2) #[true, true, true, true, true, true, true, true, true, true, true, true, true, false, false, false, false, false, false, false] (by simp only [List.getElem?_toArray, List.getElem?_cons_zero, List.getElem?_cons_succ]; rfl) rfl (by kernel_rfl) (by exact fun _ _ _ h => h) (Or.inl ⟨by rfl, fun W hW => by first | rfl | (try dsimp only at hW); go_simp⟩) hS rfl ?_
            simp only [Act.put, List.setIfInBounds_toArray, List.set_cons_zero, List.set_cons_succ]
            refine Last.take_ (i := 13) (N := some 29) (v := .int .i64 (a : Int)) #[true, true, true, true, true, true, true, true, true, true, true, true, true, true, false, false, false, false, false, false] (by simp only [List.getElem?_toArray, List.getElem?_cons_zero, List.getElem?_cons_succ]; rfl) rfl (by kernel_rfl) (by exact fun _ _ _ h => h) (Or.inl ⟨by rfl, fun W hW => by first | rfl | (try dsimp only at hW); go_simp⟩) hS rfl ?_
            simp only [Act.put, List.setIfInBounds_toArray, List.set_cons_zero, List.set_cons_succ]
            refine Last.take_ (i := 14) (N := some 30) (v := .pointer (some ⟨ga, offa + a * 8, none⟩)) #[true, true, true, true, true, true, true, true, true, true, true, true, true, true, true, false, false, false, false, false] (by simp only [List.getElem?_toArray, List.getElem?_cons_zero, List.getElem?_cons_succ]; rfl) rfl (by kernel_rfl) (by exact fun _ _ _ h => h) (Or.inl ⟨by rfl, fun W hW => by first | rfl | (try dsimp only at hW); go_simp⟩) hS rfl ?_
            simp only [Act.put, List.setIfInBounds_toArray, List.set_cons_zero, List.set_cons_succ]
            refine Last.take_ (i := 15) (N := some 31) (v := .pointer (some ⟨ga, offa + a * 8 + 2, none⟩)) #[true, true, true, true, true, true, true, true, true, true, true, true, true, true, true, true, false, false, false, false] (by simp only [List.getElem?_toArray, List.getElem?_cons_zero, List.getElem?_cons_succ]; rfl) rfl (by kernel_rfl) (by exact fun _ _ _ h => h) (Or.inl ⟨by rfl, fun W hW => by first | rfl | (try dsimp only at hW); go_simp⟩) hS rfl ?_
            simp only [Act.put, List.setIfInBounds_toArray, List.set_cons_zero, List.set_cons_succ]
            refine Last.take_ (i := 16) (N := some 32) (v := .int .i64 y.at_) #[true, true, true, true, true, true, true, true, true, true, true, true, true, true, true, true, true, false, false, false] (by simp only [List.getElem?_toArray, List.getElem?_cons_zero, List.getElem?_cons_succ]; rfl) rfl (by kernel_rfl) (by exact fun _ _ _ h => h) (Or.inl ⟨by rfl, fun W hW => by first | rfl | (try dsimp only at hW); go_simp⟩) hS rfl ?_
            simp only [Act.put, List.setIfInBounds_toArray, List.set_cons_zero, List.set_cons_succ]
            refine Last.take_ (i := 17) (N := some 33) (v := .bool true) #[true, true, true, true, true, true, true, true, true, true, true, true, true, true, true, true, true, true, false, false] (by simp only [List.getElem?_toArray, List.getElem?_cons_zero, List.getElem?_cons_succ]; rfl) rfl (by kernel_rfl) (by exact fun _ _ _ h => h) (Or.inl ⟨by rfl, fun W hW => by first | rfl | (try dsimp only at hW); go_simp⟩) hS rfl ?_
            simp only [Act.put, List.setIfInBounds_toArray, List.set_cons_zero, List.set_cons_succ]
            refine Last.take_ (i := 18) (N := some 34) (v := .bool true) #[true, true, true, true, true, true, true, true, true, true, true, true, true, true, true, true, true, true, true, false] (by simp only [List.getElem?_toArray, List.getElem?_cons_zero, List.getElem?_cons_succ]; rfl) rfl (by kernel_rfl) (by exact fun _ _ _ h => h) (Or.inl ⟨by rfl, fun W hW => by first | rfl | (try dsimp only at hW); go_simp⟩) hS rfl ?_
            simp only [Act.put, List.setIfInBounds_toArray, List.set_cons_zero, List.set_cons_succ]
            refine Last.take_ (i := 19) (N := some 35) (v := .bool true) #[true, true, true, true, true, true, true, true, true, true, true, true, true, true, true, true, true, true, true, true] (by simp only [List.getElem?_toArray, List.getElem?_cons_zero, List.getElem?_cons_succ]; rfl) rfl (by kernel_rfl) (by exact fun _ _ _ h => h) (Or.inl ⟨by rfl, fun W hW => by first | rfl | (try dsimp only at hW); go_simp⟩) hS rfl ?_
            simp only [Act.put, List.setIfInBounds_toArray, List.set_cons_zero, List.set_cons_succ]
            refine Last.done_ (by kernel_rfl) ?_
            go_wp2_with fail
            go_roundw
            case rel =>
              refine ⟨j + 1, by rw [hl], by go_num, by omega, HE.out.trans0 ?_⟩
              repeat (first | exact Ext.refl _ _ | refine Ext.drew ?_ | refine Ext.alloc ?_ _ | refine Ext.setNew ?_ (Nat.le_refl _) _)
            case measure => simp [intOf]; omega
          · have hl := lastTo_keep HX.out hq ha (by rw [hat]; exact hc)
            clear hq hat
            simp only [idx]
            go_wp2_with fail
            have NB := blk_new wr (.cells #[.int .i64 x.id, .int .i64 x.fr, .int .i64 x.at_, .int .i64 x.q.op, .string x.q.key, .string x.q.val, .slice B bl bd, .bool false] 64)
            have x7 := blk_cell NB 7
            have x2 := blk_cell NB 2
            have x1 := ((Ext.refl Non wr).alloc (.cells #[.int .i64 x.id, .int .i64 x.fr, .int .i64 x.at_, .int .i64 x.q.op, .string x.q.key, .string x.q.val, .slice B bl bd, .bool false] 64)).cell bb' (fun e => e)
            have xa := ((Ext.refl Non wr).alloc (.cells #[.int .i64 x.id, .int .i64 x.fr, .int .i64 x.at_, .int .i64 x.q.op, .string x.q.key, .string x.q.val, .slice B bl bd, .bool false] 64)).cell d2 (fun e => e)
            refine Last.start_ (S := fun W => W.cell? ⟨wr.heap.size, 7, none⟩ = some (.bool false) ∧ W.cell? ⟨wr.heap.size, 2, none⟩ = some (.int .i64 x.at_) ∧ W.cell? ⟨g, 1, none⟩ = some (.slice (some ⟨ga, offa, none⟩) n2 c2) ∧ W.cell? ⟨ga, offa + a * 8 + 2, none⟩ = some (.int .i64 y.at_)) (ds := []) #[false, false, false, false, false, false, false, false, false, false, false, false, false, false, false, false, false, false, false, false] (by kernel_rfl) (by rfl) (by rfl) ⟨x7, x2, x1, xa⟩ (fun hS => ?_)
            refine Last.take_ (i := 0) (N := some 16) (v := .pointer (some ⟨wr.heap.size, 7, none⟩)) #[true, false, false, false, false, false, false, false, false, false, false, false, false, false, false, false, false, false, false, false] (by simp only [List.getElem?_toArray, List.getElem?_cons_zero]; rfl) rfl (by kernel_rfl) (by exact fun _ _ _ h => h) (Or.inl ⟨by rfl, fun W hW => by first | rfl | (try dsimp only at hW); go_simp⟩) hS rfl ?_
            simp only [Act.put, List.setIfInBounds_toArray, List.set_cons_zero, List.set_cons_succ]
            refine Last.take_ (i := 1) (N := some 17) (v := .bool false) #[true, true, false, false, false, false, false, false, false, false, false, false, false, false, false, false, false, false, false, false] (by simp only [List.getElem?_toArray, List.getElem?_cons_zero, List.getElem?_cons_succ]; rfl) rfl (by kernel_rfl) (by exact fun _ _ _ h => h) (Or.inl ⟨by rfl, fun W hW => by first | rfl | (try dsimp only at hW); go_simp⟩) hS rfl ?_
            simp only [Act.put, List.setIfInBounds_toArray, List.set_cons_zero, List.set_cons_succ]
            refine Last.take_ (i := 2) (N := some 18) (v := .bool true) #[true, true, true, false, false, false, false, false, false, false, false, false, false, false, false, false, false, false, false, false] (by simp only [List.getElem?_toArray, List.getElem?_cons_zero, List.getElem?_cons_succ]; rfl) rfl (by kernel_rfl) (by exact fun _ _ _ h => h) (Or.inl ⟨by rfl, fun W hW => by first | rfl | (try dsimp only at hW); go_simp⟩) hS rfl ?_
            simp only [Act.put, List.setIfInBounds_toArray, List.set_cons_zero, List.set_cons_succ]
            refine Last.take_ (i := 3) (N := some 19) (v := .bool true) #[true, true, true, true, false, false, false, false, false, false, false, false, false, false, false, false, false, false, false, false] (by simp only [List.getElem?_toArray, List.getElem?_cons_zero, List.getElem?_cons_succ]; rfl) rfl (by kernel_rfl) (by exact fun _ _ _ h => h) (Or.inl ⟨by rfl, fun W hW => by first | rfl | (try dsimp only at hW); go_simp⟩) hS rfl ?_
            simp only [Act.put, List.setIfInBounds_toArray, List.set_cons_zero, List.set_cons_succ]
            refine Last.take_ (i := 4) (N := some 20) (v := .int .i64 (a : Int)) #[true, true, true, true, true, false, false, false, false, false, false, false, false, false, false, false, false, false, false, false] (by simp only [List.getElem?_toArray, List.getElem?_cons_zero, List.getElem?_cons_succ]; rfl) rfl (by kernel_rfl) (by exact fun _ _ _ h => h) (Or.inl ⟨by rfl, fun W hW => by first | rfl | (try dsimp only at hW); go_simp⟩) hS rfl ?_
            simp only [Act.put, List.setIfInBounds_toArray, List.set_cons_zero, List.set_cons_succ]
            refine Last.take_ (i := 5) (N := some 21) (v := .bool false) #[true, true, true, true, true, true, false, false, false, false, false, false, false, false, false, false, false, false, false, false] (by simp only [List.getElem?_toArray, List.getElem?_cons_zero, List.getElem?_cons_succ]; rfl) rfl (by kernel_rfl) (by exact fun _ _ _ h => h) (Or.inl ⟨by rfl, fun W hW => by first | rfl | (try dsimp only at hW); go_simp⟩) hS rfl ?_
            simp only [Act.put, List.setIfInBounds_toArray, List.set_cons_zero, List.set_cons_succ]
            refine Last.take_ (i := 6) (N := some 22) (v := .bool false) #[true, true, true, true, true, true, true, false, false, false, false, false, false, false, false, false, false, false, false, false] (by simp only [List.getElem?_toArray, List.getElem?_cons_zero, List.getElem?_cons_succ]; rfl) rfl (by kernel_rfl) (by exact fun _ _ _ h => h) (Or.inl ⟨by rfl, fun W hW => by first | rfl | (try dsimp only at hW); go_simp⟩) hS rfl ?_
            simp only [Act.put, List.setIfInBounds_toArray, List.set_cons_zero, List.set_cons_succ]
            refine Last.take_ (i := 7) (N := some 23) (v := .pointer (some ⟨wr.heap.size, 2, none⟩)) #[true, true, true, true, true, true, true, true, false, false, false, false, false, false, false, false, false, false, false, false] (by simp only [List.getElem?_toArray, List.getElem?_cons_zero, List.getElem?_cons_succ]; rfl) rfl (by kernel_rfl) (by exact fun _ _ _ h => h) (Or.inl ⟨by rfl, fun W hW => by first | rfl | (try dsimp only at hW); go_simp⟩) hS rfl ?_
            simp only [Act.put, List.setIfInBounds_toArray, List.set_cons_zero, List.set_cons_succ]
            refine Last.take_ (i := 8) (N := some 24) (v := .int .i64 x.at_) #[true, true, true, true, true, true, true, true, true, false, false, false, false, false, false, false, false, false, false, false] (by simp only [List.getElem?_toArray, List.getElem?_cons_zero, List.getElem?_cons_succ]; rfl) rfl (by kernel_rfl) (by exact fun _ _ _ h => h) (Or.inl ⟨by rfl, fun W hW => by first | rfl | (try dsimp only at hW); go_simp⟩) hS rfl ?_
            simp only [Act.put, List.setIfInBounds_toArray, List.set_cons_zero, List.set_cons_succ]
            refine Last.take_ (i := 9) (N := some 25) (v := .pointer (some ⟨g, 0, none⟩)) #[true, true, true, true, true, true, true, true, true, true, false, false, false, false, false, false, false, false, false, false] (by simp only [List.getElem?_toArray, List.getElem?_cons_zero, List.getElem?_cons_succ]; rfl) rfl (by kernel_rfl) (by exact fun _ _ _ h => h) (Or.inl ⟨by rfl, fun W hW => by first | rfl | (try dsimp only at hW); go_simp⟩) hS rfl ?_
            simp only [Act.put, List.setIfInBounds_toArray, List.set_cons_zero, List.set_cons_succ]
            refine Last.take_ (i := 10) (N := some 26) (v := .pointer (some ⟨g, 0, none⟩)) #[true, true, true, true, true, true, true, true, true, true, true, false, false, false, false, false, false, false, false, false] (by simp only [List.getElem?_toArray, List.getElem?_cons_zero, List.getElem?_cons_succ]; rfl) rfl (by kernel_rfl) (by exact fun _ _ _ h => h) (Or.inl ⟨by rfl, fun W hW => by first | rfl | (try dsimp only at hW); go_simp⟩) hS rfl ?_
            simp only [Act.put, List.setIfInBounds_toArray, List.set_cons_zero, List.set_cons_succ]
            refine Last.take_ (i := 11) (N := some 27) (v := .pointer (some ⟨g, 1, none⟩)) #[true, true, true, true, true, true, true, true, true, true, true, true, false, false, false, false, false, false, false, false] (by simp only [List.getElem?_toArray, List.getElem?_cons_zero, List.getElem?_cons_succ]; rfl) rfl (by kernel_rfl) (by exact fun _ _ _ h => h) (Or.inl ⟨by rfl, fun W hW => by first | rfl | (try dsimp only at hW); go_simp⟩) hS rfl ?_
            simp only [Act.put, List.setIfInBounds_toArray, List.set_cons_zero, List.set_cons_succ]
            refine Last.take_ (i := 12) (N := some 28) (v := .slice (some ⟨ga, offa, none⟩) n2 c2) #[true, true, true, true, true, true, true, true, true, true, true, true, true, false, false, false, false, false, false, false] (by simp only [List.getElem?_toArray, List.getElem?_cons_zero, List.getElem?_cons_succ]; rfl) rfl (by kernel_rfl) (by exact fun _ _ _ h => h) (Or.inl ⟨by rfl, fun W hW => by first | rfl | (try dsimp only at hW); go_simp⟩) hS rfl ?_
            simp only [Act.put, List.setIfInBounds_toArray, List.set_cons_zero, List.set_cons_succ]
            refine Last.take_ (i := 13) (N := some 29) (v := .int .i64 (a : Int)) #[true, true, true, true, true, true, true, true, true, true, true, true, true, true, false, false, false, false, false, false] (by simp only [List.getElem?_toArray, List.getElem?_cons_zero, List.getElem?_cons_succ]; rfl) rfl (by kernel_rfl) (by exact fun _ _ _ h => h) (Or.inl ⟨by rfl, fun W hW => by first | rfl | (try dsimp only at hW); go_simp⟩) hS rfl ?_
            simp only [Act.put, List.setIfInBounds_toArray, List.set_cons_zero, List.set_cons_succ]
            refine Last.take_ (i := 14) (N := some 30) (v := .pointer (some ⟨ga, offa + a * 8, none⟩)) #[true, true, true, true, true, true, true, true, true, true, true, true, true, true, true, false, false, false, false, false] (by simp only [List.getElem?_toArray, List.getElem?_cons_zero, List.getElem?_cons_succ]; rfl) rfl (by kernel_rfl) (by exact fun _ _ _ h => h) (Or.inl ⟨by rfl, fun W hW => by first | rfl | (try dsimp only at hW); go_simp⟩) hS rfl ?_
            simp only [Act.put, List.setIfInBounds_toArray, List.set_cons_zero, List.set_cons_succ]
            refine Last.take_ (i := 15) (N := some 31) (v := .pointer (some ⟨ga, offa + a * 8 + 2, none⟩)) #[true, true, true, true, true, true, true, true, true, true, true, true, true, true, true, true, false, false, false, false] (by simp only [List.getElem?_toArray, List.getElem?_cons_zero, List.getElem?_cons_succ]; rfl) rfl (by kernel_rfl) (by exact fun _ _ _ h => h) (Or.inl ⟨by rfl, fun W hW => by first | rfl | (try dsimp only at hW); go_simp⟩) hS rfl ?_
            simp only [Act.put, List.setIfInBounds_toArray, List.set_cons_zero, List.set_cons_succ]
            refine Last.take_ (i := 16) (N := some 32) (v := .int .i64 y.at_) #[true, true, true, true, true, true, true, true, true, true, true, true, true, true, true, true, true, false, false, false] (by simp only [List.getElem?_toArray, List.getElem?_cons_zero, List.getElem?_cons_succ]; rfl) rfl (by kernel_rfl) (by exact fun _ _ _ h => h) (Or.inl ⟨by rfl, fun W hW => by first | rfl | (try dsimp only at hW); go_simp⟩) hS rfl ?_
            simp only [Act.put, List.setIfInBounds_toArray, List.set_cons_zero, List.set_cons_succ]
            refine Last.take_ (i := 17) (N := some 33) (v := .bool false) #[true, true, true, true, true, true, true, true, true, true, true, true, true, true, true, true, true, true, false, false] (by simp only [List.getElem?_toArray, List.getElem?_cons_zero, List.getElem?_cons_succ]; rfl) rfl (by kernel_rfl) (by exact fun _ _ _ h => h) (Or.inl ⟨by rfl, fun W hW => by first | rfl | (try dsimp only at hW); go_simp⟩) hS rfl ?_
            simp only [Act.put, List.setIfInBounds_toArray, List.set_cons_zero, List.set_cons_succ]
            refine Last.take_ (i := 18) (N := some 34) (v := .bool false) #[true, true, true, true, true, true, true, true, true, true, true, true, true, true, true, true, true, true, true, false] (by simp only [List.getElem?_toArray, List.getElem?_cons_zero, List.getElem?_cons_succ]; rfl) rfl (by kernel_rfl) (by exact fun _ _ _ h => h) (Or.inl ⟨by rfl, fun W hW => by first | rfl | (try dsimp only at hW); go_simp⟩) hS rfl ?_
            simp only [Act.put, List.setIfInBounds_toArray, List.set_cons_zero, List.set_cons_succ]
            refine Last.take_ (i := 19) (N := some 35) (v := .bool false) #[true, true, true, true, true, true, true, true, true, true, true, true, true, true, true, true, true, true, true, true] (by simp only [List.getElem?_toArray, List.getElem?_cons_zero, List.getElem?_cons_succ]; rfl) rfl (by kernel_rfl) (by exact fun _ _ _ h => h) (Or.inl ⟨by rfl, fun W hW => by first | rfl | (try dsimp only at hW); go_simp⟩) hS rfl ?_
            simp only [Act.put, List.setIfInBounds_toArray, List.set_cons_zero, List.set_cons_succ]
            refine Last.done_ (by kernel_rfl) ?_
            go_wp2_with fail
            go_roundw
            case rel =>
              refine ⟨j + 1, by rw [hl], by go_num, by omega, HE.out.trans0 ?_⟩
              repeat (first | exact Ext.refl _ _ | refine Ext.drew ?_ | refine Ext.alloc ?_ _ | refine Ext.setNew ?_ (Nat.le_refl _) _)
            case measure => simp [intOf]; omega
    · obtain rfl : j = n2 := by omega
      go_wp2_with fail
      go_ret
      refine ⟨?_, HE.out⟩
      show Ending.returned (.int .i64 (idx (lastTo l j))) = _
      rw [lastS, ← HN.out]
end Go.Proofs.Ytdjfijdnhfmeeaa
