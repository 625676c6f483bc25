/- sess.Get. -/
import Derived.Test.YtiebnjkjgobklaaG0
import Derived.Test.YtiebnjkjgobklaaL
import Derived.Deep.Cut
namespace Go.Proofs.Ytiebnjkjgobklaa
open Go.RowKit Go.TM

theorem Within_to {w : World} {ok : Nat → Prop} {g : Nat} {bs : List UInt8} {a : Nat} {err : Int} (hR : RdrAt w ok g bs a err) (hg : ¬ ok g) (ha : a ≤ bs.length) (lo hi : Int) {x : Int × Nat × Int} (hx : rWithin bs a err lo hi = x) :
    Calls Try.prog 41 #[.pointer (some ⟨g, 0, none⟩), .int .i64 lo, .int .i64 hi] w (RPost ok g bs w (.int .i64 x.1) x.2) := by
  subst hx
  exact RWithin_calls hR hg ha lo hi
theorem RdrAt.far {w w' : World} {ok M : Nat → Prop} {g : Nat} {bs : List UInt8} {a : Nat} {err : Int} (h : RdrAt w ok g bs a err) (he : Ext M w w') (hg : ¬ M g) (hm : ∀ k, ok k → k < w.heap.size → ¬ M k) : RdrAt w' ok g bs a err := by
  obtain ⟨v, hb, hr⟩ := h
  exact ⟨v, he.obj hb hg, hr.ext he hm⟩

def GetPost (bs : List UInt8) (ok : Nat → Prop) (g : Nat) (w : World) (e : Ending) (w' : World) : Prop :=
  (pOk bs = false ∧ e = .returned (.tuple #[.pointer none, .bool false]) ∨ pOk bs = true ∧ ∃ q, e = .returned (.tuple #[.pointer (some ⟨q, 0, none⟩), .bool true]) ∧ w.heap.size ≤ q ∧ q < w'.heap.size ∧ TabAt w' (fun k => q < k) q (pTab bs)) ∧ RdrAt w' ok g bs (pEnd bs).at' (pEnd bs).err ∧ Ext (Only g) w w'

set_option maxHeartbeats 8000000 in
set_option maxRecDepth 100000 in
theorem Get_calls {w : World} {ok : Nat → Prop} {g : Nat} {bs : List UInt8} (hR : RdrAt w ok g bs 0 0) (hg : ¬ ok g) (hok : ∀ k, ok k → k < w.heap.size) (hgl : g < w.heap.size) : Calls Try.prog 30 #[.pointer (some ⟨g, 0, none⟩)] w (GetPost bs ok g w) := by
  have HR := Lib.hid hR
  have HOK := Lib.hid hok
  have HD := Lib.hid (hd_le bs)
  clear hR hok
  go_enter Try.func30, Try.ntmps30
  go_wp2_with fail
  refine (Within_to HR.out hg (Nat.zero_le _) 0 1099511627776 (x := hd1 bs) rfl).mono ?_
  rintro e w1 ⟨rfl, h1, h2⟩
  have R1 := Lib.hid h1
  have E1 := Lib.hid h2
  clear h1 h2
  obtain ⟨q, hq⟩ : ∃ q, q = w1.heap.size := ⟨_, rfl⟩
  have hwq : w.heap.size ≤ q := by rw [hq]; exact E1.out.size
  obtain ⟨w2, hw2⟩ : ∃ w2, w1.alloc (.cells #[.slice none 0 0, .int .i64 (hd1 bs).1, .bool true] 54) = w2 := ⟨_, rfl⟩
  have hb2 : w2.heap[q]? = some (.cells #[.slice none 0 0, .int .i64 (hd1 bs).1, .bool true] 54 (0, 0)) := by rw [← hw2, hq]; exact heap_alloc_new _ _
  have he2 : Ext Non w1 w2 := by rw [← hw2]; exact (Ext.refl Non w1).alloc _
  have R2 := Lib.hid (R1.out.ext he2)
  have E2 : Hid (Ext (Only g) w w2) := E1.out.trans he2 (fun _ _ e => e.elim)
  have B2 := Lib.hid hb2
  have HW2 := Lib.hid hw2
  have HQ := Lib.hid hq
  clear he2 hb2 hw2 hq
  go_wp2_with fail
  rw [← HQ.out, HW2.out]
  go_wp2_with fail
  refine (Within_to R2.out hg HD.out.1 0 8 (x := hd2 bs) rfl).mono ?_
  rintro e w3 ⟨rfl, h1, h2⟩
  have R3 := Lib.hid h1
  have E3 : Hid (Ext (Only g) w w3) := E2.out.trans h2 (fun _ _ e => e)
  have B3 := Lib.hid (h2.obj B2.out (fun e => by have e1 : q = g := e; omega))
  clear h1 h2
  go_wp2_with fail
  go_loopw [5, 13] (fun b i wr => ∃ (j : Nat) (v : Value), i = .int .i64 j ∧ b = .int .i64 (pAt bs j).bef ∧ (j : Int) ≤ (hd2 bs).1 ∧ Hid (RdrAt wr ok g bs (pAt bs j).at' (pAt bs j).err) ∧ Hid (wr.heap[q]? = some (.cells #[v, .int .i64 (hd1 bs).1, .bool true] 54 (0, 0))) ∧ Hid (Own seatK 47 wr (q + 1) (fun k => q < k) v (pAt bs j).seats) ∧ Hid (Ext (Only g) w wr)) (fun _ i _ => many bs - (intOf i).toNat)
  case atStart => exact ⟨0, _, rfl, rfl, HD.out.2.2.2.2.1, R3.out, B3.out, Own.nil _ _ _ _ _, E3.out⟩
  case round =>
    obtain ⟨j, v, rfl, rfl, hj, RJ, BJ, OJ, EJ⟩ := hrel
    have hpj := pAt_le bs j
    have hh := HD.out
    unfold big at hpj hh
    obtain ⟨B, hB⟩ : ∃ B, B = (pAt bs j).bef := ⟨_, rfl⟩
    obtain ⟨L, hL⟩ : ∃ L, L = (hd1 bs).1 := ⟨_, rfl⟩
    have hB0 : 0 ≤ B := by omega
    have hL0 : 0 ≤ L := by omega
    have hL1 : L ≤ 1099511627776 := by omega
    have hBB := Lib.hid hB
    have hLL := Lib.hid hL
    have c1 := blk_cell BJ.out 1
    simp at c1
    have c0 := blk_cell BJ.out 0
    simp at c0
    rw [← hL] at c1
    by_cases hlt : (j : Int) < (hd2 bs).1
    · have hB1 : B ≤ 1099511627784 := by omega
      have hPN : rWithin bs (pAt bs j).at' (pAt bs j).err (B + 1) (max L (B + 1)) = pNum bs (hd1 bs).1 (pAt bs j) := by rw [hB, hL]; rfl
      have PA := Lib.hid hpj.1
      have HPN := Lib.hid hPN
      have hd8 := hh.2.2.2.2.2
      rw [← hB]
      clear hB hL hpj hh hPN
      rcases Int.lt_or_le L (B + 1) with hm | hm
      case' inl => have hx : rWithin bs (pAt bs j).at' (pAt bs j).err (B + 1) (B + 1) = pNum bs (hd1 bs).1 (pAt bs j) := by rw [← HPN.out, Int.max_eq_right (by omega)]
      case' inr => have hx : rWithin bs (pAt bs j).at' (pAt bs j).err (B + 1) L = pNum bs (hd1 bs).1 (pAt bs j) := by rw [← HPN.out, Int.max_eq_left (by omega)]
      all_goals
        have HX1 := Lib.hid hx
        clear hx HPN
        go_wp2_with fail
        refine (Within_to RJ.out hg PA.out _ _ HX1.out).mono ?_
        obtain ⟨X, hX⟩ : ∃ X, X = pNum bs (hd1 bs).1 (pAt bs j) := ⟨_, rfl⟩
        rw [← hX]
        have HXX := Lib.hid hX
        have PX : Hid (X.2.1 ≤ bs.length) := by rw [hX, ← HX1.out]; exact (rWithin_le PA.out).1
        clear hX HX1
        rintro e w4 ⟨rfl, h1, h2⟩
        have R4 := Lib.hid h1
        have E4 := Lib.hid (EJ.out.trans h2 (fun _ _ e => e))
        have F4 := Lib.hid h2
        clear h1 h2
        go_wp2_with fail
        refine (Within_to R4.out hg PX.out 0 1099511627776 (x := rest2 bs X) rfl).mono ?_
        rintro e w5 ⟨rfl, h1, h2⟩
        have R5 := Lib.hid h1
        have E5 := Lib.hid (E4.out.trans h2 (fun _ _ e => e))
        have F5 := Lib.hid (F4.out.trans h2 (fun _ _ e => e))
        clear h1 h2
        obtain ⟨sb, hsb⟩ : ∃ sb, sb = w5.heap.size := ⟨_, rfl⟩
        obtain ⟨w6, hw6⟩ : ∃ w6, w5.alloc (.cells #[.int .i64 X.1, .int .i64 (rest2 bs X).1, .int .i64 0, .int .i64 0] 47) = w6 := ⟨_, rfl⟩
        have hb6 : w6.heap[sb]? = some (.cells #[.int .i64 X.1, .int .i64 (rest2 bs X).1, .int .i64 0, .int .i64 0] 47 (0, 0)) := by rw [← hw6, hsb]; exact heap_alloc_new _ _
        have he6 : Ext Non w5 w6 := by rw [← hw6]; exact (Ext.refl Non w5).alloc _
        have R6 := Lib.hid (R5.out.ext he6)
        have E6 := Lib.hid (E5.out.trans he6 (fun _ _ e => e.elim))
        have F6 := Lib.hid (F5.out.trans he6 (fun _ _ e => e.elim))
        have B6 := Lib.hid hb6
        have HW6 := Lib.hid hw6
        have HSB := Lib.hid hsb
        clear hw6 hb6 he6 hsb
        go_wp2_with fail
        rw [← HSB.out, HW6.out]
        go_wp2_with fail
        refine (Within_to R6.out hg (rest_le PX.out).1 0 1000 (x := rest3 bs X) rfl).mono ?_
        rintro e w7 ⟨rfl, h1, h2⟩
        have hgs : sb ≠ g := by have := E5.out.size; have := HSB.out; omega
        have R7 := Lib.hid h1
        have E7 := Lib.hid (E6.out.trans h2 (fun _ _ e => e))
        have F7 := Lib.hid (F6.out.trans h2 (fun _ _ e => e))
        have B7 := Lib.hid (h2.obj B6.out (fun e => hgs e))
        clear h1 h2
        go_wp2_with fail
        refine (Within_to R7.out hg (rest_le PX.out).2.1 0 1099511627776 (x := rest4 bs X) rfl).mono ?_
        rintro e w8 ⟨rfl, h1, h2⟩
        have R8 := Lib.hid h1
        have E8 := Lib.hid (E7.out.trans h2 (fun _ _ e => e))
        have F8 := Lib.hid (F7.out.trans h2 (fun _ _ e => e))
        have hb8 := h2.obj B7.out (fun e => hgs e)
        have y2 := blk_frozen hb8 2
        have y3 := blk_frozen hb8 3
        have f2 := blk_cell hb8 2
        have f3 := blk_cell hb8 3
        simp at f2 f3
        have hls := blk_lt hb8
        have B8 := Lib.hid hb8
        clear h1 h2 hb8
        obtain ⟨w9, hw9⟩ : ∃ w9, (w8.setCell ⟨sb, 2, none⟩ (.int .i64 (rest3 bs X).1)).setCell ⟨sb, 3, none⟩ (.int .i64 (rest4 bs X).1) = w9 := ⟨_, rfl⟩
        have eS : Ext (Only sb) w8 w9 := by rw [← hw9]; exact ((Ext.refl (Only sb) w8).setCell (p := ⟨sb, 2, none⟩) (fun _ => rfl) _).setCell (p := ⟨sb, 3, none⟩) (fun _ => rfl) _
        have hb9 : w9.heap[sb]? = some (.cells #[.int .i64 X.1, .int .i64 (rest2 bs X).1, .int .i64 (rest3 bs X).1, .int .i64 (rest4 bs X).1] 47 (0, 0)) := by rw [← hw9]; simpa using blk_set (blk_set B8.out 2 (.int .i64 (rest3 bs X).1)) 3 (.int .i64 (rest4 bs X).1)
        have R9 := Lib.hid (R8.out.far eS (fun e => hgs e.symm) (fun k hk _ e => by have e1 : k = sb := e; have := HOK.out k hk; have := E5.out.size; have := HSB.out; omega))
        have E9 := Lib.hid (E8.out.trans eS (fun i hi e => by have e1 : i = sb := e; have := E5.out.size; have := HSB.out; omega))
        have F9 := Lib.hid (F8.out.trans (M := Only g) eS (fun i hi e => by have e1 : i = sb := e; have := F5.out.size; have := HSB.out; omega))
        have BJ9 := Lib.hid (F9.out.obj BJ.out (fun e => by have e1 : q = g := e; omega))
        have OJ9 := Lib.hid (OJ.out.ext F9.out (fun k hk _ e => by have e1 : k = g := e; omega))
        have d0 := blk_cell BJ9.out 0
        have d1 := blk_cell BJ9.out 1
        have z0 := blk_frozen BJ9.out 0
        have hlq := blk_lt BJ9.out
        have s0 := blk_cell hb9 0
        have s1 := blk_cell hb9 1
        have s2 := blk_cell hb9 2
        have s3 := blk_cell hb9 3
        have hls9 := blk_lt hb9
        simp at d0 d1 s0 s1 s2 s3
        have B9 := Lib.hid hb9
        have HW9 := Lib.hid hw9
        obtain ⟨Av, cv, rfl, hcv, hmv⟩ := OJ9.out.slice
        have HBL : Hid (∀ k, (Value.slice Av (pAt bs j).seats.length cv).ownBlock = some k → q + 1 ≤ k ∧ k < sb) := fun k hk => ⟨(OJ.out.base_le k hk).1, by have := (OJ.out.base_le k hk).2; have := F5.out.size; have := HSB.out; omega⟩
        have HP : Hid (pAt bs (j + 1) = ⟨(pAt bs j).seats ++ [seatOf bs X], X.1, true, (rest4 bs X).2.1, (rest4 bs X).2.2⟩) := by rw [HXX.out]; rfl
        have HSL : Hid ((pAt bs j).seats.length = j) := (pAt_le bs j).2.2.2
        have hsq : q < sb := by have := F5.out.size; have := HSB.out; have := blk_lt BJ.out; omega
        have hz9 : sb < w9.heap.size := hls9
        clear hw9 eS hb9 R8 E8 F8 B8 R7 E7 F7 B7 R6 E6 F6 B6 R5 E5 F5 R4 E4 F4 BJ OJ c0 c1
        go_upto_region 7 with fail
        rw [HW9.out]
        refine Last.start_ (S := fun W => W.cell? ⟨sb, 0, none⟩ = some (.int .i64 X.1) ∧ W.cell? ⟨sb, 1, none⟩ = some (.int .i64 (rest2 bs X).1) ∧ W.cell? ⟨sb, 2, none⟩ = some (.int .i64 (rest3 bs X).1) ∧ W.cell? ⟨sb, 3, none⟩ = some (.int .i64 (rest4 bs X).1)) (ds := []) #[false, false, false, false, false, false, false, false, false, false, false, false, false, false] (by kernel_rfl) (by rfl) (by rfl) ⟨s0, s1, s2, s3⟩ (fun hS => ?_)
        refine Last.take_ (i := 0) (N := some 35) (v := .pointer (some ⟨q, 0, none⟩)) #[true, false, false, false, false, false, false, false, false, false, false, false, false, false] (by simp only [List.getElem?_toArray, List.getElem?_cons_zero]; rfl) rfl (by kernel_rfl) (by exact fun _ _ _ h => h) (Or.inl ⟨by rfl, fun W hW => by first | rfl | (try dsimp only at hW); go_simp⟩) hS rfl ?_
        simp only [Act.put, List.setIfInBounds_toArray, List.set_cons_zero, List.set_cons_succ]
        refine Last.take_ (i := 1) (N := some 36) (v := .pointer (some ⟨q, 0, none⟩)) #[true, true, false, false, false, false, false, false, false, false, false, false, false, false] (by simp only [List.getElem?_toArray, List.getElem?_cons_zero, List.getElem?_cons_succ]; rfl) rfl (by kernel_rfl) (by exact fun _ _ _ h => h) (Or.inl ⟨by rfl, fun W hW => by first | rfl | (try dsimp only at hW); go_simp⟩) hS rfl ?_
        simp only [Act.put, List.setIfInBounds_toArray, List.set_cons_zero, List.set_cons_succ]
        refine Last.take_ (i := 2) (N := some 37) (v := .pointer (some ⟨q, 0, none⟩)) #[true, true, true, false, false, false, false, false, false, false, false, false, false, false] (by simp only [List.getElem?_toArray, List.getElem?_cons_zero, List.getElem?_cons_succ]; rfl) rfl (by kernel_rfl) (by exact fun _ _ _ h => h) (Or.inl ⟨by rfl, fun W hW => by first | rfl | (try dsimp only at hW); go_simp⟩) hS rfl ?_
        simp only [Act.put, List.setIfInBounds_toArray, List.set_cons_zero, List.set_cons_succ]
        refine Last.take_ (i := 3) (N := some 38) (v := .pointer (some ⟨q, 0, none⟩)) #[true, true, true, true, false, false, false, false, false, false, false, false, false, false] (by simp only [List.getElem?_toArray, List.getElem?_cons_zero, List.getElem?_cons_succ]; rfl) rfl (by kernel_rfl) (by exact fun _ _ _ h => h) (Or.inl ⟨by rfl, fun W hW => by first | rfl | (try dsimp only at hW); go_simp⟩) hS rfl ?_
        simp only [Act.put, List.setIfInBounds_toArray, List.set_cons_zero, List.set_cons_succ]
        refine Last.take_ (i := 5) (N := some 40) (v := .agg #[.int .i64 X.1, .int .i64 (rest2 bs X).1, .int .i64 (rest3 bs X).1, .int .i64 (rest4 bs X).1]) #[true, true, true, true, false, true, false, false, false, false, false, false, false, false] (by simp only [List.getElem?_toArray, List.getElem?_cons_zero, List.getElem?_cons_succ]; rfl) rfl (by kernel_rfl) (by exact fun _ _ _ h => h) (Or.inl ⟨by rfl, fun W hW => by first | rfl | (try dsimp only at hW); go_simp⟩) hS rfl ?_
        simp only [Act.put, List.setIfInBounds_toArray, List.set_cons_zero, List.set_cons_succ]
        refine Last.take_ (i := 8) (N := some 43) (v := .pointer (some ⟨sb, 0, none⟩)) #[true, true, true, true, false, true, false, false, true, false, false, false, false, false] (by simp only [List.getElem?_toArray, List.getElem?_cons_zero, List.getElem?_cons_succ]; rfl) rfl (by kernel_rfl) (by exact fun _ _ _ h => h) (Or.inl ⟨by rfl, fun W hW => by first | rfl | (try dsimp only at hW); go_simp⟩) hS rfl ?_
        simp only [Act.put, List.setIfInBounds_toArray, List.set_cons_zero, List.set_cons_succ]
        refine Last.take_ (i := 9) (N := some 44) (v := .int .i64 X.1) #[true, true, true, true, false, true, false, false, true, true, false, false, false, false] (by simp only [List.getElem?_toArray, List.getElem?_cons_zero, List.getElem?_cons_succ]; rfl) rfl (by kernel_rfl) (by exact fun _ _ _ h => h) (Or.inl ⟨by rfl, fun W hW => by first | rfl | (try dsimp only at hW); go_simp⟩) hS rfl ?_
        simp only [Act.put, List.setIfInBounds_toArray, List.set_cons_zero, List.set_cons_succ]
        have d0' : w9.drew.cell? ⟨q, 0, none⟩ = some (.slice Av (pAt bs j).seats.length cv) := d0
        refine Last.two_ (i := 4) (j := 6) (Ni := some 39) (Nj := some 41) #[true, true, true, true, true, true, false, false, true, true, false, false, false, false] #[true, true, true, true, false, true, true, false, true, true, false, false, false, false] (by simp only [List.getElem?_toArray, List.getElem?_cons_zero, List.getElem?_cons_succ]; rfl) (by simp only [List.getElem?_toArray, List.getElem?_cons_zero, List.getElem?_cons_succ]; rfl) rfl rfl (by kernel_rfl) (by decide) (by decide) (fun K hK => ?_) (fun K hK => ?_)
        · go_simp
          refine hK.out _ _ ⟨by go_simp, by go_simp, by go_simp, by go_simp⟩ (fun hS => ?_)
          try simp only [Act.put, List.setIfInBounds_toArray, List.set_cons_zero, List.set_cons_succ]
          refine Last.one_ (i := 6) (N := some 41) #[true, true, true, true, true, true, true, false, true, true, false, false, false, false] (by simp only [List.getElem?_toArray, List.getElem?_cons_zero, List.getElem?_cons_succ]; rfl) rfl (by kernel_rfl) (by decide) (fun K hK => ?_)
          go_simp
          refine hK.out _ _ ⟨by go_simp, by go_simp, by go_simp, by go_simp⟩ (fun hS => ?_)
          try simp only [Act.put, List.setIfInBounds_toArray, List.set_cons_zero, List.set_cons_succ]
          refine Last.one_ (i := 7) (N := some 42) #[true, true, true, true, true, true, true, true, true, true, false, false, false, false] (by simp only [List.getElem?_toArray, List.getElem?_cons_zero, List.getElem?_cons_succ]; rfl) rfl (by kernel_rfl) (by decide) (fun K hK => ?_)
          refine step_app seatK (ok := fun k => q < k) (v := .slice Av (pAt bs j).seats.length cv) (vx := .slice (some ⟨w9.heap.size, 0, none⟩) 1 1) (xs := (pAt bs j).seats) (ys := [seatOf bs X]) (q + 1) (by rfl) _ _ 38 47 _ 32 (by rfl) Try.underlying38 info47 rfl (by decide) (by simp [Act.eval]) (by simp [Act.eval]) (OJ9.out.ext0 (by repeat (first | exact Ext.refl _ _ | refine Ext.alloc ?_ _ | refine Ext.drew ?_))) ?_ ?_ ?_ ?_ ?_ ?_
          · refine Rd.lit_at (cs := Seat.cells (seatOf bs X)) (e := 47) (fr := (0, 0)) (heap_alloc_new w9.drew _) rfl ⟨?_, ?_⟩
            · show q < w9.heap.size
              omega
            · intro h
              have := (HBL.out _ h.symm).2
              have h3 : w9.drew.heap.size = w9.heap.size := rfl
              omega
          · intro k hk
            simp at hk
            omega
          · simp; (try have hsl := HSL.out); omega
          · simp; (try have hsl := HSL.out); omega
          · simp; (try have hsl := HSL.out); omega
          intro v' wA hown hext hblk
          obtain ⟨A2, n2, c2, rfl⟩ : ∃ A n c, v' = .slice A n c := by obtain ⟨A2, c2, h2, _, _⟩ := hown.slice; exact ⟨_, _, _, h2⟩
          have EA : Hid (Ext (fun k => some k = (Value.slice Av (pAt bs j).seats.length cv).ownBlock) w9 wA) := Ext.trans (by repeat (first | exact Ext.refl _ _ | refine Ext.alloc ?_ _ | refine Ext.drew ?_)) hext (fun _ _ e => e)
          have OA : Hid (Own seatK 47 wA (q + 1) (fun k => q < k) (.slice A2 n2 c2) ((pAt bs j).seats ++ [seatOf bs X])) := hown
          have BA := Lib.hid (EA.out.obj BJ9.out (fun e => by have := (HBL.out _ e.symm).1; omega))
          have s0 := EA.out.cell s0 (fun e => Nat.lt_irrefl _ (HBL.out _ e.symm).2)
          have s1 := EA.out.cell s1 (fun e => Nat.lt_irrefl _ (HBL.out _ e.symm).2)
          have s2 := EA.out.cell s2 (fun e => Nat.lt_irrefl _ (HBL.out _ e.symm).2)
          have s3 := EA.out.cell s3 (fun e => Nat.lt_irrefl _ (HBL.out _ e.symm).2)
          have d0 := blk_cell BA.out 0
          have z0 := blk_frozen BA.out 0
          have hlqA := blk_lt BA.out
          simp at d0
          clear hown hext hblk
          refine hK.out _ _ ⟨s0, s1, s2, s3⟩ (fun hS => ?_)
          try simp only [Act.put, List.setIfInBounds_toArray, List.set_cons_zero, List.set_cons_succ]
          refine Last.take_ (i := 10) (N := some 45) (v := .pointer (some ⟨q, 0, none⟩)) #[true, true, true, true, true, true, true, true, true, true, true, false, false, false] (by simp only [List.getElem?_toArray, List.getElem?_cons_zero, List.getElem?_cons_succ]; rfl) rfl (by kernel_rfl) (by exact fun _ _ _ h => h) (Or.inl ⟨by rfl, fun W hW => by first | rfl | (try dsimp only at hW); go_simp⟩) hS rfl ?_
          simp only [Act.put, List.setIfInBounds_toArray, List.set_cons_zero, List.set_cons_succ]
          refine Last.take_ (i := 11) (N := some 46) (v := .pointer (some ⟨q, 0, none⟩)) #[true, true, true, true, true, true, true, true, true, true, true, true, false, false] (by simp only [List.getElem?_toArray, List.getElem?_cons_zero, List.getElem?_cons_succ]; rfl) rfl (by kernel_rfl) (by exact fun _ _ _ h => h) (Or.inl ⟨by rfl, fun W hW => by first | rfl | (try dsimp only at hW); go_simp⟩) hS rfl ?_
          simp only [Act.put, List.setIfInBounds_toArray, List.set_cons_zero, List.set_cons_succ]
          refine Last.one_ (i := 12) (N := none) #[true, true, true, true, true, true, true, true, true, true, true, true, true, false] (by simp only [List.getElem?_toArray, List.getElem?_cons_zero, List.getElem?_cons_succ]; rfl) rfl (by kernel_rfl) (by decide) (fun K hK => ?_)
          obtain ⟨wB, hwB⟩ : ∃ wB, wA.setCell ⟨q, 0, none⟩ (.slice A2 n2 c2) = wB := ⟨_, rfl⟩
          have eB : Ext (Only q) wA wB := by rw [← hwB]; exact (Ext.refl (Only q) wA).setCell (p := ⟨q, 0, none⟩) (fun _ => rfl) _
          have bB : wB.heap[q]? = some (.cells #[.slice A2 n2 c2, .int .i64 (hd1 bs).1, .bool true] 54 (0, 0)) := by rw [← hwB]; simpa using blk_set BA.out 0 (.slice A2 n2 c2)
          have hqs : sb ≠ q := by omega
          have s0 := eB.cell s0 (fun e => hqs e)
          have s1 := eB.cell s1 (fun e => hqs e)
          have s2 := eB.cell s2 (fun e => hqs e)
          have s3 := eB.cell s3 (fun e => hqs e)
          have HWB := Lib.hid hwB
          have RB := Lib.hid ((R9.out.far EA.out (fun e => by have := (HBL.out _ e.symm).1; omega) (fun k hk _ e => by have := (HBL.out _ e.symm).1; have := HOK.out k hk; omega)).far eB (fun e => by have e1 : g = q := e; omega) (fun k hk _ e => by have e1 : k = q := e; have := HOK.out k hk; omega))
          have EB := Lib.hid ((E9.out.trans EA.out (fun i hi e => by have := (HBL.out _ e.symm).1; omega)).trans eB (fun i hi e => by have e1 : i = q := e; omega))
          have OB := Lib.hid (OA.out.ext eB (fun k hk _ e => by have e1 : k = q := e; omega))
          have BB := Lib.hid bB
          clear hwB eB bB d1 BA
          go_simp
          rw [HWB.out]
          refine hK.out _ _ ⟨s0, s1, s2, s3⟩ (fun hS => ?_)
          try simp only [Act.put, List.setIfInBounds_toArray, List.set_cons_zero, List.set_cons_succ]
          refine Last.take_ (i := 13) (N := some 5) (v := .int .i64 X.1) #[true, true, true, true, true, true, true, true, true, true, true, true, true, true] (by simp only [List.getElem?_toArray, List.getElem?_cons_zero, List.getElem?_cons_succ]; rfl) rfl (by kernel_rfl) (by exact fun _ _ _ h => h) (Or.inl ⟨by rfl, fun W hW => by first | rfl | (try dsimp only at hW); go_simp⟩) hS rfl ?_
          simp only [Act.put, List.setIfInBounds_toArray, List.set_cons_zero, List.set_cons_succ]
          refine Last.done_ (by kernel_rfl) ?_
          go_wp2_with fail
          go_roundw
          case rel => exact ⟨j + 1, .slice A2 n2 c2, by go_num, by rw [HP.out], by omega, by rw [HP.out]; exact RB.out, BB.out, by rw [HP.out]; exact OB.out, EB.out⟩
          case measure => simp [intOf, many]; omega
        · go_simp
          refine hK.out _ _ ⟨by go_simp, by go_simp, by go_simp, by go_simp⟩ (fun hS => ?_)
          try simp only [Act.put, List.setIfInBounds_toArray, List.set_cons_zero, List.set_cons_succ]
          refine Last.one_ (i := 4) (N := some 39) #[true, true, true, true, true, true, true, false, true, true, false, false, false, false] (by simp only [List.getElem?_toArray, List.getElem?_cons_zero, List.getElem?_cons_succ]; rfl) rfl (by kernel_rfl) (by decide) (fun K hK => ?_)
          go_simp
          refine hK.out _ _ ⟨by go_simp, by go_simp, by go_simp, by go_simp⟩ (fun hS => ?_)
          try simp only [Act.put, List.setIfInBounds_toArray, List.set_cons_zero, List.set_cons_succ]
          refine Last.one_ (i := 7) (N := some 42) #[true, true, true, true, true, true, true, true, true, true, false, false, false, false] (by simp only [List.getElem?_toArray, List.getElem?_cons_zero, List.getElem?_cons_succ]; rfl) rfl (by kernel_rfl) (by decide) (fun K hK => ?_)
          refine step_app seatK (ok := fun k => q < k) (v := .slice Av (pAt bs j).seats.length cv) (vx := .slice (some ⟨w9.heap.size, 0, none⟩) 1 1) (xs := (pAt bs j).seats) (ys := [seatOf bs X]) (q + 1) (by rfl) _ _ 38 47 _ 32 (by rfl) Try.underlying38 info47 rfl (by decide) (by simp [Act.eval]) (by simp [Act.eval]) (OJ9.out.ext0 (by repeat (first | exact Ext.refl _ _ | refine Ext.alloc ?_ _ | refine Ext.drew ?_))) ?_ ?_ ?_ ?_ ?_ ?_
          · refine Rd.lit_at (cs := Seat.cells (seatOf bs X)) (e := 47) (fr := (0, 0)) (heap_alloc_new w9.drew _) rfl ⟨?_, ?_⟩
            · show q < w9.heap.size
              omega
            · intro h
              have := (HBL.out _ h.symm).2
              have h3 : w9.drew.heap.size = w9.heap.size := rfl
              omega
          · intro k hk
            simp at hk
            omega
          · simp; (try have hsl := HSL.out); omega
          · simp; (try have hsl := HSL.out); omega
          · simp; (try have hsl := HSL.out); omega
          intro v' wA hown hext hblk
          obtain ⟨A2, n2, c2, rfl⟩ : ∃ A n c, v' = .slice A n c := by obtain ⟨A2, c2, h2, _, _⟩ := hown.slice; exact ⟨_, _, _, h2⟩
          have EA : Hid (Ext (fun k => some k = (Value.slice Av (pAt bs j).seats.length cv).ownBlock) w9 wA) := Ext.trans (by repeat (first | exact Ext.refl _ _ | refine Ext.alloc ?_ _ | refine Ext.drew ?_)) hext (fun _ _ e => e)
          have OA : Hid (Own seatK 47 wA (q + 1) (fun k => q < k) (.slice A2 n2 c2) ((pAt bs j).seats ++ [seatOf bs X])) := hown
          have BA := Lib.hid (EA.out.obj BJ9.out (fun e => by have := (HBL.out _ e.symm).1; omega))
          have s0 := EA.out.cell s0 (fun e => Nat.lt_irrefl _ (HBL.out _ e.symm).2)
          have s1 := EA.out.cell s1 (fun e => Nat.lt_irrefl _ (HBL.out _ e.symm).2)
          have s2 := EA.out.cell s2 (fun e => Nat.lt_irrefl _ (HBL.out _ e.symm).2)
          have s3 := EA.out.cell s3 (fun e => Nat.lt_irrefl _ (HBL.out _ e.symm).2)
          have d0 := blk_cell BA.out 0
          have z0 := blk_frozen BA.out 0
          have hlqA := blk_lt BA.out
          simp at d0
          clear hown hext hblk
          refine hK.out _ _ ⟨s0, s1, s2, s3⟩ (fun hS => ?_)
          try simp only [Act.put, List.setIfInBounds_toArray, List.set_cons_zero, List.set_cons_succ]
          refine Last.take_ (i := 10) (N := some 45) (v := .pointer (some ⟨q, 0, none⟩)) #[true, true, true, true, true, true, true, true, true, true, true, false, false, false] (by simp only [List.getElem?_toArray, List.getElem?_cons_zero, List.getElem?_cons_succ]; rfl) rfl (by kernel_rfl) (by exact fun _ _ _ h => h) (Or.inl ⟨by rfl, fun W hW => by first | rfl | (try dsimp only at hW); go_simp⟩) hS rfl ?_
          simp only [Act.put, List.setIfInBounds_toArray, List.set_cons_zero, List.set_cons_succ]
          refine Last.take_ (i := 11) (N := some 46) (v := .pointer (some ⟨q, 0, none⟩)) #[true, true, true, true, true, true, true, true, true, true, true, true, false, false] (by simp only [List.getElem?_toArray, List.getElem?_cons_zero, List.getElem?_cons_succ]; rfl) rfl (by kernel_rfl) (by exact fun _ _ _ h => h) (Or.inl ⟨by rfl, fun W hW => by first | rfl | (try dsimp only at hW); go_simp⟩) hS rfl ?_
          simp only [Act.put, List.setIfInBounds_toArray, List.set_cons_zero, List.set_cons_succ]
          refine Last.one_ (i := 12) (N := none) #[true, true, true, true, true, true, true, true, true, true, true, true, true, false] (by simp only [List.getElem?_toArray, List.getElem?_cons_zero, List.getElem?_cons_succ]; rfl) rfl (by kernel_rfl) (by decide) (fun K hK => ?_)
          obtain ⟨wB, hwB⟩ : ∃ wB, wA.setCell ⟨q, 0, none⟩ (.slice A2 n2 c2) = wB := ⟨_, rfl⟩
          have eB : Ext (Only q) wA wB := by rw [← hwB]; exact (Ext.refl (Only q) wA).setCell (p := ⟨q, 0, none⟩) (fun _ => rfl) _
          have bB : wB.heap[q]? = some (.cells #[.slice A2 n2 c2, .int .i64 (hd1 bs).1, .bool true] 54 (0, 0)) := by rw [← hwB]; simpa using blk_set BA.out 0 (.slice A2 n2 c2)
          have hqs : sb ≠ q := by omega
          have s0 := eB.cell s0 (fun e => hqs e)
          have s1 := eB.cell s1 (fun e => hqs e)
          have s2 := eB.cell s2 (fun e => hqs e)
          have s3 := eB.cell s3 (fun e => hqs e)
          have HWB := Lib.hid hwB
          have RB := Lib.hid ((R9.out.far EA.out (fun e => by have := (HBL.out _ e.symm).1; omega) (fun k hk _ e => by have := (HBL.out _ e.symm).1; have := HOK.out k hk; omega)).far eB (fun e => by have e1 : g = q := e; omega) (fun k hk _ e => by have e1 : k = q := e; have := HOK.out k hk; omega))
          have EB := Lib.hid ((E9.out.trans EA.out (fun i hi e => by have := (HBL.out _ e.symm).1; omega)).trans eB (fun i hi e => by have e1 : i = q := e; omega))
          have OB := Lib.hid (OA.out.ext eB (fun k hk _ e => by have e1 : k = q := e; omega))
          have BB := Lib.hid bB
          clear hwB eB bB d1 BA
          go_simp
          rw [HWB.out]
          refine hK.out _ _ ⟨s0, s1, s2, s3⟩ (fun hS => ?_)
          try simp only [Act.put, List.setIfInBounds_toArray, List.set_cons_zero, List.set_cons_succ]
          refine Last.take_ (i := 13) (N := some 5) (v := .int .i64 X.1) #[true, true, true, true, true, true, true, true, true, true, true, true, true, true] (by simp only [List.getElem?_toArray, List.getElem?_cons_zero, List.getElem?_cons_succ]; rfl) rfl (by kernel_rfl) (by exact fun _ _ _ h => h) (Or.inl ⟨by rfl, fun W hW => by first | rfl | (try dsimp only at hW); go_simp⟩) hS rfl ?_
          simp only [Act.put, List.setIfInBounds_toArray, List.set_cons_zero, List.set_cons_succ]
          refine Last.done_ (by kernel_rfl) ?_
          go_wp2_with fail
          go_roundw
          case rel => exact ⟨j + 1, .slice A2 n2 c2, by go_num, by rw [HP.out], by omega, by rw [HP.out]; exact RB.out, BB.out, by rw [HP.out]; exact OB.out, EB.out⟩
          case measure => simp [intOf, many]; omega
    · have hnj : (hd2 bs).1 = (j : Int) := by omega
      have hm : many bs = j := by unfold many; omega
      have hpe : pEnd bs = pAt bs j := by unfold pEnd; rw [hm]
      obtain ⟨er, her⟩ : ∃ er, er = (pAt bs j).err := ⟨_, rfl⟩
      have hpk : pOk bs = (er == 0 && !decide (L < B)) := by unfold pOk; rw [hpe, her, hL, hB]
      have HPE := Lib.hid hpe
      have HPK := Lib.hid hpk
      have HER := Lib.hid her
      have RJ2 : Hid (RdrAt wr ok g bs (pAt bs j).at' er) := by rw [her]; exact RJ.out
      rw [← hB]
      rw [hnj]
      have HFIN : Hid (RdrAt wr ok g bs (pEnd bs).at' (pEnd bs).err ∧ Ext (Only g) w wr) := by rw [hpe]; exact ⟨RJ.out, EJ.out⟩
      clear hm hpe her hpk hL hB hpj hh hlt hnj
      by_cases he : er = 0
      · subst he
        by_cases hb : L < B
        · have hF : Hid (pOk bs = false) := by rw [HPK.out, decide_eq_true hb]; rfl
          go_wp2_with fail
          refine (Err_calls RJ2.out).mono ?_
          rintro e w4 ⟨rfl, rfl⟩
          go_wp2_with fail
          go_ret2
          exact ⟨.inl ⟨hF.out, rfl⟩, HFIN.out⟩
        · have hT : Hid (pOk bs = true) := by rw [HPK.out, decide_eq_false hb]; rfl
          go_wp2_with fail
          refine (Err_calls RJ2.out).mono ?_
          rintro e w4 ⟨rfl, rfl⟩
          go_wp2_with fail
          go_ret2
          refine ⟨.inr ⟨hT.out, q, rfl, hwq, blk_lt BJ.out, ⟨v, ?_, ?_⟩⟩, HFIN.out⟩
          · exact BJ.out
          · show Rd seatK _ _ v (pEnd bs).seats
            rw [HPE.out]
            exact OJ.out.rd
      · have hF : Hid (pOk bs = false) := by rw [HPK.out, beq_eq_false_iff_ne.2 he]; rfl
        have q1 : (er != 0) = true := by simpa using he
        clear he
        go_wp2_with fail
        refine (Err_calls RJ2.out).mono ?_
        rintro e w4 ⟨rfl, rfl⟩
        go_wp2_with fail
        go_ret2
        exact ⟨.inl ⟨hF.out, rfl⟩, HFIN.out⟩
end Go.Proofs.Ytiebnjkjgobklaa
