/- The document's Take. -/
import Derived.Test.YtiebnjkjgobklaaG1
import Derived.Test.YtiebnjkjgobklaaC6
import Derived.Test.YtiebnjkjgobklaaL
import Derived.Deep.CutRange
import Derived.Deep.QuietTactic
namespace Go.Proofs.Ytiebnjkjgobklaa
open Go.RowKit Go.TM

theorem _root_.Go.TM.Ext.drewN {M : Nat → Prop} {a b : World} (h : Ext M a b) (n : Nat) : Ext M a (b.drewN n) := h.trans0 ⟨rfl, rfl, rfl, Nat.le_refl _, fun _ _ _ => rfl⟩
theorem RrWithin_to {w : World} {ok : Nat → Prop} {g : Nat} {bs : List UInt8} {a : Nat} {err : Int} (hR : RrAt w ok g bs a err) (hg : ¬ ok g) (ha : a ≤ bs.length) (lo hi : Int) {x : Int × Nat × Int} (hx : rWithin bs a err lo hi = x) :
    Calls Try.prog 43 #[.pointer (some ⟨g, 0, none⟩), .int .i64 lo, .int .i64 hi] w (RrPost ok g bs w (.int .i64 x.1) x.2) := by
  subst hx
  exact RrWithin_calls hR hg ha lo hi
theorem RrNumber_to {w : World} {ok : Nat → Prop} {g : Nat} {bs : List UInt8} {a : Nat} {err : Int} (hR : RrAt w ok g bs a err) (hg : ¬ ok g) (ha : a ≤ bs.length) {x : Int × Nat × Int} (hx : rNum bs a err = x) :
    Calls Try.prog 44 #[.pointer (some ⟨g, 0, none⟩)] w (RrPost ok g bs w (.int .i64 x.1) x.2) := by
  subst hx
  exact RrNumber_calls hR hg ha
theorem RrAt.far {w w' : World} {ok M : Nat → Prop} {g : Nat} {bs : List UInt8} {a : Nat} {err : Int} (h : RrAt w ok g bs a err) (he : Ext M w w') (hg : ¬ M g) (hm : ∀ k, ok k → k < w.heap.size → ¬ M k) : RrAt w' ok g bs a err := by
  obtain ⟨v, hb, hr⟩ := h
  exact ⟨v, he.obj hb hg, hr.ext he hm⟩

def TakePost (bs : List UInt8) (ok : Nat → Prop) (g : Nat) (w : World) (e : Ending) (w' : World) : Prop :=
  (rOk bs = false ∧ e = .returned (.tuple #[.pointer none, .bool false]) ∨ rOk bs = true ∧ ∃ q, e = .returned (.tuple #[.pointer (some ⟨q, 0, none⟩), .bool true]) ∧ w.heap.size ≤ q ∧ q < w'.heap.size ∧ RefAt w' (fun k => q < k) q (rTab bs)) ∧ RrAt w' ok g bs (rEnd bs).at' (rEnd bs).err ∧ Ext (Only g) w w'

set_option maxHeartbeats 8000000 in
set_option maxRecDepth 100000 in
theorem Take_calls {w : World} {ok : Nat → Prop} {g : Nat} {bs : List UInt8} (hR : RrAt w ok g bs 0 0) (hg : ¬ ok g) (hok : ∀ k, ok k → k < w.heap.size) (hgl : g < w.heap.size) : Calls Try.prog 31 #[.pointer (some ⟨g, 0, none⟩)] w (TakePost bs ok g w) := by
  have HR := Lib.hid hR
  have HOK := Lib.hid hok
  have HD := Lib.hid (hd_le bs)
  clear hR hok
  go_enter Try.func31, Try.ntmps31
  go_wp2_with fail
  refine (RrWithin_to HR.out hg (Nat.zero_le _) 0 1099511627776 (x := hd1 bs) rfl).mono ?_
  rintro e w1 ⟨rfl, h1, h2⟩
  have R1 := Lib.hid h1
  have E1 := Lib.hid h2
  clear h1 h2
  obtain ⟨q, hq⟩ : ∃ q, q = w1.heap.size := ⟨_, rfl⟩
  have hwq : w.heap.size ≤ q := by rw [hq]; exact E1.out.size
  obtain ⟨w2, hw2⟩ : ∃ w2, w1.alloc (.cells #[.int .i64 (hd1 bs).1, .slice none 0 0] 40) = w2 := ⟨_, rfl⟩
  have hb2 : w2.heap[q]? = some (.cells #[.int .i64 (hd1 bs).1, .slice none 0 0] 40 (0, 0)) := by rw [← hw2, hq]; exact heap_alloc_new _ _
  have he2 : Ext Non w1 w2 := by rw [← hw2]; exact (Ext.refl Non w1).alloc _
  have R2 := Lib.hid (R1.out.ext he2)
  have E2 : Hid (Ext (Only g) w w2) := E1.out.trans he2 (fun _ _ e => e.elim)
  have B2 := Lib.hid hb2
  have HW2 := Lib.hid hw2
  have HQ := Lib.hid hq
  clear he2 hb2 hw2 hq
  go_wp2_with fail
  rw [← HQ.out, HW2.out]
  go_wp2_with fail
  refine (RrWithin_to R2.out hg HD.out.1 0 8 (x := hd2 bs) rfl).mono ?_
  rintro e w3 ⟨rfl, h1, h2⟩
  have R3 := Lib.hid h1
  have E3 : Hid (Ext (Only g) w w3) := E2.out.trans h2 (fun _ _ e => e)
  have B3 := Lib.hid (h2.obj B2.out (fun e => by have e1 : q = g := e; omega))
  clear h1 h2
  go_wp2_with fail
  go_loopw [5, 6, 14] (fun b gd i wr => ∃ (j : Nat) (v : Value), i = .int .i64 j ∧ b = .int .i64 (rAt bs j).bef ∧ gd = .bool (rAt bs j).good ∧ (j : Int) ≤ (hd2 bs).1 ∧ Hid (RrAt wr ok g bs (rAt bs j).at' (rAt bs j).err) ∧ Hid (wr.heap[q]? = some (.cells #[.int .i64 (hd1 bs).1, v] 40 (0, 0))) ∧ Hid (Own seatK 47 wr (q + 1) (fun k => q < k) v (rAt bs j).seats) ∧ Hid (Ext (Only g) w wr)) (fun _ _ i _ => many bs - (intOf i).toNat)
  case atStart => exact ⟨0, _, rfl, rfl, rfl, HD.out.2.2.2.2.1, R3.out, B3.out, Own.nil _ _ _ _ _, E3.out⟩
  case round =>
    obtain ⟨j, v, rfl, rfl, rfl, hj, RJ, BJ, OJ, EJ⟩ := hrel
    have hpj := rAt_le bs j
    have hh := HD.out
    unfold big at hh
    obtain ⟨B, hB⟩ : ∃ B, B = (rAt bs j).bef := ⟨_, rfl⟩
    obtain ⟨L, hL⟩ : ∃ L, L = (hd1 bs).1 := ⟨_, rfl⟩
    obtain ⟨gd, hgd⟩ : ∃ gd, gd = (rAt bs j).good := ⟨_, rfl⟩
    have hB0 : 0 ≤ B := by omega
    have hL0 : 0 ≤ L := by omega
    have hL1 : L ≤ 1099511627776 := by omega
    have hBB := Lib.hid hB
    have hLL := Lib.hid hL
    have hGG := Lib.hid hgd
    rw [← hgd]
    have c0 := blk_cell BJ.out 0
    simp at c0
    have c1 := blk_cell BJ.out 1
    simp at c1
    rw [← hL] at c0
    by_cases hlt : (j : Int) < (hd2 bs).1
    · have PA := Lib.hid hpj.1
      have hd8 := hh.2.2.2.2.2
      rw [← hB]
      have hx1 : rNum bs (rAt bs j).at' (rAt bs j).err = rN bs (rAt bs j) := rfl
      have HX1 := Lib.hid hx1
      clear hB hL hgd hpj hh hx1
      go_wp2_with fail
      refine (RrNumber_to RJ.out hg PA.out HX1.out).mono ?_
      obtain ⟨X, hX⟩ : ∃ X, X = rN bs (rAt bs j) := ⟨_, rfl⟩
      rw [← hX]
      have HXX := Lib.hid hX
      have PX : Hid (X.2.1 ≤ bs.length) := by rw [hX, ← HX1.out]; exact (rNum_le PA.out).1
      clear hX HX1
      rintro e w4 ⟨rfl, h1, h2⟩
      have R4 := Lib.hid h1
      have E4 := Lib.hid (EJ.out.trans h2 (fun _ _ e => e))
      have F4 := Lib.hid h2
      clear h1 h2
      go_wp2_with fail
      refine (RrWithin_to R4.out hg PX.out 0 1099511627776 (x := rest2 bs X) rfl).mono ?_
      rintro e w5 ⟨rfl, h1, h2⟩
      have R5 := Lib.hid h1
      have E5 := Lib.hid (E4.out.trans h2 (fun _ _ e => e))
      have F5 := Lib.hid (F4.out.trans h2 (fun _ _ e => e))
      clear h1 h2
      obtain ⟨sb, hsb⟩ : ∃ sb, sb = w5.heap.size := ⟨_, rfl⟩
      obtain ⟨w6, hw6⟩ : ∃ w6, w5.alloc (.cells #[.int .i64 X.1, .int .i64 (rest2 bs X).1, .int .i64 0, .int .i64 0] 47) = w6 := ⟨_, rfl⟩
      have hb6 : w6.heap[sb]? = some (.cells #[.int .i64 X.1, .int .i64 (rest2 bs X).1, .int .i64 0, .int .i64 0] 47 (0, 0)) := by rw [← hw6, hsb]; exact heap_alloc_new _ _
      have he6 : Ext Non w5 w6 := by rw [← hw6]; exact (Ext.refl Non w5).alloc _
      have R6 := Lib.hid (R5.out.ext he6)
      have E6 := Lib.hid (E5.out.trans he6 (fun _ _ e => e.elim))
      have F6 := Lib.hid (F5.out.trans he6 (fun _ _ e => e.elim))
      have B6 := Lib.hid hb6
      have HW6 := Lib.hid hw6
      have HSB := Lib.hid hsb
      clear hw6 hb6 he6 hsb
      go_wp2_with fail
      rw [← HSB.out, HW6.out]
      go_wp2_with fail
      refine (RrWithin_to R6.out hg (rest_le PX.out).1 0 1000 (x := rest3 bs X) rfl).mono ?_
      rintro e w7 ⟨rfl, h1, h2⟩
      have hgs : sb ≠ g := by have := E5.out.size; have := HSB.out; omega
      have R7 := Lib.hid h1
      have E7 := Lib.hid (E6.out.trans h2 (fun _ _ e => e))
      have F7 := Lib.hid (F6.out.trans h2 (fun _ _ e => e))
      have B7 := Lib.hid (h2.obj B6.out (fun e => hgs e))
      clear h1 h2
      go_wp2_with fail
      refine (RrWithin_to R7.out hg (rest_le PX.out).2.1 0 1099511627776 (x := rest4 bs X) rfl).mono ?_
      rintro e w8 ⟨rfl, h1, h2⟩
      have R8 := Lib.hid h1
      have E8 := Lib.hid (E7.out.trans h2 (fun _ _ e => e))
      have F8 := Lib.hid (F7.out.trans h2 (fun _ _ e => e))
      have hb8 := h2.obj B7.out (fun e => hgs e)
      have y2 := blk_frozen hb8 2
      have y3 := blk_frozen hb8 3
      have f2 := blk_cell hb8 2
      have f3 := blk_cell hb8 3
      simp at f2 f3
      have hls := blk_lt hb8
      have B8 := Lib.hid hb8
      clear h1 h2 hb8
      obtain ⟨w9, hw9⟩ : ∃ w9, (w8.setCell ⟨sb, 2, none⟩ (.int .i64 (rest3 bs X).1)).setCell ⟨sb, 3, none⟩ (.int .i64 (rest4 bs X).1) = w9 := ⟨_, rfl⟩
      have eS : Ext (Only sb) w8 w9 := by rw [← hw9]; exact ((Ext.refl (Only sb) w8).setCell (p := ⟨sb, 2, none⟩) (fun _ => rfl) _).setCell (p := ⟨sb, 3, none⟩) (fun _ => rfl) _
      have hb9 : w9.heap[sb]? = some (.cells #[.int .i64 X.1, .int .i64 (rest2 bs X).1, .int .i64 (rest3 bs X).1, .int .i64 (rest4 bs X).1] 47 (0, 0)) := by rw [← hw9]; simpa using blk_set (blk_set B8.out 2 (.int .i64 (rest3 bs X).1)) 3 (.int .i64 (rest4 bs X).1)
      have R9 := Lib.hid (R8.out.far eS (fun e => hgs e.symm) (fun k hk _ e => by have e1 : k = sb := e; have := HOK.out k hk; have := E5.out.size; have := HSB.out; omega))
      have E9 := Lib.hid (E8.out.trans eS (fun i hi e => by have e1 : i = sb := e; have := E5.out.size; have := HSB.out; omega))
      have F9 := Lib.hid (F8.out.trans (M := Only g) eS (fun i hi e => by have e1 : i = sb := e; have := F5.out.size; have := HSB.out; omega))
      have BJ9 := Lib.hid (F9.out.obj BJ.out (fun e => by have e1 : q = g := e; omega))
      have OJ9 := Lib.hid (OJ.out.ext F9.out (fun k hk _ e => by have e1 : k = g := e; omega))
      have d0 := blk_cell BJ9.out 0
      have d1 := blk_cell BJ9.out 1
      simp at d0 d1
      rw [← hLL.out] at d0
      have s0 := blk_cell hb9 0
      simp at s0
      have B9 := Lib.hid hb9
      have HW9 := Lib.hid hw9
      obtain ⟨Av, cv, rfl, hcv, hmv⟩ := OJ9.out.slice
      have HBL : Hid (∀ k, (Value.slice Av (rAt bs j).seats.length cv).ownBlock = some k → q + 1 ≤ k ∧ k < sb) := fun k hk => ⟨(OJ.out.base_le k hk).1, by have := (OJ.out.base_le k hk).2; have := F5.out.size; have := HSB.out; omega⟩
      have HP : Hid (rAt bs (j + 1) = ⟨(rAt bs j).seats ++ [seatOf bs X], X.1, gd && decide (B < X.1) && decide (X.1 ≤ L), (rest4 bs X).2.1, (rest4 bs X).2.2⟩) := by rw [HXX.out, hBB.out, hLL.out, hGG.out]; rfl
      have HSL : Hid ((rAt bs j).seats.length = j) := (rAt_le bs j).2.2.2
      have hsq : q < sb := by have := F5.out.size; have := HSB.out; have := blk_lt BJ.out; omega
      have hz9 : sb < w9.heap.size := blk_lt hb9
      clear hw9 eS hb9 R8 E8 F8 B8 R7 E7 F7 B7 R6 E6 F6 B6 R5 E5 F5 R4 E4 F4 BJ OJ c0 c1
      go_upto_region 8 with fail
      rw [HW9.out]
      go_cut [6] from 27 to 42 (fun s6 wx => s6 = .bool (gd && decide (B < X.1) && decide (X.1 ≤ L)) ∧ ∃ n, w9.drewN n = wx)
      case first =>
        cases gd with
        | false =>
          go_quiet (fail)
          go_wp2_with fail
          go_meet
          exact ⟨by simp, _, rfl⟩
        | true =>
          by_cases hb1 : B < X.1
          · by_cases hb2 : X.1 ≤ L
            · go_quiet (fail)
              go_wp2_with fail
              go_meet
              exact ⟨by simp [hb1, hb2], _, rfl⟩
            · go_quiet (fail)
              go_wp2_with fail
              go_meet
              exact ⟨by simp [hb1, hb2], _, rfl⟩
          · go_quiet (fail)
            go_wp2_with fail
            go_meet
            exact ⟨by simp; omega, _, rfl⟩
      case rest =>
        obtain ⟨rfl, nn, hnn⟩ := hcut
        have e10 : Ext Non w9 wc := by rw [← hnn]; exact (Ext.refl Non w9).drewN nn
        obtain ⟨w10, hw10⟩ : ∃ w10, w10 = wc := ⟨_, rfl⟩
        subst hw10
        have R10 := Lib.hid (R9.out.ext e10)
        have E10 := Lib.hid (E9.out.trans e10 (fun _ _ e => e.elim))
        have OJ10 := Lib.hid (OJ9.out.ext0 e10)
        have BJ10 := Lib.hid (e10.obj BJ9.out (fun e => e))
        have hb10 := e10.obj B9.out (fun e => e)
        have d0 := blk_cell BJ10.out 0
        have d1 := blk_cell BJ10.out 1
        have z1 := blk_frozen BJ10.out 1
        have s0 := blk_cell hb10 0
        have s1 := blk_cell hb10 1
        have s2 := blk_cell hb10 2
        have s3 := blk_cell hb10 3
        have hls10 := blk_lt hb10
        have hlq := blk_lt BJ10.out
        simp at d0 d1 s0 s1 s2 s3
        clear hnn e10 hb10 R9 E9 OJ9 BJ9 B9
        go_upto_region 10 with fail
        refine Last.start_ (S := fun W => W.cell? ⟨sb, 0, none⟩ = some (.int .i64 X.1) ∧ W.cell? ⟨sb, 1, none⟩ = some (.int .i64 (rest2 bs X).1) ∧ W.cell? ⟨sb, 2, none⟩ = some (.int .i64 (rest3 bs X).1) ∧ W.cell? ⟨sb, 3, none⟩ = some (.int .i64 (rest4 bs X).1) ∧ W.cell? ⟨q, 1, none⟩ = some (.slice Av (rAt bs j).seats.length cv)) (ds := [10]) #[false, false, false, false, false, false, false, false, false, false, false] (by kernel_rfl) (by rfl) (by rfl) ⟨s0, s1, s2, s3, d1⟩ (fun hS => ?_)
        refine Last.take_ (i := 0) (N := some 45) (v := .pointer (some ⟨q, 0, none⟩)) #[true, false, false, false, false, false, false, false, false, false, false] (by simp only [List.getElem?_toArray, List.getElem?_cons_zero]; rfl) rfl (by kernel_rfl) (by exact fun _ _ _ h => h) (Or.inl ⟨by rfl, fun W hW => by first | rfl | (try dsimp only at hW); go_simp⟩) hS rfl ?_
        simp only [Act.put, List.setIfInBounds_toArray, List.set_cons_zero, List.set_cons_succ]
        refine Last.take_ (i := 1) (N := some 46) (v := .pointer (some ⟨q, 0, none⟩)) #[true, true, false, false, false, false, false, false, false, false, false] (by simp only [List.getElem?_toArray, List.getElem?_cons_zero, List.getElem?_cons_succ]; rfl) rfl (by kernel_rfl) (by exact fun _ _ _ h => h) (Or.inl ⟨by rfl, fun W hW => by first | rfl | (try dsimp only at hW); go_simp⟩) hS rfl ?_
        simp only [Act.put, List.setIfInBounds_toArray, List.set_cons_zero, List.set_cons_succ]
        refine Last.take_ (i := 2) (N := some 47) (v := .pointer (some ⟨q, 0, none⟩)) #[true, true, true, false, false, false, false, false, false, false, false] (by simp only [List.getElem?_toArray, List.getElem?_cons_zero, List.getElem?_cons_succ]; rfl) rfl (by kernel_rfl) (by exact fun _ _ _ h => h) (Or.inl ⟨by rfl, fun W hW => by first | rfl | (try dsimp only at hW); go_simp⟩) hS rfl ?_
        simp only [Act.put, List.setIfInBounds_toArray, List.set_cons_zero, List.set_cons_succ]
        refine Last.take_ (i := 3) (N := some 48) (v := .pointer (some ⟨q, 1, none⟩)) #[true, true, true, true, false, false, false, false, false, false, false] (by simp only [List.getElem?_toArray, List.getElem?_cons_zero, List.getElem?_cons_succ]; rfl) rfl (by kernel_rfl) (by exact fun _ _ _ h => h) (Or.inl ⟨by rfl, fun W hW => by first | rfl | (try dsimp only at hW); go_simp⟩) hS rfl ?_
        simp only [Act.put, List.setIfInBounds_toArray, List.set_cons_zero, List.set_cons_succ]
        refine Last.take_ (i := 4) (N := some 49) (v := .slice Av (rAt bs j).seats.length cv) #[true, true, true, true, true, false, false, false, false, false, false] (by simp only [List.getElem?_toArray, List.getElem?_cons_zero, List.getElem?_cons_succ]; rfl) rfl (by kernel_rfl) (by exact fun _ _ _ h => h) (Or.inl ⟨by rfl, fun W hW => by first | rfl | (try dsimp only at hW); go_simp⟩) hS rfl ?_
        simp only [Act.put, List.setIfInBounds_toArray, List.set_cons_zero, List.set_cons_succ]
        refine Last.take_ (i := 5) (N := some 50) (v := .agg #[.int .i64 X.1, .int .i64 (rest2 bs X).1, .int .i64 (rest3 bs X).1, .int .i64 (rest4 bs X).1]) #[true, true, true, true, true, true, false, false, false, false, false] (by simp only [List.getElem?_toArray, List.getElem?_cons_zero, List.getElem?_cons_succ]; rfl) rfl (by kernel_rfl) (by exact fun _ _ _ h => h) (Or.inl ⟨by rfl, fun W hW => by first | rfl | (try dsimp only at hW); go_simp⟩) hS rfl ?_
        simp only [Act.put, List.setIfInBounds_toArray, List.set_cons_zero, List.set_cons_succ]
        refine Last.one_ (i := 6) (N := some 51) #[true, true, true, true, true, true, true, false, false, false, false] (by simp only [List.getElem?_toArray, List.getElem?_cons_zero, List.getElem?_cons_succ]; rfl) rfl (by kernel_rfl) (by decide) (fun K hK => ?_)
        go_simp
        refine hK.out _ _ ⟨by go_simp, by go_simp, by go_simp, by go_simp, by go_simp⟩ (fun hS => ?_)
        try simp only [Act.put, List.setIfInBounds_toArray, List.set_cons_zero, List.set_cons_succ]
        refine Last.one_ (i := 7) (N := some 52) #[true, true, true, true, true, true, true, true, false, false, false] (by simp only [List.getElem?_toArray, List.getElem?_cons_zero, List.getElem?_cons_succ]; rfl) rfl (by kernel_rfl) (by decide) (fun K hK => ?_)
        refine step_app seatK (ok := fun k => q < k) (v := .slice Av (rAt bs j).seats.length cv) (vx := .slice (some ⟨w10.heap.size, 0, none⟩) 1 1) (xs := (rAt bs j).seats) (ys := [seatOf bs X]) (q + 1) (by rfl) _ _ 38 47 _ 32 (by rfl) Try.underlying38 info47 rfl (by decide) (by simp [Act.eval]) (by simp [Act.eval]) (OJ10.out.ext0 (by repeat (first | exact Ext.refl _ _ | refine Ext.alloc ?_ _ | refine Ext.drew ?_))) ?_ ?_ ?_ ?_ ?_ ?_
        · refine Rd.lit_at (cs := Seat.cells (seatOf bs X)) (e := 47) (fr := (0, 0)) (heap_alloc_new w10.drew _) rfl ⟨?_, ?_⟩
          · show q < w10.heap.size
            omega
          · intro h
            have := (HBL.out _ h.symm).2
            have h3 : w10.drew.heap.size = w10.heap.size := rfl
            omega
        · intro k hk
          simp at hk
          omega
        · simp; (try have hsl := HSL.out); omega
        · simp; (try have hsl := HSL.out); omega
        · simp; omega
        intro v' wA hown hext hblk
        obtain ⟨A2, n2, c2, rfl⟩ : ∃ A n c, v' = .slice A n c := by obtain ⟨A2, c2, h2, _, _⟩ := hown.slice; exact ⟨_, _, _, h2⟩
        have EA : Hid (Ext (fun k => some k = (Value.slice Av (rAt bs j).seats.length cv).ownBlock) w10 wA) := Ext.trans (by repeat (first | exact Ext.refl _ _ | refine Ext.alloc ?_ _ | refine Ext.drew ?_)) hext (fun _ _ e => e)
        have OA : Hid (Own seatK 47 wA (q + 1) (fun k => q < k) (.slice A2 n2 c2) ((rAt bs j).seats ++ [seatOf bs X])) := hown
        have BA := Lib.hid (EA.out.obj BJ10.out (fun e => by have := (HBL.out _ e.symm).1; omega))
        have s0 := EA.out.cell s0 (fun e => Nat.lt_irrefl _ (HBL.out _ e.symm).2)
        have s1 := EA.out.cell s1 (fun e => Nat.lt_irrefl _ (HBL.out _ e.symm).2)
        have s2 := EA.out.cell s2 (fun e => Nat.lt_irrefl _ (HBL.out _ e.symm).2)
        have s3 := EA.out.cell s3 (fun e => Nat.lt_irrefl _ (HBL.out _ e.symm).2)
        have d1 := blk_cell BA.out 1
        have z1 := blk_frozen BA.out 1
        have hlqA := blk_lt BA.out
        simp at d1
        clear hown hext hblk
        refine hK.out _ _ ⟨s0, s1, s2, s3, d1⟩ (fun hS => ?_)
        try simp only [Act.put, List.setIfInBounds_toArray, List.set_cons_zero, List.set_cons_succ]
        refine Last.take_ (i := 8) (N := some 53) (v := .pointer (some ⟨q, 0, none⟩)) #[true, true, true, true, true, true, true, true, true, false, false] (by simp only [List.getElem?_toArray, List.getElem?_cons_zero, List.getElem?_cons_succ]; rfl) rfl (by kernel_rfl) (by exact fun _ _ _ h => h) (Or.inl ⟨by rfl, fun W hW => by first | rfl | (try dsimp only at hW); go_simp⟩) hS rfl ?_
        simp only [Act.put, List.setIfInBounds_toArray, List.set_cons_zero, List.set_cons_succ]
        refine Last.take_ (i := 9) (N := some 54) (v := .pointer (some ⟨q, 1, none⟩)) #[true, true, true, true, true, true, true, true, true, true, false] (by simp only [List.getElem?_toArray, List.getElem?_cons_zero, List.getElem?_cons_succ]; rfl) rfl (by kernel_rfl) (by exact fun _ _ _ h => h) (Or.inl ⟨by rfl, fun W hW => by first | rfl | (try dsimp only at hW); go_simp⟩) hS rfl ?_
        simp only [Act.put, List.setIfInBounds_toArray, List.set_cons_zero, List.set_cons_succ]
        refine Last.last_ (i := 10) (N := none) #[true, true, true, true, true, true, true, true, true, true, true] (by simp only [List.getElem?_toArray, List.getElem?_cons_zero, List.getElem?_cons_succ]; rfl) rfl (by kernel_rfl) (by decide) (fun K hK => ?_)
        obtain ⟨wB, hwB⟩ : ∃ wB, wA.setCell ⟨q, 1, none⟩ (.slice A2 n2 c2) = wB := ⟨_, rfl⟩
        have eB : Ext (Only q) wA wB := by rw [← hwB]; exact (Ext.refl (Only q) wA).setCell (p := ⟨q, 1, none⟩) (fun _ => rfl) _
        have bB : wB.heap[q]? = some (.cells #[.int .i64 (hd1 bs).1, .slice A2 n2 c2] 40 (0, 0)) := by rw [← hwB]; simpa using blk_set BA.out 1 (.slice A2 n2 c2)
        have HWB := Lib.hid hwB
        have RB := Lib.hid ((R10.out.far EA.out (fun e => by have := (HBL.out _ e.symm).1; omega) (fun k hk _ e => by have := (HBL.out _ e.symm).1; have := HOK.out k hk; omega)).far eB (fun e => by have e1 : g = q := e; omega) (fun k hk _ e => by have e1 : k = q := e; have := HOK.out k hk; omega))
        have EB := Lib.hid ((E10.out.trans EA.out (fun i hi e => by have := (HBL.out _ e.symm).1; omega)).trans eB (fun i hi e => by have e1 : i = q := e; omega))
        have OB := Lib.hid (OA.out.ext eB (fun k hk _ e => by have e1 : k = q := e; omega))
        have BB := Lib.hid bB
        clear hwB eB bB BA
        go_simp
        rw [HWB.out]
        refine hK.out _ _ ?_
        try simp only [Act.put, List.setIfInBounds_toArray, List.set_cons_zero, List.set_cons_succ]
        refine Last.done_ (by kernel_rfl) ?_
        go_wp2_with fail
        go_roundw
        case rel => exact ⟨j + 1, .slice A2 n2 c2, by go_num, by rw [HP.out], by rw [HP.out], by omega, by rw [HP.out]; exact RB.out, BB.out, by rw [HP.out]; exact OB.out, EB.out⟩
        case measure => simp [intOf, many]; omega
    · have hnj : (hd2 bs).1 = (j : Int) := by omega
      have hm : many bs = j := by unfold many; omega
      have hpe : rEnd bs = rAt bs j := by unfold rEnd; rw [hm]
      obtain ⟨er, her⟩ : ∃ er, er = (rAt bs j).err := ⟨_, rfl⟩
      have hpk : rOk bs = (gd && (er == 0)) := by unfold rOk; rw [hpe, her, hgd]
      have HPE := Lib.hid hpe
      have HPK := Lib.hid hpk
      have RJ2 : Hid (RrAt wr ok g bs (rAt bs j).at' er) := by rw [her]; exact RJ.out
      obtain ⟨v0, r0, r1, r2, t1, t2, hr0⟩ := RJ2.out.cells
      have hlg : g < wr.heap.size := by have := EJ.out.size; omega
      rw [← hB]
      rw [hnj]
      have HFIN : Hid (RrAt wr ok g bs (rEnd bs).at' (rEnd bs).err ∧ Ext (Only g) w wr) := by rw [hpe]; exact ⟨RJ.out, EJ.out⟩
      clear hm hpe her hpk hL hB hgd hpj hh hlt hnj hr0
      cases gd with
      | false =>
        have hF : Hid (rOk bs = false) := by rw [HPK.out]; rfl
        go_wp2_with fail
        go_ret2
        exact ⟨.inl ⟨hF.out, rfl⟩, HFIN.out⟩
      | true =>
        by_cases he : er = 0
        · subst he
          have hT : Hid (rOk bs = true) := by rw [HPK.out]; rfl
          go_wp2_with fail
          go_ret2
          refine ⟨.inr ⟨hT.out, q, rfl, hwq, blk_lt BJ.out, ⟨v, ?_, ?_⟩⟩, HFIN.out⟩
          · exact BJ.out
          · show Rd seatK _ _ v (rEnd bs).seats
            rw [HPE.out]
            exact OJ.out.rd
        · have hF : Hid (rOk bs = false) := by rw [HPK.out, beq_eq_false_iff_ne.2 he]; rfl
          have q1 : (er != 0) = true := by simpa using he
          clear he
          go_wp2_with fail
          go_ret2
          exact ⟨.inl ⟨hF.out, rfl⟩, HFIN.out⟩
end Go.Proofs.Ytiebnjkjgobklaa
