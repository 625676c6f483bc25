/- feed's Get, of what was put. -/
import Derived.Test.YtdjfijdnhfmeeaaV5
namespace Go.Proofs.Ytdjfijdnhfmeeaa
open Go.RowKit Go.TM
theorem ext_drewN {M : Nat → Prop} {a b : World} (h : Ext M a b) (n : Nat) : Ext M a (b.drewN n) := h.trans0 ⟨rfl, rfl, rfl, Nat.le_refl _, fun _ _ _ => rfl⟩
theorem gevS {w2 W : World} {q : Nat} {a0 a1 a2 a3 a4 a5 : Value} {t : TypeId} (he : Ext Non w2 W) (hq : w2.heap[q]? = some (.cells #[a0, a1, a2, a3, a4, a5] t (0, 0))) :
    W.cell? ⟨q, 0, none⟩ = some a0 ∧ W.cell? ⟨q, 1, none⟩ = some a1 ∧ W.cell? ⟨q, 2, none⟩ = some a2 ∧ W.cell? ⟨q, 3, none⟩ = some a3 ∧ W.cell? ⟨q, 4, none⟩ = some a4 ∧ W.cell? ⟨q, 5, none⟩ = some a5 := by
  have c := he.obj hq (fun e => e)
  exact ⟨blk_cell c 0, blk_cell c 1, blk_cell c 2, blk_cell c 3, blk_cell c 4, blk_cell c 5⟩
theorem gtop {w2 W : World} {g : Nat} {se ss : Value} {nx tp : Int} (he : Ext Non w2 W) (hb : FdB w2 g se ss nx tp) : W.cell? ⟨g, 3, none⟩ = some (.int .i64 tp) := blk_cell (he.obj hb (fun e => e)) 3
theorem set8 {w W : World} {q : Nat} {a0 b0 a1 b1 a2 b2 a3 b3 a4 b4 a5 b5 a6 b6 a7 b7 : Value} {t : TypeId} (h : w.heap[q]? = some (.cells #[a0, a1, a2, a3, a4, a5, a6, a7] t (0, 0))) (hW : W = ((((((((w.setCell ⟨q, 0, none⟩ b0).setCell ⟨q, 1, none⟩ b1).setCell ⟨q, 2, none⟩ b2).setCell ⟨q, 3, none⟩ b3).setCell ⟨q, 4, none⟩ b4).setCell ⟨q, 5, none⟩ b5).setCell ⟨q, 6, none⟩ b6).setCell ⟨q, 7, none⟩ b7)) :
    W.heap[q]? = some (.cells #[b0, b1, b2, b3, b4, b5, b6, b7] t (0, 0)) ∧ Ext (Only q) w W := by
  subst hW
  have h1 := blk_set (blk_set (blk_set (blk_set (blk_set (blk_set (blk_set (blk_set h 0 b0) 1 b1) 2 b2) 3 b3) 4 b4) 5 b5) 6 b6) 7 b7
  refine ⟨by simpa using h1, ?_⟩
  exact ((((((((og_set w q 0 b0).trans (og_set _ q 1 b1) (fun _ _ h => h)).trans (og_set _ q 2 b2) (fun _ _ h => h)).trans (og_set _ q 3 b3) (fun _ _ h => h)).trans (og_set _ q 4 b4) (fun _ _ h => h)).trans (og_set _ q 5 b5) (fun _ _ h => h)).trans (og_set _ q 6 b6) (fun _ _ h => h)).trans (og_set _ q 7 b7) (fun _ _ h => h))
theorem set4 {w W : World} {q : Nat} {a0 a1 a2 a3 a4 a5 a6 a7 b3 b4 b5 b6 : Value} {t : TypeId} (h : w.heap[q]? = some (.cells #[a0, a1, a2, a3, a4, a5, a6, a7] t (0, 0))) (hW : W = (((w.setCell ⟨q, 3, none⟩ b3).setCell ⟨q, 4, none⟩ b4).setCell ⟨q, 5, none⟩ b5).setCell ⟨q, 6, none⟩ b6) :
    W.heap[q]? = some (.cells #[a0, a1, a2, b3, b4, b5, b6, a7] t (0, 0)) ∧ Ext (Only q) w W := by
  subst hW
  have h1 := blk_set (blk_set (blk_set (blk_set h 3 b3) 4 b4) 5 b5) 6 b6
  refine ⟨by simpa using h1, ?_⟩
  exact (((og_set w q 3 b3).trans (og_set _ q 4 b4) (fun _ _ h => h)).trans (og_set _ q 5 b5) (fun _ _ h => h)).trans (og_set _ q 6 b6) (fun _ _ h => h)
def GetPost (n : Nat) (okR : Nat → Prop) (r : Nat) (bs rest : List UInt8) (D : Fdr) (w : World) (e : Ending) (w' : World) : Prop :=
  ∃ g, e = .returned (.tuple #[.pointer (some ⟨g, 0, none⟩), .bool true]) ∧ w.heap.size ≤ g ∧ Fd n (fun k => w.heap.size ≤ k ∧ k ≠ g) w' g D ∧ RAt w' okR r bs rest ∧ Ext (Only r) w w'
set_option maxRecDepth 100000 in
set_option maxHeartbeats 32000000 in
theorem Get_calls {w : World} {n r : Nat} {okR : Nat → Prop} {bs rest : List UInt8} {D : Fdr} (h : RAt w okR r bs (encD n D ++ rest)) (hg : ¬ okR r) (hok : ∀ j, okR j → j < w.heap.size) (hn : 6 ≤ n) (hD : Neat n D) (hz : ∀ e ∈ D.evs, e.key.size ≤ 96 ∧ e.old.size ≤ 192 ∧ e.now.size ≤ 192) :
    Calls Try.prog 45 #[.pointer (some ⟨r, 0, none⟩)] w (GetPost n okR r bs rest D w) := by
  have HRO := Lib.hid hg
  have HOK := Lib.hid hok
  have HD := Lib.hid hD
  have HZ := Lib.hid hz
  have hrl := h.lt
  rw [encD_more] at h
  have HR := Lib.hid h
  have hnx := hD.fine.good.next
  have htp := hD.fine.good.top
  have hle := hD.fine.good.evs
  have hls := hD.fine.good.subs
  obtain ⟨tail1, ht1⟩ : ∃ t, numI D.subs.length ++ (D.subs.flatMap (sbB n) ++ rest) = t := ⟨_, rfl⟩
  have HT1 := Lib.hid ht1
  clear h hg hok hD hz ht1
  go_enter Try.func45, Try.ntmps45
  go_wp2_with fail
  refine (within_ok (lo := 1) (hi := 1099511627776) HR.out HRO.out (by omega) (by omega) (by omega) (by omega)).mono ?_
  rintro e w1 ⟨rfl, R1, X1⟩
  have HR1 := Lib.hid R1
  have HX1 := Lib.hid X1
  clear R1 X1
  go_wp2_with fail
  refine (within_ok (lo := 0) (hi := 1099511627776) HR1.out HRO.out (by omega) (by omega) (by omega) (by omega)).mono ?_
  rintro e w2 ⟨rfl, R2, X2⟩
  have HR2 := Lib.hid R2
  have HX2 : Hid (Ext (Only r) w w2) := HX1.out.trans X2 (fun _ _ h => h)
  clear R2 X2
  go_wp2_with fail
  obtain ⟨g, hq⟩ : ∃ g, w2.heap.size = g := ⟨_, rfl⟩
  obtain ⟨w3, hw3⟩ : ∃ W, w2.alloc (.cells #[.slice none 0 0, .slice none 0 0, .int .i64 D.next, .int .i64 D.top] 72) = W := ⟨_, rfl⟩
  have E3 : Hid (Ext Non w2 w3) := by rw [← hw3]; exact (Ext.refl _ _).alloc _
  have B3 : Hid (FdB w3 g (.slice none 0 0) (.slice none 0 0) D.next D.top) := by rw [← hw3, ← hq]; exact blk_new w2 _
  have hgw : w.heap.size ≤ g := by have := HX2.out.size; omega
  have hrg : r ≠ g := by have := HX2.out.size; omega
  have hgl := blk_lt B3.out
  (try rw [hq, hw3])
  have HR3 := Lib.hid (HR2.out.ext0 E3.out)
  have HX3 : Hid (Ext (Only r) w w3) := HX2.out.trans0 E3.out
  clear HR1 HX1 HR2 HX2 E3 hw3 hq
  refine (within_ok (lo := 0) (hi := 32) HR3.out HRO.out (by omega) (by omega) (by omega) (by omega)).mono ?_
  rintro e w4 ⟨rfl, R4, X4⟩
  have HR4 := Lib.hid R4
  have HX4 : Hid (Ext (Only r) w w4) := HX3.out.trans X4 (fun _ _ h => h)
  have B4 : Hid (FdB w4 g (.slice none 0 0) (.slice none 0 0) D.next D.top) := X4.obj B3.out (fun h => by have h' : g = r := h; omega)
  clear R4 X4 HR3 HX3 B3
  go_wp2_with fail
  go_loopw [5, 20] (fun s5 i wr => ∃ (j : Nat) (A3 : Option Addr) (n3 c3 : Nat), s5 = .int .i64 (lastPos (D.evs.take j)) ∧ i = .int .i64 (j : Int) ∧ j ≤ D.evs.length ∧ Hid (Ext (Only r) w wr) ∧ Hid (FdB wr g (.slice A3 n3 c3) (.slice none 0 0) D.next D.top) ∧ Hid (Own evK 43 wr (g + 1) (fun k => w.heap.size ≤ k ∧ k ≠ g) (.slice A3 n3 c3) (D.evs.take j)) ∧ Hid (RAt wr okR r bs ((D.evs.drop j).flatMap evB ++ tail1))) (fun _ i _ => D.evs.length - (intOf i).toNat)
  case atStart => exact ⟨0, none, 0, 0, rfl, rfl, by omega, HX4.out, B4.out, Own.nil _ _ _ _ _, by rw [← HT1.out]; exact HR4.out⟩
  case round =>
    obtain ⟨j, A3, n3, c3, rfl, rfl, hj, HE, BG, HO, HRR⟩ := hrel
    by_cases hlt : j < D.evs.length
    · obtain ⟨e, he⟩ : ∃ e, D.evs[j]? = some e := ⟨_, List.getElem?_eq_getElem hlt⟩
      have hem := List.mem_of_getElem? he
      have hlp := lastPos_le HD.out he
      have hpt := HD.out.fine.ev.top e hem
      have hz := HZ.out e hem
      have hp1 := HD.out.pos e hem
      have HEV := Lib.hid he
      have HDR : Hid (RAt wr okR r bs (evB e ++ ((D.evs.drop (j + 1)).flatMap evB ++ tail1))) := by
        have := HRR.out
        rw [List.drop_eq_getElem_cons hlt, List.flatMap_cons, (List.getElem?_eq_some_iff.1 he).2, List.append_assoc] at this
        exact this
      obtain ⟨p, hp⟩ : ∃ p, lastPos (D.evs.take j) = p := ⟨_, rfl⟩
      rw [hp] at hlp ⊢
      have b3 := BG.out.c3
      clear he hem hp HRR
      rw [evB_more] at HDR
      go_upto_region 5 with fail
      go_cut [6] from 22 to 40 (fun s6 wx => ∃ q, s6 = .pointer (some ⟨q, 0, none⟩) ∧ wr.heap.size ≤ q ∧ Hid (wx.heap[q]? = some (.cells #[.int .i64 e.pos, .string e.key, .bool e.had, .string e.old, .bool e.has, .string e.now] 43 (0, 0))) ∧ Hid (RAt wx okR r bs ((D.evs.drop (j + 1)).flatMap evB ++ tail1)) ∧ Hid (Ext (Only r) wr wx))
      case first =>
        go_wp2_with fail
        all_goals
          refine (within_ok HDR.out HRO.out (by omega) (by omega) (by omega) (by omega)).mono ?_
          rintro e' w5 ⟨rfl, R5, X5⟩
          have HR5 := Lib.hid R5
          have HX5 := Lib.hid X5
          clear R5 X5
          go_wp2_with fail
          refine (text_ok HR5.out HRO.out (by omega) (by omega)).mono ?_
          rintro e' w6 ⟨rfl, R6, X6⟩
          have HR6 := Lib.hid R6
          have HX6 : Hid (Ext (Only r) wr w6) := HX5.out.trans X6 (fun _ _ h => h)
          clear R6 X6
          go_wp2_with fail
          refine (flag_ok HR6.out HRO.out).mono ?_
          rintro e' w7 ⟨rfl, R7, X7⟩
          have HR7 := Lib.hid R7
          have HX7 : Hid (Ext (Only r) wr w7) := HX6.out.trans X7 (fun _ _ h => h)
          clear R7 X7
          go_wp2_with fail
          refine (text_ok HR7.out HRO.out (by omega) (by omega)).mono ?_
          rintro e' w8 ⟨rfl, R8, X8⟩
          have HR8 := Lib.hid R8
          have HX8 : Hid (Ext (Only r) wr w8) := HX7.out.trans X8 (fun _ _ h => h)
          clear R8 X8
          go_wp2_with fail
          refine (flag_ok HR8.out HRO.out).mono ?_
          rintro e' w9 ⟨rfl, R9, X9⟩
          have HR9 := Lib.hid R9
          have HX9 : Hid (Ext (Only r) wr w9) := HX8.out.trans X9 (fun _ _ h => h)
          clear R9 X9
          go_wp2_with fail
          refine (text_ok HR9.out HRO.out (by omega) (by omega)).mono ?_
          rintro e' w10 ⟨rfl, R10, X10⟩
          have HR10 := Lib.hid R10
          have HX10 : Hid (Ext (Only r) wr w10) := HX9.out.trans X10 (fun _ _ h => h)
          clear R10 X10
          go_wp2_with fail
          go_meet
          have ZA : Ext Non w10 (w10.alloc (.cells #[.int .i64 e.pos, .string e.key, .bool e.had, .string e.old, .bool e.has, .string e.now] 43)) := (Ext.refl _ _).alloc _
          exact ⟨_, rfl, HX10.out.size, blk_new w10 _, HR10.out.ext0 ZA, HX10.out.trans0 ZA⟩
      case rest =>
        obtain ⟨q, rfl, hwq, B2, HR2, HX2⟩ := hcut
        obtain ⟨w2, hw2⟩ : ∃ W, W = wc := ⟨_, rfl⟩
        subst hw2
        have hgr := blk_lt BG.out
        have BG2 : Hid (FdB w2 g (.slice A3 n3 c3) (.slice none 0 0) D.next D.top) := HX2.out.obj BG.out (fun h => by have h' : g = r := h; omega)
        have O2 : Hid (Own evK 43 w2 (g + 1) (fun k => w.heap.size ≤ k ∧ k ≠ g) (.slice A3 n3 c3) (D.evs.take j)) := HO.out.ext HX2.out (fun k hk _ h => by have h' : k = r := h; have := hk.1; omega)
        have hM : ∀ k, some k = (Value.slice A3 n3 c3).ownBlock → g + 1 ≤ k ∧ k < wr.heap.size := fun k h => HO.out.base_le k h.symm
        have hsz2 := HX2.out.size
        have hql := blk_lt B2.out
        have hgq : g ≠ q := by omega
        have g0 := BG2.out.c0
        go_upto_region 6 with fail
        refine Last.start_ (S := fun W => W.cell? ⟨q, 0, none⟩ = some (.int .i64 e.pos) ∧ W.cell? ⟨q, 1, none⟩ = some (.string e.key) ∧ W.cell? ⟨q, 2, none⟩ = some (.bool e.had) ∧ W.cell? ⟨q, 3, none⟩ = some (.string e.old) ∧ W.cell? ⟨q, 4, none⟩ = some (.bool e.has) ∧ W.cell? ⟨q, 5, none⟩ = some (.string e.now)) (ds := []) #[false, false, false, false, false, false, false, false, false, false, false, false, false, false] (by kernel_rfl) (by rfl) (by rfl) (gevS (Ext.refl Non _).drew B2.out) (fun hS => ?_)
        refine Last.take_ (i := 0) (N := some 41) (v := .pointer (some ⟨g, 0, none⟩)) #[true, false, false, false, false, false, false, false, false, false, false, false, false, false] (by simp only [List.getElem?_toArray, List.getElem?_cons_zero]; rfl) rfl (by kernel_rfl) (by exact fun _ _ _ h => h) (Or.inl ⟨by rfl, fun W hW => by first | rfl | (try dsimp only at hW); go_simp⟩) hS rfl ?_
        simp only [Act.put, List.setIfInBounds_toArray, List.set_cons_zero, List.set_cons_succ]
        refine Last.take_ (i := 1) (N := some 42) (v := .pointer (some ⟨g, 0, none⟩)) #[true, true, false, false, false, false, false, false, false, false, false, false, false, false] (by simp only [List.getElem?_toArray, List.getElem?_cons_zero, List.getElem?_cons_succ]; rfl) rfl (by kernel_rfl) (by exact fun _ _ _ h => h) (Or.inl ⟨by rfl, fun W hW => by first | rfl | (try dsimp only at hW); go_simp⟩) hS rfl ?_
        simp only [Act.put, List.setIfInBounds_toArray, List.set_cons_zero, List.set_cons_succ]
        refine Last.take_ (i := 2) (N := some 43) (v := .pointer (some ⟨g, 0, none⟩)) #[true, true, true, false, false, false, false, false, false, false, false, false, false, false] (by simp only [List.getElem?_toArray, List.getElem?_cons_zero, List.getElem?_cons_succ]; rfl) rfl (by kernel_rfl) (by exact fun _ _ _ h => h) (Or.inl ⟨by rfl, fun W hW => by first | rfl | (try dsimp only at hW); go_simp⟩) hS rfl ?_
        simp only [Act.put, List.setIfInBounds_toArray, List.set_cons_zero, List.set_cons_succ]
        refine Last.take_ (i := 3) (N := some 44) (v := .pointer (some ⟨g, 0, none⟩)) #[true, true, true, true, false, false, false, false, false, false, false, false, false, false] (by simp only [List.getElem?_toArray, List.getElem?_cons_zero, List.getElem?_cons_succ]; rfl) rfl (by kernel_rfl) (by exact fun _ _ _ h => h) (Or.inl ⟨by rfl, fun W hW => by first | rfl | (try dsimp only at hW); go_simp⟩) hS rfl ?_
        simp only [Act.put, List.setIfInBounds_toArray, List.set_cons_zero, List.set_cons_succ]
        refine Last.take_ (i := 5) (N := some 46) (v := .agg #[.int .i64 e.pos, .string e.key, .bool e.had, .string e.old, .bool e.has, .string e.now]) #[true, true, true, true, false, true, false, false, false, false, false, false, false, false] (by simp only [List.getElem?_toArray, List.getElem?_cons_zero, List.getElem?_cons_succ]; rfl) rfl (by kernel_rfl) (by exact fun _ _ _ h => h) (Or.inl ⟨by rfl, fun W hW => by first | rfl | (try dsimp only at hW); go_simp⟩) hS rfl ?_
        simp only [Act.put, List.setIfInBounds_toArray, List.set_cons_zero, List.set_cons_succ]
        refine Last.take_ (i := 8) (N := some 49) (v := .pointer (some ⟨q, 0, none⟩)) #[true, true, true, true, false, true, false, false, true, false, false, false, false, false] (by simp only [List.getElem?_toArray, List.getElem?_cons_zero, List.getElem?_cons_succ]; rfl) rfl (by kernel_rfl) (by exact fun _ _ _ h => h) (Or.inl ⟨by rfl, fun W hW => by first | rfl | (try dsimp only at hW); go_simp⟩) hS rfl ?_
        simp only [Act.put, List.setIfInBounds_toArray, List.set_cons_zero, List.set_cons_succ]
        refine Last.take_ (i := 9) (N := some 50) (v := .int .i64 e.pos) #[true, true, true, true, false, true, false, false, true, true, false, false, false, false] (by simp only [List.getElem?_toArray, List.getElem?_cons_zero, List.getElem?_cons_succ]; rfl) rfl (by kernel_rfl) (by exact fun _ _ _ h => h) (Or.inl ⟨by rfl, fun W hW => by first | rfl | (try dsimp only at hW); go_simp⟩) hS rfl ?_
        simp only [Act.put, List.setIfInBounds_toArray, List.set_cons_zero, List.set_cons_succ]
        refine Last.two_ (i := 4) (j := 6) (Ni := some 45) (Nj := some 47) #[true, true, true, true, true, true, false, false, true, true, false, false, false, false] #[true, true, true, true, false, true, true, false, true, true, false, false, false, false] (by simp only [List.getElem?_toArray, List.getElem?_cons_zero, List.getElem?_cons_succ]; rfl) (by simp only [List.getElem?_toArray, List.getElem?_cons_zero, List.getElem?_cons_succ]; rfl) rfl rfl (by kernel_rfl) (by decide) (by decide) (fun K hK => ?_) (fun K hK => ?_)
        · go_simp
          refine hK.out _ _ ((gevS (Ext.refl Non _).drew B2.out)) (fun hS => ?_)
          try simp only [Act.put, List.setIfInBounds_toArray, List.set_cons_zero, List.set_cons_succ]
          refine Last.one_ (i := 6) (N := some 47) #[true, true, true, true, true, true, true, false, true, true, false, false, false, false] (by simp only [List.getElem?_toArray, List.getElem?_cons_zero, List.getElem?_cons_succ]; rfl) rfl (by kernel_rfl) (by decide) (fun K hK => ?_)
          go_simp
          refine hK.out _ _ ((gevS ((Ext.refl Non _).drew.alloc _) B2.out)) (fun hS => ?_)
          try simp only [Act.put, List.setIfInBounds_toArray, List.set_cons_zero, List.set_cons_succ]
          refine Last.one_ (i := 7) (N := some 48) #[true, true, true, true, true, true, true, true, true, true, false, false, false, false] (by simp only [List.getElem?_toArray, List.getElem?_cons_zero, List.getElem?_cons_succ]; rfl) rfl (by kernel_rfl) (by decide) (fun K hK => ?_)
          refine step_app evK (ok := (fun k => w.heap.size ≤ k ∧ k ≠ g)) (v := .slice A3 n3 c3) (vx := .slice (some ⟨w2.heap.size, 0, none⟩) 1 1) (xs := D.evs.take j) (ys := [e]) (g + 1) (by rfl) _ _ 34 43 _ 72 (by rfl) Try.underlying34 info43 rfl (by decide) (by simp [Act.eval]) (by simp [Act.eval]) (O2.out.ext0 ((Ext.refl Non w2).drew.alloc _)) ?_ ?_ ?_ ?_ ?_ ?_
          · exact Rd.lit_at (cs := e.cells) (e := 43) (fr := (0, 0)) (blk_new w2.drew _) rfl ⟨⟨by have : w2.drew.heap.size = w2.heap.size := rfl; omega, by have : w2.drew.heap.size = w2.heap.size := rfl; omega⟩, fun h => by have := hM _ h; have : w2.drew.heap.size = w2.heap.size := rfl; omega⟩
          · intro k hk
            have hk' : w2.heap.size + 1 ≤ k := by simpa using hk
            exact ⟨by omega, by omega⟩
          · simp only [List.length_take, List.length_singleton]; omega
          · simp only [List.length_take, List.length_singleton]; omega
          · simp; omega
          intro v' w3 hown hext hblk
          obtain ⟨A6, n6, c6, rfl⟩ : ∃ A n c, v' = .slice A n c := by obtain ⟨A6, c6, h6, _, _⟩ := hown.slice; exact ⟨_, _, _, h6⟩
          have E3 : Hid (Ext (fun k => some k = (Value.slice A3 n3 c3).ownBlock) w2 w3) := Ext.trans ((Ext.refl _ _).drew.alloc _) hext (fun _ _ e => e)
          have O3 := Lib.hid hown
          have hng : ¬ some g = (Value.slice A3 n3 c3).ownBlock := fun h => by have := hM _ h; omega
          have hnq : ¬ some q = (Value.slice A3 n3 c3).ownBlock := fun h => by have := hM _ h; omega
          have BG3 : Hid (FdB w3 g _ _ _ _) := E3.out.obj BG2.out hng
          have BQ3 : Hid (w3.heap[q]? = some (.cells #[.int .i64 e.pos, .string e.key, .bool e.had, .string e.old, .bool e.has, .string e.now] 43 (0, 0))) := E3.out.obj B2.out hnq
          have BQ4 : Hid ((w3.setCell ⟨g, 0, none⟩ (.slice A6 n6 c6)).heap[q]? = some (.cells #[.int .i64 e.pos, .string e.key, .bool e.had, .string e.old, .bool e.has, .string e.now] 43 (0, 0))) := blk_far BQ3.out (by show q ≠ g; omega) _
          have z0 := BG3.out.fz 0
          have y0 := BG3.out.c0
          have hgl3 := blk_lt BG3.out
          clear hown hext hblk
          refine hK.out _ _ (gevS (Ext.refl Non w3) BQ3.out) (fun hS => ?_)
          try simp only [Act.put, List.setIfInBounds_toArray, List.set_cons_zero, List.set_cons_succ]
          refine Last.take_ (i := 10) (N := some 51) (v := .pointer (some ⟨g, 0, none⟩)) #[true, true, true, true, true, true, true, true, true, true, true, false, false, false] (by simp only [List.getElem?_toArray, List.getElem?_cons_zero, List.getElem?_cons_succ]; rfl) rfl (by kernel_rfl) (by exact fun _ _ _ h => h) (Or.inl ⟨by rfl, fun W hW => by first | rfl | (try dsimp only at hW); go_simp⟩) hS rfl ?_
          simp only [Act.put, List.setIfInBounds_toArray, List.set_cons_zero, List.set_cons_succ]
          refine Last.take_ (i := 11) (N := some 52) (v := .pointer (some ⟨g, 0, none⟩)) #[true, true, true, true, true, true, true, true, true, true, true, true, false, false] (by simp only [List.getElem?_toArray, List.getElem?_cons_zero, List.getElem?_cons_succ]; rfl) rfl (by kernel_rfl) (by exact fun _ _ _ h => h) (Or.inl ⟨by rfl, fun W hW => by first | rfl | (try dsimp only at hW); go_simp⟩) hS rfl ?_
          simp only [Act.put, List.setIfInBounds_toArray, List.set_cons_zero, List.set_cons_succ]
          refine Last.one_ (i := 12) (N := none) #[true, true, true, true, true, true, true, true, true, true, true, true, true, false] (by simp only [List.getElem?_toArray, List.getElem?_cons_zero, List.getElem?_cons_succ]; rfl) rfl (by kernel_rfl) (by decide) (fun K hK => ?_)
          go_simp
          refine hK.out _ _ ((gevS (Ext.refl Non _) BQ4.out)) (fun hS => ?_)
          try simp only [Act.put, List.setIfInBounds_toArray, List.set_cons_zero, List.set_cons_succ]
          refine Last.pure_ (i := 13) (N := some 5) (v := .int .i64 e.pos) #[true, true, true, true, true, true, true, true, true, true, true, true, true, true] (by simp only [List.getElem?_toArray, List.getElem?_cons_zero, List.getElem?_cons_succ]; rfl) rfl (by kernel_rfl) (by exact fun _ _ _ h => h) (by first | exact ⟨by rfl, fun W => by first | rfl | (try dsimp only); go_simp⟩ | exact Or.inl ⟨by rfl, fun W => by first | rfl | (try dsimp only); go_simp⟩) rfl ?_
          simp only [Act.put, List.setIfInBounds_toArray, List.set_cons_zero, List.set_cons_succ]
          refine Last.done_ (by kernel_rfl) ?_
          have BG4 : Hid (FdB (w3.setCell ⟨g, 0, none⟩ (.slice A6 n6 c6)) g (.slice A6 n6 c6) (.slice none 0 0) D.next D.top) := blk_set BG3.out 0 _
          have e34 : Ext (Only g) w3 (w3.setCell ⟨g, 0, none⟩ (.slice A6 n6 c6)) := og_set w3 g 0 _
          have O4 : Hid (Own evK 43 (w3.setCell ⟨g, 0, none⟩ (.slice A6 n6 c6)) (g + 1) (fun k => w.heap.size ≤ k ∧ k ≠ g) (.slice A6 n6 c6) (D.evs.take (j + 1))) := by
            have := O3.out.ext e34 (fun k hk _ h => by have h' : k = g := h; exact hk.2 h')
            show Own _ _ _ _ _ _ _
            rw [List.take_succ_eq_append_getElem hlt, (List.getElem?_eq_some_iff.1 HEV.out).2]
            exact this
          have E4 : Hid (Ext (Only r) w (w3.setCell ⟨g, 0, none⟩ (.slice A6 n6 c6))) := by
            exact ((HE.out.trans HX2.out (fun _ _ h => h)).trans E3.out (fun i hi h => by have := hM _ h; omega)).trans e34 (fun i hi h => by have h' : i = g := h; omega)
          have R4 : Hid (RAt (w3.setCell ⟨g, 0, none⟩ (.slice A6 n6 c6)) okR r bs ((D.evs.drop (j + 1)).flatMap evB ++ tail1)) := (HR2.out.ext E3.out (fun k hk _ h => by have := hM _ h; have := HOK.out k hk; omega) (fun h => by have := hM _ h; omega)).ext e34 (fun k hk _ h => by have h' : k = g := h; have := HOK.out k hk; omega) (fun h => by have h' : r = g := h; omega)
          go_wp2_with fail
          go_roundw
          case rel => exact ⟨j + 1, A6, n6, c6, by rw [lastPos_take HEV.out], by go_num, by omega, E4.out, BG4.out, O4.out, R4.out⟩
          case measure => simp [intOf]; omega
        · go_simp
          refine hK.out _ _ ((gevS ((Ext.refl Non _).drew.alloc _) B2.out)) (fun hS => ?_)
          try simp only [Act.put, List.setIfInBounds_toArray, List.set_cons_zero, List.set_cons_succ]
          have ga : (w2.alloc (.cells #[.int .i64 e.pos, .string e.key, .bool e.had, .string e.old, .bool e.has, .string e.now] 43)).drew.cell? ⟨g, 0, none⟩ = _ := ((Ext.refl Non w2).drew.alloc (.cells #[.int .i64 e.pos, .string e.key, .bool e.had, .string e.old, .bool e.has, .string e.now] 43)).cell g0 (fun e => e)
          have gb : (w2.alloc (.cells #[.int .i64 e.pos, .string e.key, .bool e.had, .string e.old, .bool e.has, .string e.now] 43)).cell? ⟨g, 0, none⟩ = _ := ga
          refine Last.one_ (i := 4) (N := some 45) #[true, true, true, true, true, true, true, false, true, true, false, false, false, false] (by simp only [List.getElem?_toArray, List.getElem?_cons_zero, List.getElem?_cons_succ]; rfl) rfl (by kernel_rfl) (by decide) (fun K hK => ?_)
          go_simp
          refine hK.out _ _ ((gevS ((Ext.refl Non _).drew.alloc _) B2.out)) (fun hS => ?_)
          try simp only [Act.put, List.setIfInBounds_toArray, List.set_cons_zero, List.set_cons_succ]
          refine Last.one_ (i := 7) (N := some 48) #[true, true, true, true, true, true, true, true, true, true, false, false, false, false] (by simp only [List.getElem?_toArray, List.getElem?_cons_zero, List.getElem?_cons_succ]; rfl) rfl (by kernel_rfl) (by decide) (fun K hK => ?_)
          refine step_app evK (ok := (fun k => w.heap.size ≤ k ∧ k ≠ g)) (v := .slice A3 n3 c3) (vx := .slice (some ⟨w2.heap.size, 0, none⟩) 1 1) (xs := D.evs.take j) (ys := [e]) (g + 1) (by rfl) _ _ 34 43 _ 72 (by rfl) Try.underlying34 info43 rfl (by decide) (by simp [Act.eval]) (by simp [Act.eval]) (O2.out.ext0 ((Ext.refl Non w2).drew.alloc _)) ?_ ?_ ?_ ?_ ?_ ?_
          · exact Rd.lit_at (cs := e.cells) (e := 43) (fr := (0, 0)) (blk_new w2.drew _) rfl ⟨⟨by have : w2.drew.heap.size = w2.heap.size := rfl; omega, by have : w2.drew.heap.size = w2.heap.size := rfl; omega⟩, fun h => by have := hM _ h; have : w2.drew.heap.size = w2.heap.size := rfl; omega⟩
          · intro k hk
            have hk' : w2.heap.size + 1 ≤ k := by simpa using hk
            exact ⟨by omega, by omega⟩
          · simp only [List.length_take, List.length_singleton]; omega
          · simp only [List.length_take, List.length_singleton]; omega
          · simp; omega
          intro v' w3 hown hext hblk
          obtain ⟨A6, n6, c6, rfl⟩ : ∃ A n c, v' = .slice A n c := by obtain ⟨A6, c6, h6, _, _⟩ := hown.slice; exact ⟨_, _, _, h6⟩
          have E3 : Hid (Ext (fun k => some k = (Value.slice A3 n3 c3).ownBlock) w2 w3) := Ext.trans ((Ext.refl _ _).drew.alloc _) hext (fun _ _ e => e)
          have O3 := Lib.hid hown
          have hng : ¬ some g = (Value.slice A3 n3 c3).ownBlock := fun h => by have := hM _ h; omega
          have hnq : ¬ some q = (Value.slice A3 n3 c3).ownBlock := fun h => by have := hM _ h; omega
          have BG3 : Hid (FdB w3 g _ _ _ _) := E3.out.obj BG2.out hng
          have BQ3 : Hid (w3.heap[q]? = some (.cells #[.int .i64 e.pos, .string e.key, .bool e.had, .string e.old, .bool e.has, .string e.now] 43 (0, 0))) := E3.out.obj B2.out hnq
          have BQ4 : Hid ((w3.setCell ⟨g, 0, none⟩ (.slice A6 n6 c6)).heap[q]? = some (.cells #[.int .i64 e.pos, .string e.key, .bool e.had, .string e.old, .bool e.has, .string e.now] 43 (0, 0))) := blk_far BQ3.out (by show q ≠ g; omega) _
          have z0 := BG3.out.fz 0
          have y0 := BG3.out.c0
          have hgl3 := blk_lt BG3.out
          clear hown hext hblk
          refine hK.out _ _ (gevS (Ext.refl Non w3) BQ3.out) (fun hS => ?_)
          try simp only [Act.put, List.setIfInBounds_toArray, List.set_cons_zero, List.set_cons_succ]
          refine Last.take_ (i := 10) (N := some 51) (v := .pointer (some ⟨g, 0, none⟩)) #[true, true, true, true, true, true, true, true, true, true, true, false, false, false] (by simp only [List.getElem?_toArray, List.getElem?_cons_zero, List.getElem?_cons_succ]; rfl) rfl (by kernel_rfl) (by exact fun _ _ _ h => h) (Or.inl ⟨by rfl, fun W hW => by first | rfl | (try dsimp only at hW); go_simp⟩) hS rfl ?_
          simp only [Act.put, List.setIfInBounds_toArray, List.set_cons_zero, List.set_cons_succ]
          refine Last.take_ (i := 11) (N := some 52) (v := .pointer (some ⟨g, 0, none⟩)) #[true, true, true, true, true, true, true, true, true, true, true, true, false, false] (by simp only [List.getElem?_toArray, List.getElem?_cons_zero, List.getElem?_cons_succ]; rfl) rfl (by kernel_rfl) (by exact fun _ _ _ h => h) (Or.inl ⟨by rfl, fun W hW => by first | rfl | (try dsimp only at hW); go_simp⟩) hS rfl ?_
          simp only [Act.put, List.setIfInBounds_toArray, List.set_cons_zero, List.set_cons_succ]
          refine Last.one_ (i := 12) (N := none) #[true, true, true, true, true, true, true, true, true, true, true, true, true, false] (by simp only [List.getElem?_toArray, List.getElem?_cons_zero, List.getElem?_cons_succ]; rfl) rfl (by kernel_rfl) (by decide) (fun K hK => ?_)
          go_simp
          refine hK.out _ _ ((gevS (Ext.refl Non _) BQ4.out)) (fun hS => ?_)
          try simp only [Act.put, List.setIfInBounds_toArray, List.set_cons_zero, List.set_cons_succ]
          refine Last.pure_ (i := 13) (N := some 5) (v := .int .i64 e.pos) #[true, true, true, true, true, true, true, true, true, true, true, true, true, true] (by simp only [List.getElem?_toArray, List.getElem?_cons_zero, List.getElem?_cons_succ]; rfl) rfl (by kernel_rfl) (by exact fun _ _ _ h => h) (by first | exact ⟨by rfl, fun W => by first | rfl | (try dsimp only); go_simp⟩ | exact Or.inl ⟨by rfl, fun W => by first | rfl | (try dsimp only); go_simp⟩) rfl ?_
          simp only [Act.put, List.setIfInBounds_toArray, List.set_cons_zero, List.set_cons_succ]
          refine Last.done_ (by kernel_rfl) ?_
          have BG4 : Hid (FdB (w3.setCell ⟨g, 0, none⟩ (.slice A6 n6 c6)) g (.slice A6 n6 c6) (.slice none 0 0) D.next D.top) := blk_set BG3.out 0 _
          have e34 : Ext (Only g) w3 (w3.setCell ⟨g, 0, none⟩ (.slice A6 n6 c6)) := og_set w3 g 0 _
          have O4 : Hid (Own evK 43 (w3.setCell ⟨g, 0, none⟩ (.slice A6 n6 c6)) (g + 1) (fun k => w.heap.size ≤ k ∧ k ≠ g) (.slice A6 n6 c6) (D.evs.take (j + 1))) := by
            have := O3.out.ext e34 (fun k hk _ h => by have h' : k = g := h; exact hk.2 h')
            show Own _ _ _ _ _ _ _
            rw [List.take_succ_eq_append_getElem hlt, (List.getElem?_eq_some_iff.1 HEV.out).2]
            exact this
          have E4 : Hid (Ext (Only r) w (w3.setCell ⟨g, 0, none⟩ (.slice A6 n6 c6))) := by
            exact ((HE.out.trans HX2.out (fun _ _ h => h)).trans E3.out (fun i hi h => by have := hM _ h; omega)).trans e34 (fun i hi h => by have h' : i = g := h; omega)
          have R4 : Hid (RAt (w3.setCell ⟨g, 0, none⟩ (.slice A6 n6 c6)) okR r bs ((D.evs.drop (j + 1)).flatMap evB ++ tail1)) := (HR2.out.ext E3.out (fun k hk _ h => by have := hM _ h; have := HOK.out k hk; omega) (fun h => by have := hM _ h; omega)).ext e34 (fun k hk _ h => by have h' : k = g := h; have := HOK.out k hk; omega) (fun h => by have h' : r = g := h; omega)
          go_wp2_with fail
          go_roundw
          case rel => exact ⟨j + 1, A6, n6, c6, by rw [lastPos_take HEV.out], by go_num, by omega, E4.out, BG4.out, O4.out, R4.out⟩
          case measure => simp [intOf]; omega
    · obtain rfl : j = D.evs.length := by omega
      have HRT : Hid (RAt wr okR r bs (numI D.subs.length ++ (D.subs.flatMap (sbB n) ++ rest))) := by
        have := HRR.out
        rw [List.drop_length, ← HT1.out] at this
        exact this
      have OE : Hid (Rd evK wr (fun k => w.heap.size ≤ k ∧ k ≠ g) (.slice A3 n3 c3) D.evs) := by
        have := HO.out.rd
        rw [List.take_length] at this
        exact this
      clear HRR HO
      go_wp2_with fail
      refine (within_ok (lo := 0) (hi := 4) HRT.out HRO.out (by omega) (by omega) (by omega) (by omega)).mono ?_
      rintro e w5 ⟨rfl, R5, X5⟩
      have HR5 := Lib.hid R5
      have HX5 : Hid (Ext (Only r) w w5) := HE.out.trans X5 (fun _ _ h => h)
      have B5 : Hid (FdB w5 g (.slice A3 n3 c3) (.slice none 0 0) D.next D.top) := X5.obj BG.out (fun h => by have h' : g = r := h; omega)
      have OE5 : Hid (Rd evK w5 (fun k => (w.heap.size ≤ k ∧ k ≠ g) ∧ k < w5.heap.size) (.slice A3 n3 c3) D.evs) := (OE.out.ext X5 (fun k hk _ h => by have h' : k = r := h; have := hk.1; omega)).bound
      have hgl5 := blk_lt B5.out
      clear R5 X5 HRT OE HE BG
      go_wp2_with fail
      go_loopw [7, 56] (fun s7 i wq => ∃ (j : Nat) (A4 : Option Addr) (n4 c4 : Nat), s7 = .int .i64 (lastId (D.subs.take j)) ∧ i = .int .i64 (j : Int) ∧ j ≤ D.subs.length ∧ Hid (Ext (Only r) w wq) ∧ Hid (w5.heap.size ≤ wq.heap.size) ∧ Hid (FdB wq g (.slice A3 n3 c3) (.slice A4 n4 c4) D.next D.top) ∧ Hid (Rd evK wq (fun k => (w.heap.size ≤ k ∧ k ≠ g) ∧ k < w5.heap.size) (.slice A3 n3 c3) D.evs) ∧ Hid (Own (sbK n) 64 wq w5.heap.size (fun k => w.heap.size ≤ k ∧ k ≠ g) (.slice A4 n4 c4) (D.subs.take j)) ∧ Hid (RAt wq okR r bs ((D.subs.drop j).flatMap (sbB n) ++ rest))) (fun _ i _ => D.subs.length - (intOf i).toNat)
      case atStart => exact ⟨0, none, 0, 0, rfl, rfl, by omega, HX5.out, Nat.le_refl _, B5.out, OE5.out, Own.nil _ _ _ _ _, HR5.out⟩
      case round =>
        obtain ⟨j, A4, n4, c4, rfl, rfl, hj, HE, HZ5, BG, HEV, HO, HRR⟩ := hrel
        obtain ⟨wq, hwq⟩ : ∃ W, W = wr := ⟨_, rfl⟩
        subst hwq
        by_cases hlt : j < D.subs.length
        · obtain ⟨s, hs⟩ : ∃ s, D.subs[j]? = some s := ⟨_, List.getElem?_eq_getElem hlt⟩
          have hsm := List.mem_of_getElem? hs
          have hlp := lastId_lt HD.out hs
          have hcu := HD.out.fine.ord.cur s hsm
          have hOL := Lib.hid (HD.out.fine.good.okL s hsm)
          have hCH := Lib.hid (HD.out.fine.good.q s hsm).2.2
          have HSX := Lib.hid hs
          have HDR : Hid (RAt wq okR r bs (sbB n s ++ ((D.subs.drop (j + 1)).flatMap (sbB n) ++ rest))) := by
            have := HRR.out
            rw [List.drop_eq_getElem_cons hlt, List.flatMap_cons, (List.getElem?_eq_some_iff.1 hs).2, List.append_assoc] at this
            exact this
          obtain ⟨p, hp⟩ : ∃ p, lastId (D.subs.take j) = p := ⟨_, rfl⟩
          rw [hp] at hlp ⊢
          have hz5 := HZ5.out
          have hwp : IntKind.i64.wrap (p + 1) = p + 1 := by rw [Last.i64_w]; unfold Go.RowKit.wrap64; omega
          clear hs hsm hp HRR
          rw [sbB_more hCH.out] at HDR
          go_upto_region 11 with fail
          go_cut [8] from 58 to 76 (fun s8 wx => ∃ q, s8 = .pointer (some ⟨q, 0, none⟩) ∧ wq.heap.size ≤ q ∧ Hid (wx.heap[q]? = some (.cells #[.int .i64 s.id, .int .i64 s.fr, .int .i64 s.at_, .int .i64 0, .string ⟨#[]⟩, .string ⟨#[]⟩, .slice none 0 0, .bool s.gone] 64 (0, 0))) ∧ Hid (RAt wx okR r bs (encF (n + 1) s.q ++ ((D.subs.drop (j + 1)).flatMap (sbB n) ++ rest))) ∧ Hid (Ext (Only r) wq wx))
          case first =>
            refine Last.start_ (S := fun W => W.cell? ⟨g, 3, none⟩ = some (.int .i64 D.top)) (ds := []) #[false, false, false, false, false, false, false, false, false, false, false, false, false, false, false, false, false, false, false, false, false] (by kernel_rfl) (by rfl) (by rfl) (gtop (Ext.refl Non _).drew BG.out) (fun hS => ?_)
            refine Last.take_ (i := 0) (N := some 58) (v := .pointer (some ⟨r, 0, none⟩)) #[true, false, false, false, false, false, false, false, false, false, false, false, false, false, false, false, false, false, false, false, false] (by simp only [List.getElem?_toArray, List.getElem?_cons_zero]; rfl) rfl (by kernel_rfl) (by exact fun _ _ _ h => h) (Or.inl ⟨by rfl, fun W hW => by first | rfl | (try dsimp only at hW); go_simp⟩) hS rfl ?_
            simp only [Act.put, List.setIfInBounds_toArray, List.set_cons_zero, List.set_cons_succ]
            refine Last.take_ (i := 1) (N := some 59) (v := .int .i64 p) #[true, true, false, false, false, false, false, false, false, false, false, false, false, false, false, false, false, false, false, false, false] (by simp only [List.getElem?_toArray, List.getElem?_cons_zero, List.getElem?_cons_succ]; rfl) rfl (by kernel_rfl) (by exact fun _ _ _ h => h) (Or.inl ⟨by rfl, fun W hW => by first | rfl | (try dsimp only at hW); go_simp⟩) hS rfl ?_
            simp only [Act.put, List.setIfInBounds_toArray, List.set_cons_zero, List.set_cons_succ]
            refine Last.take_ (i := 2) (N := some  60) (v := .int .i64 (p + 1)) #[true, true, true, false, false, false, false, false, false, false, false, false, false, false, false, false, false, false, false, false, false] (by simp only [List.getElem?_toArray, List.getElem?_cons_zero, List.getElem?_cons_succ]; rfl) rfl (by kernel_rfl) (by exact fun _ _ _ h => h) (Or.inl ⟨by rfl, fun W hW => by first | rfl | (try dsimp only at hW); go_simp; try exact hwp⟩) hS rfl ?_
            simp only [Act.put, List.setIfInBounds_toArray, List.set_cons_zero, List.set_cons_succ]
            refine Last.take_ (i := 4) (N := some 62) (v := .pointer (some ⟨r, 0, none⟩)) #[true, true, true, false, true, false, false, false, false, false, false, false, false, false, false, false, false, false, false, false, false] (by simp only [List.getElem?_toArray, List.getElem?_cons_zero, List.getElem?_cons_succ]; rfl) rfl (by kernel_rfl) (by exact fun _ _ _ h => h) (Or.inl ⟨by rfl, fun W hW => by first | rfl | (try dsimp only at hW); go_simp⟩) hS rfl ?_
            simp only [Act.put, List.setIfInBounds_toArray, List.set_cons_zero, List.set_cons_succ]
            refine Last.take_ (i := 5) (N := some 63) (v := .pointer (some ⟨g, 0, none⟩)) #[true, true, true, false, true, true, false, false, false, false, false, false, false, false, false, false, false, false, false, false, false] (by simp only [List.getElem?_toArray, List.getElem?_cons_zero, List.getElem?_cons_succ]; rfl) rfl (by kernel_rfl) (by exact fun _ _ _ h => h) (Or.inl ⟨by rfl, fun W hW => by first | rfl | (try dsimp only at hW); go_simp⟩) hS rfl ?_
            simp only [Act.put, List.setIfInBounds_toArray, List.set_cons_zero, List.set_cons_succ]
            refine Last.take_ (i := 6) (N := some 64) (v := .pointer (some ⟨g, 0, none⟩)) #[true, true, true, false, true, true, true, false, false, false, false, false, false, false, false, false, false, false, false, false, false] (by simp only [List.getElem?_toArray, List.getElem?_cons_zero, List.getElem?_cons_succ]; rfl) rfl (by kernel_rfl) (by exact fun _ _ _ h => h) (Or.inl ⟨by rfl, fun W hW => by first | rfl | (try dsimp only at hW); go_simp⟩) hS rfl ?_
            simp only [Act.put, List.setIfInBounds_toArray, List.set_cons_zero, List.set_cons_succ]
            refine Last.take_ (i := 7) (N := some 65) (v := .pointer (some ⟨g, 3, none⟩)) #[true, true, true, false, true, true, true, true, false, false, false, false, false, false, false, false, false, false, false, false, false] (by simp only [List.getElem?_toArray, List.getElem?_cons_zero, List.getElem?_cons_succ]; rfl) rfl (by kernel_rfl) (by exact fun _ _ _ h => h) (Or.inl ⟨by rfl, fun W hW => by first | rfl | (try dsimp only at hW); go_simp⟩) hS rfl ?_
            simp only [Act.put, List.setIfInBounds_toArray, List.set_cons_zero, List.set_cons_succ]
            refine Last.take_ (i := 8) (N := some 66) (v := .int .i64 D.top) #[true, true, true, false, true, true, true, true, true, false, false, false, false, false, false, false, false, false, false, false, false] (by simp only [List.getElem?_toArray, List.getElem?_cons_zero, List.getElem?_cons_succ]; rfl) rfl (by kernel_rfl) (by exact fun _ _ _ h => h) (Or.inl ⟨by rfl, fun W hW => by first | rfl | (try dsimp only at hW); go_simp⟩) hS rfl ?_
            simp only [Act.put, List.setIfInBounds_toArray, List.set_cons_zero, List.set_cons_succ]
            refine Last.take_ (i := 10) (N := some 68) (v := .pointer (some ⟨r, 0, none⟩)) #[true, true, true, false, true, true, true, true, true, false, true, false, false, false, false, false, false, false, false, false, false] (by simp only [List.getElem?_toArray, List.getElem?_cons_zero, List.getElem?_cons_succ]; rfl) rfl (by kernel_rfl) (by exact fun _ _ _ h => h) (Or.inl ⟨by rfl, fun W hW => by first | rfl | (try dsimp only at hW); go_simp⟩) hS rfl ?_
            simp only [Act.put, List.setIfInBounds_toArray, List.set_cons_zero, List.set_cons_succ]
            refine Last.take_ (i := 11) (N := some 69) (v := .pointer (some ⟨g, 0, none⟩)) #[true, true, true, false, true, true, true, true, true, false, true, true, false, false, false, false, false, false, false, false, false] (by simp only [List.getElem?_toArray, List.getElem?_cons_zero, List.getElem?_cons_succ]; rfl) rfl (by kernel_rfl) (by exact fun _ _ _ h => h) (Or.inl ⟨by rfl, fun W hW => by first | rfl | (try dsimp only at hW); go_simp⟩) hS rfl ?_
            simp only [Act.put, List.setIfInBounds_toArray, List.set_cons_zero, List.set_cons_succ]
            refine Last.take_ (i := 12) (N := some 70) (v := .pointer (some ⟨g, 0, none⟩)) #[true, true, true, false, true, true, true, true, true, false, true, true, true, false, false, false, false, false, false, false, false] (by simp only [List.getElem?_toArray, List.getElem?_cons_zero, List.getElem?_cons_succ]; rfl) rfl (by kernel_rfl) (by exact fun _ _ _ h => h) (Or.inl ⟨by rfl, fun W hW => by first | rfl | (try dsimp only at hW); go_simp⟩) hS rfl ?_
            simp only [Act.put, List.setIfInBounds_toArray, List.set_cons_zero, List.set_cons_succ]
            refine Last.take_ (i := 13) (N := some 71) (v := .pointer (some ⟨g, 3, none⟩)) #[true, true, true, false, true, true, true, true, true, false, true, true, true, true, false, false, false, false, false, false, false] (by simp only [List.getElem?_toArray, List.getElem?_cons_zero, List.getElem?_cons_succ]; rfl) rfl (by kernel_rfl) (by exact fun _ _ _ h => h) (Or.inl ⟨by rfl, fun W hW => by first | rfl | (try dsimp only at hW); go_simp⟩) hS rfl ?_
            simp only [Act.put, List.setIfInBounds_toArray, List.set_cons_zero, List.set_cons_succ]
            refine Last.take_ (i := 14) (N := some 72) (v := .int .i64 D.top) #[true, true, true, false, true, true, true, true, true, false, true, true, true, true, true, false, false, false, false, false, false] (by simp only [List.getElem?_toArray, List.getElem?_cons_zero, List.getElem?_cons_succ]; rfl) rfl (by kernel_rfl) (by exact fun _ _ _ h => h) (Or.inl ⟨by rfl, fun W hW => by first | rfl | (try dsimp only at hW); go_simp⟩) hS rfl ?_
            simp only [Act.put, List.setIfInBounds_toArray, List.set_cons_zero, List.set_cons_succ]
            refine Last.take_ (i := 16) (N := some 74) (v := .pointer (some ⟨r, 0, none⟩)) #[true, true, true, false, true, true, true, true, true, false, true, true, true, true, true, false, true, false, false, false, false] (by simp only [List.getElem?_toArray, List.getElem?_cons_zero, List.getElem?_cons_succ]; rfl) rfl (by kernel_rfl) (by exact fun _ _ _ h => h) (Or.inl ⟨by rfl, fun W hW => by first | rfl | (try dsimp only at hW); go_simp⟩) hS rfl ?_
            simp only [Act.put, List.setIfInBounds_toArray, List.set_cons_zero, List.set_cons_succ]
            have U0 : Hid (Ext (Only r) wq wq.drew) := (Ext.refl (Only r) _).drew
            have G0 : Hid (FdB wq.drew g (.slice A3 n3 c3) (.slice A4 n4 c4) D.next D.top) := BG.out
            have T0 : Hid (RAt wq.drew okR r bs (numI s.id ++ (numI s.fr ++ (numI s.at_ ++ (numB (flagN s.gone) ++ (encF (n + 1) s.q ++ ((D.subs.drop (j + 1)).flatMap (sbB n) ++ rest))))))) := HDR.out
            refine Last.two_ (i := 3) (j := 19) (Ni := some 61) (Nj := some 8) #[true, true, true, true, true, true, true, true, true, false, true, true, true, true, true, false, true, false, false, false, false] #[true, true, true, false, true, true, true, true, true, false, true, true, true, true, true, false, true, false, false, true, false] (by simp only [List.getElem?_toArray, List.getElem?_cons_zero, List.getElem?_cons_succ]; rfl) (by simp only [List.getElem?_toArray, List.getElem?_cons_zero, List.getElem?_cons_succ]; rfl) rfl rfl (by kernel_rfl) (by decide) (by decide) (fun K hK => ?_) (fun K hK => ?_)
            · refine Last.goes_ Try.func72 (by kernel_rfl) rfl #[.pointer (some ⟨r, 0, none⟩), .int .i64 (p + 1), .int .i64 1099511627776] (by rfl) rfl rfl (by simp [Act.eval]) ?_
              refine (within_ok T0.out HRO.out (by omega) (by omega) (by omega) (by omega)).mono ?_
              rintro e' w0c ⟨rfl, R1, X1⟩
              have T0c := Lib.hid R1
              have U0c : Hid (Ext (Only r) wq w0c) := U0.out.trans X1 (fun _ _ h => h)
              have G0c : Hid (FdB w0c g (.slice A3 n3 c3) (.slice A4 n4 c4) D.next D.top) := X1.obj G0.out (fun h => by have h' : g = r := h; omega)
              clear R1 X1
              refine ⟨_, rfl, ?_⟩
              refine hK.out _ _ (gtop (Ext.refl Non _) G0c.out) (fun hS => ?_)
              try simp only [Act.put, List.setIfInBounds_toArray, List.set_cons_zero, List.set_cons_succ]
              refine Last.two_ (i := 9) (j := 19) (Ni := some 67) (Nj := some 8) #[true, true, true, true, true, true, true, true, true, true, true, true, true, true, true, false, true, false, false, false, false] #[true, true, true, true, true, true, true, true, true, false, true, true, true, true, true, false, true, false, false, true, false] (by simp only [List.getElem?_toArray, List.getElem?_cons_zero, List.getElem?_cons_succ]; rfl) (by simp only [List.getElem?_toArray, List.getElem?_cons_zero, List.getElem?_cons_succ]; rfl) rfl rfl (by kernel_rfl) (by decide) (by decide) (fun K hK => ?_) (fun K hK => ?_)
              · refine Last.goes_ Try.func72 (by kernel_rfl) rfl #[.pointer (some ⟨r, 0, none⟩), .int .i64 0, .int .i64 D.top] (by rfl) rfl rfl (by simp [Act.eval]) ?_
                refine (within_ok T0c.out HRO.out (by omega) (by omega) (by omega) (by omega)).mono ?_
                rintro e' w0cc ⟨rfl, R1, X1⟩
                have T0cc := Lib.hid R1
                have U0cc : Hid (Ext (Only r) wq w0cc) := U0c.out.trans X1 (fun _ _ h => h)
                have G0cc : Hid (FdB w0cc g (.slice A3 n3 c3) (.slice A4 n4 c4) D.next D.top) := X1.obj G0c.out (fun h => by have h' : g = r := h; omega)
                clear R1 X1
                refine ⟨_, rfl, ?_⟩
                refine hK.out _ _ (gtop (Ext.refl Non _) G0cc.out) (fun hS => ?_)
                try simp only [Act.put, List.setIfInBounds_toArray, List.set_cons_zero, List.set_cons_succ]
                refine Last.two_ (i := 15) (j := 19) (Ni := some 73) (Nj := some 8) #[true, true, true, true, true, true, true, true, true, true, true, true, true, true, true, true, true, false, false, false, false] #[true, true, true, true, true, true, true, true, true, true, true, true, true, true, true, false, true, false, false, true, false] (by simp only [List.getElem?_toArray, List.getElem?_cons_zero, List.getElem?_cons_succ]; rfl) (by simp only [List.getElem?_toArray, List.getElem?_cons_zero, List.getElem?_cons_succ]; rfl) rfl rfl (by kernel_rfl) (by decide) (by decide) (fun K hK => ?_) (fun K hK => ?_)
                · refine Last.goes_ Try.func72 (by kernel_rfl) rfl #[.pointer (some ⟨r, 0, none⟩), .int .i64 0, .int .i64 D.top] (by rfl) rfl rfl (by simp [Act.eval]) ?_
                  refine (within_ok T0cc.out HRO.out (by omega) (by omega) (by omega) (by omega)).mono ?_
                  rintro e' w0ccc ⟨rfl, R1, X1⟩
                  have T0ccc := Lib.hid R1
                  have U0ccc : Hid (Ext (Only r) wq w0ccc) := U0cc.out.trans X1 (fun _ _ h => h)
                  have G0ccc : Hid (FdB w0ccc g (.slice A3 n3 c3) (.slice A4 n4 c4) D.next D.top) := X1.obj G0cc.out (fun h => by have h' : g = r := h; omega)
                  clear R1 X1
                  refine ⟨_, rfl, ?_⟩
                  refine hK.out _ _ (gtop (Ext.refl Non _) G0ccc.out) (fun hS => ?_)
                  try simp only [Act.put, List.setIfInBounds_toArray, List.set_cons_zero, List.set_cons_succ]
                  refine Last.two_ (i := 17) (j := 19) (Ni := some 75) (Nj := some 8) #[true, true, true, true, true, true, true, true, true, true, true, true, true, true, true, true, true, true, false, false, false] #[true, true, true, true, true, true, true, true, true, true, true, true, true, true, true, true, true, false, false, true, false] (by simp only [List.getElem?_toArray, List.getElem?_cons_zero, List.getElem?_cons_succ]; rfl) (by simp only [List.getElem?_toArray, List.getElem?_cons_zero, List.getElem?_cons_succ]; rfl) rfl rfl (by kernel_rfl) (by decide) (by decide) (fun K hK => ?_) (fun K hK => ?_)
                  · refine Last.goes_ Try.func74 (by kernel_rfl) rfl #[.pointer (some ⟨r, 0, none⟩)] (by rfl) rfl rfl (by simp [Act.eval]) ?_
                    refine (flag_ok T0ccc.out HRO.out ).mono ?_
                    rintro e' w0cccc ⟨rfl, R1, X1⟩
                    have T0cccc := Lib.hid R1
                    have U0cccc : Hid (Ext (Only r) wq w0cccc) := U0ccc.out.trans X1 (fun _ _ h => h)
                    have G0cccc : Hid (FdB w0cccc g (.slice A3 n3 c3) (.slice A4 n4 c4) D.next D.top) := X1.obj G0ccc.out (fun h => by have h' : g = r := h; omega)
                    clear R1 X1
                    refine ⟨_, rfl, ?_⟩
                    refine hK.out _ _ (gtop (Ext.refl Non _) G0cccc.out) (fun hS => ?_)
                    try simp only [Act.put, List.setIfInBounds_toArray, List.set_cons_zero, List.set_cons_succ]
                    refine Last.take_ (i := 18) (N := some 76) (v := .agg #[.int .i64 s.id, .int .i64 s.fr, .int .i64 s.at_, .int .i64 0, .string ⟨#[]⟩, .string ⟨#[]⟩, .slice none 0 0, .bool s.gone]) #[true, true, true, true, true, true, true, true, true, true, true, true, true, true, true, true, true, true, true, false, false] (by simp only [List.getElem?_toArray, List.getElem?_cons_zero, List.getElem?_cons_succ]; rfl) rfl (by kernel_rfl) (by exact fun _ _ _ h => h) (Or.inl ⟨by rfl, fun W hW => by first | rfl | (try dsimp only at hW); go_simp⟩) hS rfl ?_
                    simp only [Act.put, List.setIfInBounds_toArray, List.set_cons_zero, List.set_cons_succ]
                    refine Last.one_ (i := 19) (N := some 8) #[true, true, true, true, true, true, true, true, true, true, true, true, true, true, true, true, true, true, true, true, false] (by simp only [List.getElem?_toArray, List.getElem?_cons_zero, List.getElem?_cons_succ]; rfl) rfl (by kernel_rfl) (by decide) (fun K hK => ?_)
                    go_simp
                    obtain ⟨q, hq⟩ : ∃ q, w0cccc.heap.size = q := ⟨_, rfl⟩
                    obtain ⟨w0cccca, hw⟩ : ∃ W, w0cccc.alloc (.cells #[.int .i64 0, .int .i64 0, .int .i64 0, .int .i64 0, .string ⟨#[]⟩, .string ⟨#[]⟩, .slice none 0 0, .bool false] 64) = W := ⟨_, rfl⟩
                    have E1 : Ext Non w0cccc w0cccca := by rw [← hw]; exact (Ext.refl _ _).alloc _
                    have Q0cccca : Hid (w0cccca.heap[q]? = some (.cells #[.int .i64 0, .int .i64 0, .int .i64 0, .int .i64 0, .string ⟨#[]⟩, .string ⟨#[]⟩, .slice none 0 0, .bool false] 64 (0, 0))) := by rw [← hw, ← hq]; exact blk_new _ _
                    have T0cccca := Lib.hid (T0cccc.out.ext0 E1)
                    have U0cccca : Hid (Ext (Only r) wq w0cccca) := U0cccc.out.trans0 E1
                    have G0cccca : Hid (FdB w0cccca g (.slice A3 n3 c3) (.slice A4 n4 c4) D.next D.top) := E1.obj G0cccc.out (fun e => e)
                    have hwq : wq.heap.size ≤ q := by have := U0cccc.out.size; omega
                    have hqr : q ≠ r := by omega
                    have hqg : q ≠ g := by omega
                    (try rw [hq, hw])
                    clear hq hw E1
                    refine hK.out _ _ (gtop (Ext.refl Non _) G0cccca.out) (fun hS => ?_)
                    try simp only [Act.put, List.setIfInBounds_toArray, List.set_cons_zero, List.set_cons_succ]
                    have hql := blk_lt Q0cccca.out
                    have qc0 := blk_cell Q0cccca.out 0
                    have qf0 := blk_frozen Q0cccca.out 0
                    have qc1 := blk_cell Q0cccca.out 1
                    have qf1 := blk_frozen Q0cccca.out 1
                    have qc2 := blk_cell Q0cccca.out 2
                    have qf2 := blk_frozen Q0cccca.out 2
                    have qc3 := blk_cell Q0cccca.out 3
                    have qf3 := blk_frozen Q0cccca.out 3
                    have qc4 := blk_cell Q0cccca.out 4
                    have qf4 := blk_frozen Q0cccca.out 4
                    have qc5 := blk_cell Q0cccca.out 5
                    have qf5 := blk_frozen Q0cccca.out 5
                    have qc6 := blk_cell Q0cccca.out 6
                    have qf6 := blk_frozen Q0cccca.out 6
                    have qc7 := blk_cell Q0cccca.out 7
                    have qf7 := blk_frozen Q0cccca.out 7
                    refine Last.one_ (i := 20) (N := none) #[true, true, true, true, true, true, true, true, true, true, true, true, true, true, true, true, true, true, true, true, true] (by simp only [List.getElem?_toArray, List.getElem?_cons_zero, List.getElem?_cons_succ]; rfl) rfl (by kernel_rfl) (by decide) (fun K hK => ?_)
                    go_simp
                    obtain ⟨wf, hwf⟩ : ∃ W, ((((((((w0cccca.setCell ⟨q, 0, none⟩ (.int .i64 s.id)).setCell ⟨q, 1, none⟩ (.int .i64 s.fr)).setCell ⟨q, 2, none⟩ (.int .i64 s.at_)).setCell ⟨q, 3, none⟩ (.int .i64 0)).setCell ⟨q, 4, none⟩ (.string ⟨#[]⟩)).setCell ⟨q, 5, none⟩ (.string ⟨#[]⟩)).setCell ⟨q, 6, none⟩ (.slice none 0 0)).setCell ⟨q, 7, none⟩ (.bool s.gone)) = W := ⟨_, rfl⟩
                    have QF : Hid (wf.heap[q]? = some (.cells #[.int .i64 s.id, .int .i64 s.fr, .int .i64 s.at_, .int .i64 0, .string ⟨#[]⟩, .string ⟨#[]⟩, .slice none 0 0, .bool s.gone] 64 (0, 0))) := by rw [← hwf]; exact (set8 Q0cccca.out rfl).1
                    have EF : Ext (Only q) w0cccca wf := (set8 Q0cccca.out hwf.symm).2
                    rw [hwf]
                    have hzq := HE.out.size
                    have TF := T0cccca.out.ext EF (fun k hk _ h => by have h' : k = q := h; have := HOK.out k hk; omega) (fun h => by have h' : r = q := h; omega)
                    have UF : Ext (Only r) wq wf := U0cccca.out.trans EF (fun i hi h => by have h' : i = q := h; omega)
                    have GF : FdB wf g (.slice A3 n3 c3) (.slice A4 n4 c4) D.next D.top := EF.obj G0cccca.out (fun h => by have h' : g = q := h; omega)
                    clear hwf
                    refine hK.out _ _ (gtop (Ext.refl Non _) GF) (fun hS => ?_)
                    try simp only [Act.put, List.setIfInBounds_toArray, List.set_cons_zero, List.set_cons_succ]
                    refine Last.done_ (by kernel_rfl) ?_
                    go_wp2_with fail
                    go_meet
                    exact ⟨q, rfl, hwq, QF, TF, UF⟩
                  · go_simp
                    obtain ⟨q, hq⟩ : ∃ q, w0ccc.heap.size = q := ⟨_, rfl⟩
                    obtain ⟨w0ccca, hw⟩ : ∃ W, w0ccc.alloc (.cells #[.int .i64 0, .int .i64 0, .int .i64 0, .int .i64 0, .string ⟨#[]⟩, .string ⟨#[]⟩, .slice none 0 0, .bool false] 64) = W := ⟨_, rfl⟩
                    have E1 : Ext Non w0ccc w0ccca := by rw [← hw]; exact (Ext.refl _ _).alloc _
                    have Q0ccca : Hid (w0ccca.heap[q]? = some (.cells #[.int .i64 0, .int .i64 0, .int .i64 0, .int .i64 0, .string ⟨#[]⟩, .string ⟨#[]⟩, .slice none 0 0, .bool false] 64 (0, 0))) := by rw [← hw, ← hq]; exact blk_new _ _
                    have T0ccca := Lib.hid (T0ccc.out.ext0 E1)
                    have U0ccca : Hid (Ext (Only r) wq w0ccca) := U0ccc.out.trans0 E1
                    have G0ccca : Hid (FdB w0ccca g (.slice A3 n3 c3) (.slice A4 n4 c4) D.next D.top) := E1.obj G0ccc.out (fun e => e)
                    have hwq : wq.heap.size ≤ q := by have := U0ccc.out.size; omega
                    have hqr : q ≠ r := by omega
                    have hqg : q ≠ g := by omega
                    (try rw [hq, hw])
                    clear hq hw E1
                    refine hK.out _ _ (gtop (Ext.refl Non _) G0ccca.out) (fun hS => ?_)
                    try simp only [Act.put, List.setIfInBounds_toArray, List.set_cons_zero, List.set_cons_succ]
                    refine Last.one_ (i := 17) (N := some 75) #[true, true, true, true, true, true, true, true, true, true, true, true, true, true, true, true, true, true, false, true, false] (by simp only [List.getElem?_toArray, List.getElem?_cons_zero, List.getElem?_cons_succ]; rfl) rfl (by kernel_rfl) (by decide) (fun K hK => ?_)
                    refine Last.goes_ Try.func74 (by kernel_rfl) rfl #[.pointer (some ⟨r, 0, none⟩)] (by rfl) rfl rfl (by simp [Act.eval]) ?_
                    refine (flag_ok T0ccca.out HRO.out ).mono ?_
                    rintro e' w0cccac ⟨rfl, R1, X1⟩
                    have T0cccac := Lib.hid R1
                    have U0cccac : Hid (Ext (Only r) wq w0cccac) := U0ccca.out.trans X1 (fun _ _ h => h)
                    have G0cccac : Hid (FdB w0cccac g (.slice A3 n3 c3) (.slice A4 n4 c4) D.next D.top) := X1.obj G0ccca.out (fun h => by have h' : g = r := h; omega)
                    have Q0cccac : Hid (w0cccac.heap[q]? = some (.cells #[.int .i64 0, .int .i64 0, .int .i64 0, .int .i64 0, .string ⟨#[]⟩, .string ⟨#[]⟩, .slice none 0 0, .bool false] 64 (0, 0))) := X1.obj Q0ccca.out (fun h => by have h' : q = r := h; omega)
                    clear R1 X1
                    refine ⟨_, rfl, ?_⟩
                    refine hK.out _ _ (gtop (Ext.refl Non _) G0cccac.out) (fun hS => ?_)
                    try simp only [Act.put, List.setIfInBounds_toArray, List.set_cons_zero, List.set_cons_succ]
                    refine Last.take_ (i := 18) (N := some 76) (v := .agg #[.int .i64 s.id, .int .i64 s.fr, .int .i64 s.at_, .int .i64 0, .string ⟨#[]⟩, .string ⟨#[]⟩, .slice none 0 0, .bool s.gone]) #[true, true, true, true, true, true, true, true, true, true, true, true, true, true, true, true, true, true, true, true, false] (by simp only [List.getElem?_toArray, List.getElem?_cons_zero, List.getElem?_cons_succ]; rfl) rfl (by kernel_rfl) (by exact fun _ _ _ h => h) (Or.inl ⟨by rfl, fun W hW => by first | rfl | (try dsimp only at hW); go_simp⟩) hS rfl ?_
                    simp only [Act.put, List.setIfInBounds_toArray, List.set_cons_zero, List.set_cons_succ]
                    have hql := blk_lt Q0cccac.out
                    have qc0 := blk_cell Q0cccac.out 0
                    have qf0 := blk_frozen Q0cccac.out 0
                    have qc1 := blk_cell Q0cccac.out 1
                    have qf1 := blk_frozen Q0cccac.out 1
                    have qc2 := blk_cell Q0cccac.out 2
                    have qf2 := blk_frozen Q0cccac.out 2
                    have qc3 := blk_cell Q0cccac.out 3
                    have qf3 := blk_frozen Q0cccac.out 3
                    have qc4 := blk_cell Q0cccac.out 4
                    have qf4 := blk_frozen Q0cccac.out 4
                    have qc5 := blk_cell Q0cccac.out 5
                    have qf5 := blk_frozen Q0cccac.out 5
                    have qc6 := blk_cell Q0cccac.out 6
                    have qf6 := blk_frozen Q0cccac.out 6
                    have qc7 := blk_cell Q0cccac.out 7
                    have qf7 := blk_frozen Q0cccac.out 7
                    refine Last.one_ (i := 20) (N := none) #[true, true, true, true, true, true, true, true, true, true, true, true, true, true, true, true, true, true, true, true, true] (by simp only [List.getElem?_toArray, List.getElem?_cons_zero, List.getElem?_cons_succ]; rfl) rfl (by kernel_rfl) (by decide) (fun K hK => ?_)
                    go_simp
                    obtain ⟨wf, hwf⟩ : ∃ W, ((((((((w0cccac.setCell ⟨q, 0, none⟩ (.int .i64 s.id)).setCell ⟨q, 1, none⟩ (.int .i64 s.fr)).setCell ⟨q, 2, none⟩ (.int .i64 s.at_)).setCell ⟨q, 3, none⟩ (.int .i64 0)).setCell ⟨q, 4, none⟩ (.string ⟨#[]⟩)).setCell ⟨q, 5, none⟩ (.string ⟨#[]⟩)).setCell ⟨q, 6, none⟩ (.slice none 0 0)).setCell ⟨q, 7, none⟩ (.bool s.gone)) = W := ⟨_, rfl⟩
                    have QF : Hid (wf.heap[q]? = some (.cells #[.int .i64 s.id, .int .i64 s.fr, .int .i64 s.at_, .int .i64 0, .string ⟨#[]⟩, .string ⟨#[]⟩, .slice none 0 0, .bool s.gone] 64 (0, 0))) := by rw [← hwf]; exact (set8 Q0cccac.out rfl).1
                    have EF : Ext (Only q) w0cccac wf := (set8 Q0cccac.out hwf.symm).2
                    rw [hwf]
                    have hzq := HE.out.size
                    have TF := T0cccac.out.ext EF (fun k hk _ h => by have h' : k = q := h; have := HOK.out k hk; omega) (fun h => by have h' : r = q := h; omega)
                    have UF : Ext (Only r) wq wf := U0cccac.out.trans EF (fun i hi h => by have h' : i = q := h; omega)
                    have GF : FdB wf g (.slice A3 n3 c3) (.slice A4 n4 c4) D.next D.top := EF.obj G0cccac.out (fun h => by have h' : g = q := h; omega)
                    clear hwf
                    refine hK.out _ _ (gtop (Ext.refl Non _) GF) (fun hS => ?_)
                    try simp only [Act.put, List.setIfInBounds_toArray, List.set_cons_zero, List.set_cons_succ]
                    refine Last.done_ (by kernel_rfl) ?_
                    go_wp2_with fail
                    go_meet
                    exact ⟨q, rfl, hwq, QF, TF, UF⟩
                · go_simp
                  obtain ⟨q, hq⟩ : ∃ q, w0cc.heap.size = q := ⟨_, rfl⟩
                  obtain ⟨w0cca, hw⟩ : ∃ W, w0cc.alloc (.cells #[.int .i64 0, .int .i64 0, .int .i64 0, .int .i64 0, .string ⟨#[]⟩, .string ⟨#[]⟩, .slice none 0 0, .bool false] 64) = W := ⟨_, rfl⟩
                  have E1 : Ext Non w0cc w0cca := by rw [← hw]; exact (Ext.refl _ _).alloc _
                  have Q0cca : Hid (w0cca.heap[q]? = some (.cells #[.int .i64 0, .int .i64 0, .int .i64 0, .int .i64 0, .string ⟨#[]⟩, .string ⟨#[]⟩, .slice none 0 0, .bool false] 64 (0, 0))) := by rw [← hw, ← hq]; exact blk_new _ _
                  have T0cca := Lib.hid (T0cc.out.ext0 E1)
                  have U0cca : Hid (Ext (Only r) wq w0cca) := U0cc.out.trans0 E1
                  have G0cca : Hid (FdB w0cca g (.slice A3 n3 c3) (.slice A4 n4 c4) D.next D.top) := E1.obj G0cc.out (fun e => e)
                  have hwq : wq.heap.size ≤ q := by have := U0cc.out.size; omega
                  have hqr : q ≠ r := by omega
                  have hqg : q ≠ g := by omega
                  (try rw [hq, hw])
                  clear hq hw E1
                  refine hK.out _ _ (gtop (Ext.refl Non _) G0cca.out) (fun hS => ?_)
                  try simp only [Act.put, List.setIfInBounds_toArray, List.set_cons_zero, List.set_cons_succ]
                  refine Last.one_ (i := 15) (N := some 73) #[true, true, true, true, true, true, true, true, true, true, true, true, true, true, true, true, true, false, false, true, false] (by simp only [List.getElem?_toArray, List.getElem?_cons_zero, List.getElem?_cons_succ]; rfl) rfl (by kernel_rfl) (by decide) (fun K hK => ?_)
                  refine Last.goes_ Try.func72 (by kernel_rfl) rfl #[.pointer (some ⟨r, 0, none⟩), .int .i64 0, .int .i64 D.top] (by rfl) rfl rfl (by simp [Act.eval]) ?_
                  refine (within_ok T0cca.out HRO.out (by omega) (by omega) (by omega) (by omega)).mono ?_
                  rintro e' w0ccac ⟨rfl, R1, X1⟩
                  have T0ccac := Lib.hid R1
                  have U0ccac : Hid (Ext (Only r) wq w0ccac) := U0cca.out.trans X1 (fun _ _ h => h)
                  have G0ccac : Hid (FdB w0ccac g (.slice A3 n3 c3) (.slice A4 n4 c4) D.next D.top) := X1.obj G0cca.out (fun h => by have h' : g = r := h; omega)
                  have Q0ccac : Hid (w0ccac.heap[q]? = some (.cells #[.int .i64 0, .int .i64 0, .int .i64 0, .int .i64 0, .string ⟨#[]⟩, .string ⟨#[]⟩, .slice none 0 0, .bool false] 64 (0, 0))) := X1.obj Q0cca.out (fun h => by have h' : q = r := h; omega)
                  clear R1 X1
                  refine ⟨_, rfl, ?_⟩
                  refine hK.out _ _ (gtop (Ext.refl Non _) G0ccac.out) (fun hS => ?_)
                  try simp only [Act.put, List.setIfInBounds_toArray, List.set_cons_zero, List.set_cons_succ]
                  refine Last.one_ (i := 17) (N := some 75) #[true, true, true, true, true, true, true, true, true, true, true, true, true, true, true, true, true, true, false, true, false] (by simp only [List.getElem?_toArray, List.getElem?_cons_zero, List.getElem?_cons_succ]; rfl) rfl (by kernel_rfl) (by decide) (fun K hK => ?_)
                  refine Last.goes_ Try.func74 (by kernel_rfl) rfl #[.pointer (some ⟨r, 0, none⟩)] (by rfl) rfl rfl (by simp [Act.eval]) ?_
                  refine (flag_ok T0ccac.out HRO.out ).mono ?_
                  rintro e' w0ccacc ⟨rfl, R1, X1⟩
                  have T0ccacc := Lib.hid R1
                  have U0ccacc : Hid (Ext (Only r) wq w0ccacc) := U0ccac.out.trans X1 (fun _ _ h => h)
                  have G0ccacc : Hid (FdB w0ccacc g (.slice A3 n3 c3) (.slice A4 n4 c4) D.next D.top) := X1.obj G0ccac.out (fun h => by have h' : g = r := h; omega)
                  have Q0ccacc : Hid (w0ccacc.heap[q]? = some (.cells #[.int .i64 0, .int .i64 0, .int .i64 0, .int .i64 0, .string ⟨#[]⟩, .string ⟨#[]⟩, .slice none 0 0, .bool false] 64 (0, 0))) := X1.obj Q0ccac.out (fun h => by have h' : q = r := h; omega)
                  clear R1 X1
                  refine ⟨_, rfl, ?_⟩
                  refine hK.out _ _ (gtop (Ext.refl Non _) G0ccacc.out) (fun hS => ?_)
                  try simp only [Act.put, List.setIfInBounds_toArray, List.set_cons_zero, List.set_cons_succ]
                  refine Last.take_ (i := 18) (N := some 76) (v := .agg #[.int .i64 s.id, .int .i64 s.fr, .int .i64 s.at_, .int .i64 0, .string ⟨#[]⟩, .string ⟨#[]⟩, .slice none 0 0, .bool s.gone]) #[true, true, true, true, true, true, true, true, true, true, true, true, true, true, true, true, true, true, true, true, false] (by simp only [List.getElem?_toArray, List.getElem?_cons_zero, List.getElem?_cons_succ]; rfl) rfl (by kernel_rfl) (by exact fun _ _ _ h => h) (Or.inl ⟨by rfl, fun W hW => by first | rfl | (try dsimp only at hW); go_simp⟩) hS rfl ?_
                  simp only [Act.put, List.setIfInBounds_toArray, List.set_cons_zero, List.set_cons_succ]
                  have hql := blk_lt Q0ccacc.out
                  have qc0 := blk_cell Q0ccacc.out 0
                  have qf0 := blk_frozen Q0ccacc.out 0
                  have qc1 := blk_cell Q0ccacc.out 1
                  have qf1 := blk_frozen Q0ccacc.out 1
                  have qc2 := blk_cell Q0ccacc.out 2
                  have qf2 := blk_frozen Q0ccacc.out 2
                  have qc3 := blk_cell Q0ccacc.out 3
                  have qf3 := blk_frozen Q0ccacc.out 3
                  have qc4 := blk_cell Q0ccacc.out 4
                  have qf4 := blk_frozen Q0ccacc.out 4
                  have qc5 := blk_cell Q0ccacc.out 5
                  have qf5 := blk_frozen Q0ccacc.out 5
                  have qc6 := blk_cell Q0ccacc.out 6
                  have qf6 := blk_frozen Q0ccacc.out 6
                  have qc7 := blk_cell Q0ccacc.out 7
                  have qf7 := blk_frozen Q0ccacc.out 7
                  refine Last.one_ (i := 20) (N := none) #[true, true, true, true, true, true, true, true, true, true, true, true, true, true, true, true, true, true, true, true, true] (by simp only [List.getElem?_toArray, List.getElem?_cons_zero, List.getElem?_cons_succ]; rfl) rfl (by kernel_rfl) (by decide) (fun K hK => ?_)
                  go_simp
                  obtain ⟨wf, hwf⟩ : ∃ W, ((((((((w0ccacc.setCell ⟨q, 0, none⟩ (.int .i64 s.id)).setCell ⟨q, 1, none⟩ (.int .i64 s.fr)).setCell ⟨q, 2, none⟩ (.int .i64 s.at_)).setCell ⟨q, 3, none⟩ (.int .i64 0)).setCell ⟨q, 4, none⟩ (.string ⟨#[]⟩)).setCell ⟨q, 5, none⟩ (.string ⟨#[]⟩)).setCell ⟨q, 6, none⟩ (.slice none 0 0)).setCell ⟨q, 7, none⟩ (.bool s.gone)) = W := ⟨_, rfl⟩
                  have QF : Hid (wf.heap[q]? = some (.cells #[.int .i64 s.id, .int .i64 s.fr, .int .i64 s.at_, .int .i64 0, .string ⟨#[]⟩, .string ⟨#[]⟩, .slice none 0 0, .bool s.gone] 64 (0, 0))) := by rw [← hwf]; exact (set8 Q0ccacc.out rfl).1
                  have EF : Ext (Only q) w0ccacc wf := (set8 Q0ccacc.out hwf.symm).2
                  rw [hwf]
                  have hzq := HE.out.size
                  have TF := T0ccacc.out.ext EF (fun k hk _ h => by have h' : k = q := h; have := HOK.out k hk; omega) (fun h => by have h' : r = q := h; omega)
                  have UF : Ext (Only r) wq wf := U0ccacc.out.trans EF (fun i hi h => by have h' : i = q := h; omega)
                  have GF : FdB wf g (.slice A3 n3 c3) (.slice A4 n4 c4) D.next D.top := EF.obj G0ccacc.out (fun h => by have h' : g = q := h; omega)
                  clear hwf
                  refine hK.out _ _ (gtop (Ext.refl Non _) GF) (fun hS => ?_)
                  try simp only [Act.put, List.setIfInBounds_toArray, List.set_cons_zero, List.set_cons_succ]
                  refine Last.done_ (by kernel_rfl) ?_
                  go_wp2_with fail
                  go_meet
                  exact ⟨q, rfl, hwq, QF, TF, UF⟩
              · go_simp
                obtain ⟨q, hq⟩ : ∃ q, w0c.heap.size = q := ⟨_, rfl⟩
                obtain ⟨w0ca, hw⟩ : ∃ W, w0c.alloc (.cells #[.int .i64 0, .int .i64 0, .int .i64 0, .int .i64 0, .string ⟨#[]⟩, .string ⟨#[]⟩, .slice none 0 0, .bool false] 64) = W := ⟨_, rfl⟩
                have E1 : Ext Non w0c w0ca := by rw [← hw]; exact (Ext.refl _ _).alloc _
                have Q0ca : Hid (w0ca.heap[q]? = some (.cells #[.int .i64 0, .int .i64 0, .int .i64 0, .int .i64 0, .string ⟨#[]⟩, .string ⟨#[]⟩, .slice none 0 0, .bool false] 64 (0, 0))) := by rw [← hw, ← hq]; exact blk_new _ _
                have T0ca := Lib.hid (T0c.out.ext0 E1)
                have U0ca : Hid (Ext (Only r) wq w0ca) := U0c.out.trans0 E1
                have G0ca : Hid (FdB w0ca g (.slice A3 n3 c3) (.slice A4 n4 c4) D.next D.top) := E1.obj G0c.out (fun e => e)
                have hwq : wq.heap.size ≤ q := by have := U0c.out.size; omega
                have hqr : q ≠ r := by omega
                have hqg : q ≠ g := by omega
                (try rw [hq, hw])
                clear hq hw E1
                refine hK.out _ _ (gtop (Ext.refl Non _) G0ca.out) (fun hS => ?_)
                try simp only [Act.put, List.setIfInBounds_toArray, List.set_cons_zero, List.set_cons_succ]
                refine Last.one_ (i := 9) (N := some 67) #[true, true, true, true, true, true, true, true, true, true, true, true, true, true, true, false, true, false, false, true, false] (by simp only [List.getElem?_toArray, List.getElem?_cons_zero, List.getElem?_cons_succ]; rfl) rfl (by kernel_rfl) (by decide) (fun K hK => ?_)
                refine Last.goes_ Try.func72 (by kernel_rfl) rfl #[.pointer (some ⟨r, 0, none⟩), .int .i64 0, .int .i64 D.top] (by rfl) rfl rfl (by simp [Act.eval]) ?_
                refine (within_ok T0ca.out HRO.out (by omega) (by omega) (by omega) (by omega)).mono ?_
                rintro e' w0cac ⟨rfl, R1, X1⟩
                have T0cac := Lib.hid R1
                have U0cac : Hid (Ext (Only r) wq w0cac) := U0ca.out.trans X1 (fun _ _ h => h)
                have G0cac : Hid (FdB w0cac g (.slice A3 n3 c3) (.slice A4 n4 c4) D.next D.top) := X1.obj G0ca.out (fun h => by have h' : g = r := h; omega)
                have Q0cac : Hid (w0cac.heap[q]? = some (.cells #[.int .i64 0, .int .i64 0, .int .i64 0, .int .i64 0, .string ⟨#[]⟩, .string ⟨#[]⟩, .slice none 0 0, .bool false] 64 (0, 0))) := X1.obj Q0ca.out (fun h => by have h' : q = r := h; omega)
                clear R1 X1
                refine ⟨_, rfl, ?_⟩
                refine hK.out _ _ (gtop (Ext.refl Non _) G0cac.out) (fun hS => ?_)
                try simp only [Act.put, List.setIfInBounds_toArray, List.set_cons_zero, List.set_cons_succ]
                refine Last.one_ (i := 15) (N := some 73) #[true, true, true, true, true, true, true, true, true, true, true, true, true, true, true, true, true, false, false, true, false] (by simp only [List.getElem?_toArray, List.getElem?_cons_zero, List.getElem?_cons_succ]; rfl) rfl (by kernel_rfl) (by decide) (fun K hK => ?_)
                refine Last.goes_ Try.func72 (by kernel_rfl) rfl #[.pointer (some ⟨r, 0, none⟩), .int .i64 0, .int .i64 D.top] (by rfl) rfl rfl (by simp [Act.eval]) ?_
                refine (within_ok T0cac.out HRO.out (by omega) (by omega) (by omega) (by omega)).mono ?_
                rintro e' w0cacc ⟨rfl, R1, X1⟩
                have T0cacc := Lib.hid R1
                have U0cacc : Hid (Ext (Only r) wq w0cacc) := U0cac.out.trans X1 (fun _ _ h => h)
                have G0cacc : Hid (FdB w0cacc g (.slice A3 n3 c3) (.slice A4 n4 c4) D.next D.top) := X1.obj G0cac.out (fun h => by have h' : g = r := h; omega)
                have Q0cacc : Hid (w0cacc.heap[q]? = some (.cells #[.int .i64 0, .int .i64 0, .int .i64 0, .int .i64 0, .string ⟨#[]⟩, .string ⟨#[]⟩, .slice none 0 0, .bool false] 64 (0, 0))) := X1.obj Q0cac.out (fun h => by have h' : q = r := h; omega)
                clear R1 X1
                refine ⟨_, rfl, ?_⟩
                refine hK.out _ _ (gtop (Ext.refl Non _) G0cacc.out) (fun hS => ?_)
                try simp only [Act.put, List.setIfInBounds_toArray, List.set_cons_zero, List.set_cons_succ]
                refine Last.one_ (i := 17) (N := some 75) #[true, true, true, true, true, true, true, true, true, true, true, true, true, true, true, true, true, true, false, true, false] (by simp only [List.getElem?_toArray, List.getElem?_cons_zero, List.getElem?_cons_succ]; rfl) rfl (by kernel_rfl) (by decide) (fun K hK => ?_)
                refine Last.goes_ Try.func74 (by kernel_rfl) rfl #[.pointer (some ⟨r, 0, none⟩)] (by rfl) rfl rfl (by simp [Act.eval]) ?_
                refine (flag_ok T0cacc.out HRO.out ).mono ?_
                rintro e' w0caccc ⟨rfl, R1, X1⟩
                have T0caccc := Lib.hid R1
                have U0caccc : Hid (Ext (Only r) wq w0caccc) := U0cacc.out.trans X1 (fun _ _ h => h)
                have G0caccc : Hid (FdB w0caccc g (.slice A3 n3 c3) (.slice A4 n4 c4) D.next D.top) := X1.obj G0cacc.out (fun h => by have h' : g = r := h; omega)
                have Q0caccc : Hid (w0caccc.heap[q]? = some (.cells #[.int .i64 0, .int .i64 0, .int .i64 0, .int .i64 0, .string ⟨#[]⟩, .string ⟨#[]⟩, .slice none 0 0, .bool false] 64 (0, 0))) := X1.obj Q0cacc.out (fun h => by have h' : q = r := h; omega)
                clear R1 X1
                refine ⟨_, rfl, ?_⟩
                refine hK.out _ _ (gtop (Ext.refl Non _) G0caccc.out) (fun hS => ?_)
                try simp only [Act.put, List.setIfInBounds_toArray, List.set_cons_zero, List.set_cons_succ]
                refine Last.take_ (i := 18) (N := some 76) (v := .agg #[.int .i64 s.id, .int .i64 s.fr, .int .i64 s.at_, .int .i64 0, .string ⟨#[]⟩, .string ⟨#[]⟩, .slice none 0 0, .bool s.gone]) #[true, true, true, true, true, true, true, true, true, true, true, true, true, true, true, true, true, true, true, true, false] (by simp only [List.getElem?_toArray, List.getElem?_cons_zero, List.getElem?_cons_succ]; rfl) rfl (by kernel_rfl) (by exact fun _ _ _ h => h) (Or.inl ⟨by rfl, fun W hW => by first | rfl | (try dsimp only at hW); go_simp⟩) hS rfl ?_
                simp only [Act.put, List.setIfInBounds_toArray, List.set_cons_zero, List.set_cons_succ]
                have hql := blk_lt Q0caccc.out
                have qc0 := blk_cell Q0caccc.out 0
                have qf0 := blk_frozen Q0caccc.out 0
                have qc1 := blk_cell Q0caccc.out 1
                have qf1 := blk_frozen Q0caccc.out 1
                have qc2 := blk_cell Q0caccc.out 2
                have qf2 := blk_frozen Q0caccc.out 2
                have qc3 := blk_cell Q0caccc.out 3
                have qf3 := blk_frozen Q0caccc.out 3
                have qc4 := blk_cell Q0caccc.out 4
                have qf4 := blk_frozen Q0caccc.out 4
                have qc5 := blk_cell Q0caccc.out 5
                have qf5 := blk_frozen Q0caccc.out 5
                have qc6 := blk_cell Q0caccc.out 6
                have qf6 := blk_frozen Q0caccc.out 6
                have qc7 := blk_cell Q0caccc.out 7
                have qf7 := blk_frozen Q0caccc.out 7
                refine Last.one_ (i := 20) (N := none) #[true, true, true, true, true, true, true, true, true, true, true, true, true, true, true, true, true, true, true, true, true] (by simp only [List.getElem?_toArray, List.getElem?_cons_zero, List.getElem?_cons_succ]; rfl) rfl (by kernel_rfl) (by decide) (fun K hK => ?_)
                go_simp
                obtain ⟨wf, hwf⟩ : ∃ W, ((((((((w0caccc.setCell ⟨q, 0, none⟩ (.int .i64 s.id)).setCell ⟨q, 1, none⟩ (.int .i64 s.fr)).setCell ⟨q, 2, none⟩ (.int .i64 s.at_)).setCell ⟨q, 3, none⟩ (.int .i64 0)).setCell ⟨q, 4, none⟩ (.string ⟨#[]⟩)).setCell ⟨q, 5, none⟩ (.string ⟨#[]⟩)).setCell ⟨q, 6, none⟩ (.slice none 0 0)).setCell ⟨q, 7, none⟩ (.bool s.gone)) = W := ⟨_, rfl⟩
                have QF : Hid (wf.heap[q]? = some (.cells #[.int .i64 s.id, .int .i64 s.fr, .int .i64 s.at_, .int .i64 0, .string ⟨#[]⟩, .string ⟨#[]⟩, .slice none 0 0, .bool s.gone] 64 (0, 0))) := by rw [← hwf]; exact (set8 Q0caccc.out rfl).1
                have EF : Ext (Only q) w0caccc wf := (set8 Q0caccc.out hwf.symm).2
                rw [hwf]
                have hzq := HE.out.size
                have TF := T0caccc.out.ext EF (fun k hk _ h => by have h' : k = q := h; have := HOK.out k hk; omega) (fun h => by have h' : r = q := h; omega)
                have UF : Ext (Only r) wq wf := U0caccc.out.trans EF (fun i hi h => by have h' : i = q := h; omega)
                have GF : FdB wf g (.slice A3 n3 c3) (.slice A4 n4 c4) D.next D.top := EF.obj G0caccc.out (fun h => by have h' : g = q := h; omega)
                clear hwf
                refine hK.out _ _ (gtop (Ext.refl Non _) GF) (fun hS => ?_)
                try simp only [Act.put, List.setIfInBounds_toArray, List.set_cons_zero, List.set_cons_succ]
                refine Last.done_ (by kernel_rfl) ?_
                go_wp2_with fail
                go_meet
                exact ⟨q, rfl, hwq, QF, TF, UF⟩
            · go_simp
              obtain ⟨q, hq⟩ : ∃ q, wq.heap.size = q := ⟨_, rfl⟩
              obtain ⟨w0a, hw⟩ : ∃ W, (wq.alloc (.cells #[.int .i64 0, .int .i64 0, .int .i64 0, .int .i64 0, .string ⟨#[]⟩, .string ⟨#[]⟩, .slice none 0 0, .bool false] 64)).drew = W := ⟨_, rfl⟩
              have E1 : Ext Non wq.drew w0a := by rw [← hw]; exact (⟨rfl, rfl, rfl, Nat.le_refl _, fun _ _ _ => rfl⟩ : Ext Non wq.drew wq).trans0 (((Ext.refl Non wq).alloc _).drew)
              have Q0a : Hid (w0a.heap[q]? = some (.cells #[.int .i64 0, .int .i64 0, .int .i64 0, .int .i64 0, .string ⟨#[]⟩, .string ⟨#[]⟩, .slice none 0 0, .bool false] 64 (0, 0))) := by rw [← hw, ← hq]; exact blk_new wq _
              have T0a := Lib.hid (T0.out.ext0 E1)
              have U0a : Hid (Ext (Only r) wq w0a) := U0.out.trans0 E1
              have G0a : Hid (FdB w0a g (.slice A3 n3 c3) (.slice A4 n4 c4) D.next D.top) := E1.obj G0.out (fun e => e)
              have hwq : wq.heap.size ≤ q := by have := U0.out.size; omega
              have hqr : q ≠ r := by omega
              have hqg : q ≠ g := by omega
              (try rw [hq, hw])
              clear hq hw E1
              refine hK.out _ _ (gtop (Ext.refl Non _) G0a.out) (fun hS => ?_)
              try simp only [Act.put, List.setIfInBounds_toArray, List.set_cons_zero, List.set_cons_succ]
              refine Last.one_ (i := 3) (N := some 61) #[true, true, true, true, true, true, true, true, true, false, true, true, true, true, true, false, true, false, false, true, false] (by simp only [List.getElem?_toArray, List.getElem?_cons_zero, List.getElem?_cons_succ]; rfl) rfl (by kernel_rfl) (by decide) (fun K hK => ?_)
              refine Last.goes_ Try.func72 (by kernel_rfl) rfl #[.pointer (some ⟨r, 0, none⟩), .int .i64 (p + 1), .int .i64 1099511627776] (by rfl) rfl rfl (by simp [Act.eval]) ?_
              refine (within_ok T0a.out HRO.out (by omega) (by omega) (by omega) (by omega)).mono ?_
              rintro e' w0ac ⟨rfl, R1, X1⟩
              have T0ac := Lib.hid R1
              have U0ac : Hid (Ext (Only r) wq w0ac) := U0a.out.trans X1 (fun _ _ h => h)
              have G0ac : Hid (FdB w0ac g (.slice A3 n3 c3) (.slice A4 n4 c4) D.next D.top) := X1.obj G0a.out (fun h => by have h' : g = r := h; omega)
              have Q0ac : Hid (w0ac.heap[q]? = some (.cells #[.int .i64 0, .int .i64 0, .int .i64 0, .int .i64 0, .string ⟨#[]⟩, .string ⟨#[]⟩, .slice none 0 0, .bool false] 64 (0, 0))) := X1.obj Q0a.out (fun h => by have h' : q = r := h; omega)
              clear R1 X1
              refine ⟨_, rfl, ?_⟩
              refine hK.out _ _ (gtop (Ext.refl Non _) G0ac.out) (fun hS => ?_)
              try simp only [Act.put, List.setIfInBounds_toArray, List.set_cons_zero, List.set_cons_succ]
              refine Last.one_ (i := 9) (N := some 67) #[true, true, true, true, true, true, true, true, true, true, true, true, true, true, true, false, true, false, false, true, false] (by simp only [List.getElem?_toArray, List.getElem?_cons_zero, List.getElem?_cons_succ]; rfl) rfl (by kernel_rfl) (by decide) (fun K hK => ?_)
              refine Last.goes_ Try.func72 (by kernel_rfl) rfl #[.pointer (some ⟨r, 0, none⟩), .int .i64 0, .int .i64 D.top] (by rfl) rfl rfl (by simp [Act.eval]) ?_
              refine (within_ok T0ac.out HRO.out (by omega) (by omega) (by omega) (by omega)).mono ?_
              rintro e' w0acc ⟨rfl, R1, X1⟩
              have T0acc := Lib.hid R1
              have U0acc : Hid (Ext (Only r) wq w0acc) := U0ac.out.trans X1 (fun _ _ h => h)
              have G0acc : Hid (FdB w0acc g (.slice A3 n3 c3) (.slice A4 n4 c4) D.next D.top) := X1.obj G0ac.out (fun h => by have h' : g = r := h; omega)
              have Q0acc : Hid (w0acc.heap[q]? = some (.cells #[.int .i64 0, .int .i64 0, .int .i64 0, .int .i64 0, .string ⟨#[]⟩, .string ⟨#[]⟩, .slice none 0 0, .bool false] 64 (0, 0))) := X1.obj Q0ac.out (fun h => by have h' : q = r := h; omega)
              clear R1 X1
              refine ⟨_, rfl, ?_⟩
              refine hK.out _ _ (gtop (Ext.refl Non _) G0acc.out) (fun hS => ?_)
              try simp only [Act.put, List.setIfInBounds_toArray, List.set_cons_zero, List.set_cons_succ]
              refine Last.one_ (i := 15) (N := some 73) #[true, true, true, true, true, true, true, true, true, true, true, true, true, true, true, true, true, false, false, true, false] (by simp only [List.getElem?_toArray, List.getElem?_cons_zero, List.getElem?_cons_succ]; rfl) rfl (by kernel_rfl) (by decide) (fun K hK => ?_)
              refine Last.goes_ Try.func72 (by kernel_rfl) rfl #[.pointer (some ⟨r, 0, none⟩), .int .i64 0, .int .i64 D.top] (by rfl) rfl rfl (by simp [Act.eval]) ?_
              refine (within_ok T0acc.out HRO.out (by omega) (by omega) (by omega) (by omega)).mono ?_
              rintro e' w0accc ⟨rfl, R1, X1⟩
              have T0accc := Lib.hid R1
              have U0accc : Hid (Ext (Only r) wq w0accc) := U0acc.out.trans X1 (fun _ _ h => h)
              have G0accc : Hid (FdB w0accc g (.slice A3 n3 c3) (.slice A4 n4 c4) D.next D.top) := X1.obj G0acc.out (fun h => by have h' : g = r := h; omega)
              have Q0accc : Hid (w0accc.heap[q]? = some (.cells #[.int .i64 0, .int .i64 0, .int .i64 0, .int .i64 0, .string ⟨#[]⟩, .string ⟨#[]⟩, .slice none 0 0, .bool false] 64 (0, 0))) := X1.obj Q0acc.out (fun h => by have h' : q = r := h; omega)
              clear R1 X1
              refine ⟨_, rfl, ?_⟩
              refine hK.out _ _ (gtop (Ext.refl Non _) G0accc.out) (fun hS => ?_)
              try simp only [Act.put, List.setIfInBounds_toArray, List.set_cons_zero, List.set_cons_succ]
              refine Last.one_ (i := 17) (N := some 75) #[true, true, true, true, true, true, true, true, true, true, true, true, true, true, true, true, true, true, false, true, false] (by simp only [List.getElem?_toArray, List.getElem?_cons_zero, List.getElem?_cons_succ]; rfl) rfl (by kernel_rfl) (by decide) (fun K hK => ?_)
              refine Last.goes_ Try.func74 (by kernel_rfl) rfl #[.pointer (some ⟨r, 0, none⟩)] (by rfl) rfl rfl (by simp [Act.eval]) ?_
              refine (flag_ok T0accc.out HRO.out ).mono ?_
              rintro e' w0acccc ⟨rfl, R1, X1⟩
              have T0acccc := Lib.hid R1
              have U0acccc : Hid (Ext (Only r) wq w0acccc) := U0accc.out.trans X1 (fun _ _ h => h)
              have G0acccc : Hid (FdB w0acccc g (.slice A3 n3 c3) (.slice A4 n4 c4) D.next D.top) := X1.obj G0accc.out (fun h => by have h' : g = r := h; omega)
              have Q0acccc : Hid (w0acccc.heap[q]? = some (.cells #[.int .i64 0, .int .i64 0, .int .i64 0, .int .i64 0, .string ⟨#[]⟩, .string ⟨#[]⟩, .slice none 0 0, .bool false] 64 (0, 0))) := X1.obj Q0accc.out (fun h => by have h' : q = r := h; omega)
              clear R1 X1
              refine ⟨_, rfl, ?_⟩
              refine hK.out _ _ (gtop (Ext.refl Non _) G0acccc.out) (fun hS => ?_)
              try simp only [Act.put, List.setIfInBounds_toArray, List.set_cons_zero, List.set_cons_succ]
              refine Last.take_ (i := 18) (N := some 76) (v := .agg #[.int .i64 s.id, .int .i64 s.fr, .int .i64 s.at_, .int .i64 0, .string ⟨#[]⟩, .string ⟨#[]⟩, .slice none 0 0, .bool s.gone]) #[true, true, true, true, true, true, true, true, true, true, true, true, true, true, true, true, true, true, true, true, false] (by simp only [List.getElem?_toArray, List.getElem?_cons_zero, List.getElem?_cons_succ]; rfl) rfl (by kernel_rfl) (by exact fun _ _ _ h => h) (Or.inl ⟨by rfl, fun W hW => by first | rfl | (try dsimp only at hW); go_simp⟩) hS rfl ?_
              simp only [Act.put, List.setIfInBounds_toArray, List.set_cons_zero, List.set_cons_succ]
              have hql := blk_lt Q0acccc.out
              have qc0 := blk_cell Q0acccc.out 0
              have qf0 := blk_frozen Q0acccc.out 0
              have qc1 := blk_cell Q0acccc.out 1
              have qf1 := blk_frozen Q0acccc.out 1
              have qc2 := blk_cell Q0acccc.out 2
              have qf2 := blk_frozen Q0acccc.out 2
              have qc3 := blk_cell Q0acccc.out 3
              have qf3 := blk_frozen Q0acccc.out 3
              have qc4 := blk_cell Q0acccc.out 4
              have qf4 := blk_frozen Q0acccc.out 4
              have qc5 := blk_cell Q0acccc.out 5
              have qf5 := blk_frozen Q0acccc.out 5
              have qc6 := blk_cell Q0acccc.out 6
              have qf6 := blk_frozen Q0acccc.out 6
              have qc7 := blk_cell Q0acccc.out 7
              have qf7 := blk_frozen Q0acccc.out 7
              refine Last.one_ (i := 20) (N := none) #[true, true, true, true, true, true, true, true, true, true, true, true, true, true, true, true, true, true, true, true, true] (by simp only [List.getElem?_toArray, List.getElem?_cons_zero, List.getElem?_cons_succ]; rfl) rfl (by kernel_rfl) (by decide) (fun K hK => ?_)
              go_simp
              obtain ⟨wf, hwf⟩ : ∃ W, ((((((((w0acccc.setCell ⟨q, 0, none⟩ (.int .i64 s.id)).setCell ⟨q, 1, none⟩ (.int .i64 s.fr)).setCell ⟨q, 2, none⟩ (.int .i64 s.at_)).setCell ⟨q, 3, none⟩ (.int .i64 0)).setCell ⟨q, 4, none⟩ (.string ⟨#[]⟩)).setCell ⟨q, 5, none⟩ (.string ⟨#[]⟩)).setCell ⟨q, 6, none⟩ (.slice none 0 0)).setCell ⟨q, 7, none⟩ (.bool s.gone)) = W := ⟨_, rfl⟩
              have QF : Hid (wf.heap[q]? = some (.cells #[.int .i64 s.id, .int .i64 s.fr, .int .i64 s.at_, .int .i64 0, .string ⟨#[]⟩, .string ⟨#[]⟩, .slice none 0 0, .bool s.gone] 64 (0, 0))) := by rw [← hwf]; exact (set8 Q0acccc.out rfl).1
              have EF : Ext (Only q) w0acccc wf := (set8 Q0acccc.out hwf.symm).2
              rw [hwf]
              have hzq := HE.out.size
              have TF := T0acccc.out.ext EF (fun k hk _ h => by have h' : k = q := h; have := HOK.out k hk; omega) (fun h => by have h' : r = q := h; omega)
              have UF : Ext (Only r) wq wf := U0acccc.out.trans EF (fun i hi h => by have h' : i = q := h; omega)
              have GF : FdB wf g (.slice A3 n3 c3) (.slice A4 n4 c4) D.next D.top := EF.obj G0acccc.out (fun h => by have h' : g = q := h; omega)
              clear hwf
              refine hK.out _ _ (gtop (Ext.refl Non _) GF) (fun hS => ?_)
              try simp only [Act.put, List.setIfInBounds_toArray, List.set_cons_zero, List.set_cons_succ]
              refine Last.done_ (by kernel_rfl) ?_
              go_wp2_with fail
              go_meet
              exact ⟨q, rfl, hwq, QF, TF, UF⟩
          case rest =>
            obtain ⟨q, rfl, hwq, BQ, HRQ, HXQ⟩ := hcut
            obtain ⟨w6, hw6⟩ : ∃ W, W = wc := ⟨_, rfl⟩
            subst hw6
            have hgq5 := blk_lt BG.out
            have hq6 := blk_lt BQ.out
            have hzq := HE.out.size
            have BG6 : Hid (FdB w6 g (.slice A3 n3 c3) (.slice A4 n4 c4) D.next D.top) := HXQ.out.obj BG.out (fun h => by have h' : g = r := h; omega)
            have EV6 : Hid (Rd evK w6 (fun k => (w.heap.size ≤ k ∧ k ≠ g) ∧ k < w5.heap.size) (.slice A3 n3 c3) D.evs) := HEV.out.ext HXQ.out (fun k hk _ h => by have h' : k = r := h; have := hk.1.1; omega)
            have HO6 : Hid (Own (sbK n) 64 w6 w5.heap.size (fun k => (w.heap.size ≤ k ∧ k ≠ g) ∧ k < wq.heap.size) (.slice A4 n4 c4) (D.subs.take j)) := HO.out.bound.ext HXQ.out (fun k hk _ h => by have h' : k = r := h; have := hk.1.1; omega)
            have E6 : Hid (Ext (Only r) w w6) := HE.out.trans HXQ.out (fun _ _ h => h)
            have hM : ∀ k, some k = (Value.slice A4 n4 c4).ownBlock → w5.heap.size ≤ k ∧ k < wq.heap.size := fun k h => HO.out.base_le k h.symm
            have hz6 := HXQ.out.size
            clear HO HEV HE
            go_wp2_with fail
            refine (take_ok HRQ.out HRO.out (fun j hj => by have := HOK.out j hj; omega) hOL.out hCH.out).mono ?_
            rintro e' w7 ⟨x, rfl, hf, R7, X7⟩
            obtain ⟨v, rfl, hr⟩ := hf
            obtain ⟨B, bl, bd, rfl, -⟩ := rd_abs hr
            have BG7 : Hid (FdB w7 g (.slice A3 n3 c3) (.slice A4 n4 c4) D.next D.top) := X7.obj BG6.out (fun h => by have h' : g = r := h; omega)
            have BQ7 : Hid (w7.heap[q]? = some (.cells #[.int .i64 s.id, .int .i64 s.fr, .int .i64 s.at_, .int .i64 0, .string ⟨#[]⟩, .string ⟨#[]⟩, .slice none 0 0, .bool s.gone] 64 (0, 0))) := X7.obj BQ.out (fun h => by have h' : q = r := h; omega)
            have EV7 : Hid (Rd evK w7 (fun k => (w.heap.size ≤ k ∧ k ≠ g) ∧ k < w5.heap.size) (.slice A3 n3 c3) D.evs) := EV6.out.ext X7 (fun k hk _ h => by have h' : k = r := h; have := hk.1.1; omega)
            have HO7 : Hid (Own (sbK n) 64 w7 w5.heap.size (fun k => (w.heap.size ≤ k ∧ k ≠ g) ∧ k < wq.heap.size) (.slice A4 n4 c4) (D.subs.take j)) := HO6.out.ext X7 (fun k hk _ h => by have h' : k = r := h; have := hk.1.1; omega)
            have E7 : Hid (Ext (Only r) w w7) := E6.out.trans X7 (fun _ _ h => h)
            have R7' := Lib.hid R7
            have HF7 := Lib.hid hr.bound
            have hz7 := X7.size
            have hq7 := blk_lt BQ7.out
            have hg7 := blk_lt BG7.out
            clear hr R7 X7 BG6 EV6 HO6 E6 BQ
            have q0 := blk_cell BQ7.out 0
            have q1 := blk_cell BQ7.out 1
            have q2 := blk_cell BQ7.out 2
            have g2 := BG7.out.c2
            go_upto_region 13 with fail
            obtain ⟨b, hb⟩ : ∃ b, w7.heap.size = b := ⟨_, rfl⟩
            obtain ⟨w8, hw8⟩ : ∃ W, w7.alloc (.cells #[.int .i64 s.q.op, .string s.q.key, .string s.q.val, .slice B bl bd] 24) = W := ⟨_, rfl⟩
            (try rw [hb, hw8])
            have E8 : Hid (Ext Non w7 w8) := by rw [← hw8]; exact (Ext.refl _ _).alloc _
            have BB8 : Hid (w8.heap[b]? = some (.cells #[.int .i64 s.q.op, .string s.q.key, .string s.q.val, .slice B bl bd] 24 (0, 0))) := by rw [← hw8, ← hb]; exact blk_new w7 _
            have BG8 : Hid (FdB w8 g (.slice A3 n3 c3) (.slice A4 n4 c4) D.next D.top) := E8.out.obj BG7.out (fun e => e)
            have BQ8 : Hid (w8.heap[q]? = some (.cells #[.int .i64 s.id, .int .i64 s.fr, .int .i64 s.at_, .int .i64 0, .string ⟨#[]⟩, .string ⟨#[]⟩, .slice none 0 0, .bool s.gone] 64 (0, 0))) := E8.out.obj BQ7.out (fun e => e)
            have hcf : ¬ s.at_ < s.fr := by omega
            have hcn : ¬ D.next ≤ s.id := by omega
            have EV8 := Lib.hid (EV7.out.ext0 E8.out)
            have HO8 := Lib.hid (HO7.out.ext0 E8.out)
            have HF8 := Lib.hid (HF7.out.ext0 E8.out)
            have HE8 := Lib.hid (E7.out.trans0 E8.out)
            have HR8 := Lib.hid (R7'.out.ext0 E8.out)
            have hz8 := E8.out.size
            have hq8 := blk_lt BQ8.out
            have hb8 := blk_lt BB8.out
            have hg8 := blk_lt BG8.out
            clear hw8 E8 BG7 BQ7 EV7 HO7 E7 R7' HF7 q0 q1 q2 g2
            have q0 := blk_cell BQ8.out 0
            have q1 := blk_cell BQ8.out 1
            have q2 := blk_cell BQ8.out 2
            have q3 := blk_cell BQ8.out 3
            have q4 := blk_cell BQ8.out 4
            have q5 := blk_cell BQ8.out 5
            have q6 := blk_cell BQ8.out 6
            have y3 := blk_frozen BQ8.out 3
            have y4 := blk_frozen BQ8.out 4
            have y5 := blk_frozen BQ8.out 5
            have y6 := blk_frozen BQ8.out 6
            have k0 := blk_cell BB8.out 0
            have k1 := blk_cell BB8.out 1
            have k2 := blk_cell BB8.out 2
            have k3 := blk_cell BB8.out 3
            have g2 := BG8.out.c2
            go_quiet (fail)
            go_wp2_with fail
            obtain ⟨w9, hw9⟩ : ∃ W, ((((w8.drewN nq).setCell ⟨q, 3, none⟩ (.int .i64 s.q.op)).setCell ⟨q, 4, none⟩ (.string s.q.key)).setCell ⟨q, 5, none⟩ (.string s.q.val)).setCell ⟨q, 6, none⟩ (.slice B bl bd) = W := ⟨_, rfl⟩
            have E8n : Ext Non w8 (w8.drewN nq) := ext_drewN (Ext.refl Non w8) nq
            have BQ8n : (w8.drewN nq).heap[q]? = some (.cells #[.int .i64 s.id, .int .i64 s.fr, .int .i64 s.at_, .int .i64 0, .string ⟨#[]⟩, .string ⟨#[]⟩, .slice none 0 0, .bool s.gone] 64 (0, 0)) := E8n.obj BQ8.out (fun e => e)
            have BQ9 : Hid (w9.heap[q]? = some (.cells #[.int .i64 s.id, .int .i64 s.fr, .int .i64 s.at_, .int .i64 s.q.op, .string s.q.key, .string s.q.val, .slice B bl bd, .bool s.gone] 64 (0, 0))) := (set4 BQ8n hw9.symm).1
            have E9 : Ext (Only q) w8 w9 := E8n.of0.trans (set4 BQ8n hw9.symm).2 (fun _ _ h => h)
            rw [hw9]
            have BG9 : Hid (FdB w9 g (.slice A3 n3 c3) (.slice A4 n4 c4) D.next D.top) := E9.obj BG8.out (fun h => by have h' : g = q := h; omega)
            have EV9 : Hid (Rd evK w9 (fun k => (w.heap.size ≤ k ∧ k ≠ g) ∧ k < w5.heap.size) (.slice A3 n3 c3) D.evs) := EV8.out.ext E9 (fun k hk _ h => by have h' : k = q := h; have := hk.2; omega)
            have O9 : Hid (Own (sbK n) 64 w9 w5.heap.size (fun k => w.heap.size ≤ k ∧ k ≠ g) (.slice A4 n4 c4) (D.subs.take j)) := (HO8.out.ext E9 (fun k hk _ h => by have h' : k = q := h; have := hk.2; omega)).mono (fun _ hk => hk.1)
            have HF9 : Hid (Rd (fltK n) w9 (fun k => w6.heap.size ≤ k ∧ k < w7.heap.size) (.slice B bl bd) s.q.kids) := rd_up hn (HF8.out.ext E9 (fun k hk _ h => by have h' : k = q := h; have := hk.1; omega))
            have HE9 : Hid (Ext (Only r) w w9) := HE8.out.trans E9 (fun i hi h => by have h' : i = q := h; omega)
            have HR9 := Lib.hid (HR8.out.ext E9 (fun k hk _ h => by have h' : k = q := h; have := HOK.out k hk; omega) (fun h => by have h' : r = q := h; omega))
            have hz9 := E9.size
            have hq9 := blk_lt BQ9.out
            have hg9 := blk_lt BG9.out
            have hgq : g ≠ q := by omega
            have g0 := BG9.out.c1
            clear E9 hw9 E8n BQ8n BG8 BQ8 EV8 HO8 HF8 HE8 HR8 q0 q1 q2 q3 q4 q5 q6 y3 y4 y5 y6 k0 k1 k2 k3 g2 BB8
            refine Last.start_ (S := fun W => W.cell? ⟨q, 0, none⟩ = some (.int .i64 s.id) ∧ W.cell? ⟨q, 1, none⟩ = some (.int .i64 s.fr) ∧ W.cell? ⟨q, 2, none⟩ = some (.int .i64 s.at_) ∧ W.cell? ⟨q, 3, none⟩ = some (.int .i64 s.q.op) ∧ W.cell? ⟨q, 4, none⟩ = some (.string s.q.key) ∧ W.cell? ⟨q, 5, none⟩ = some (.string s.q.val) ∧ W.cell? ⟨q, 6, none⟩ = some (.slice B bl bd) ∧ W.cell? ⟨q, 7, none⟩ = some (.bool s.gone)) (ds := []) #[false, false, false, false, false, false, false, false, false, false, false, false, false, false] (by kernel_rfl) (by rfl) (by rfl) (sbS8 ((Ext.refl Non _).drew.obj BQ9.out (fun e => e))) (fun hS => ?_)
            refine Last.take_ (i := 0) (N := some 102) (v := .pointer (some ⟨g, 0, none⟩)) #[true, false, false, false, false, false, false, false, false, false, false, false, false, false] (by simp only [List.getElem?_toArray, List.getElem?_cons_zero]; rfl) rfl (by kernel_rfl) (by exact fun _ _ _ h => h) (Or.inl ⟨by rfl, fun W hW => by first | rfl | (try dsimp only at hW); go_simp⟩) hS rfl ?_
            simp only [Act.put, List.setIfInBounds_toArray, List.set_cons_zero, List.set_cons_succ]
            refine Last.take_ (i := 1) (N := some 103) (v := .pointer (some ⟨g, 0, none⟩)) #[true, true, false, false, false, false, false, false, false, false, false, false, false, false] (by simp only [List.getElem?_toArray, List.getElem?_cons_zero, List.getElem?_cons_succ]; rfl) rfl (by kernel_rfl) (by exact fun _ _ _ h => h) (Or.inl ⟨by rfl, fun W hW => by first | rfl | (try dsimp only at hW); go_simp⟩) hS rfl ?_
            simp only [Act.put, List.setIfInBounds_toArray, List.set_cons_zero, List.set_cons_succ]
            refine Last.take_ (i := 2) (N := some 104) (v := .pointer (some ⟨g, 0, none⟩)) #[true, true, true, false, false, false, false, false, false, false, false, false, false, false] (by simp only [List.getElem?_toArray, List.getElem?_cons_zero, List.getElem?_cons_succ]; rfl) rfl (by kernel_rfl) (by exact fun _ _ _ h => h) (Or.inl ⟨by rfl, fun W hW => by first | rfl | (try dsimp only at hW); go_simp⟩) hS rfl ?_
            simp only [Act.put, List.setIfInBounds_toArray, List.set_cons_zero, List.set_cons_succ]
            refine Last.take_ (i := 3) (N := some 105) (v := .pointer (some ⟨g, 1, none⟩)) #[true, true, true, true, false, false, false, false, false, false, false, false, false, false] (by simp only [List.getElem?_toArray, List.getElem?_cons_zero, List.getElem?_cons_succ]; rfl) rfl (by kernel_rfl) (by exact fun _ _ _ h => h) (Or.inl ⟨by rfl, fun W hW => by first | rfl | (try dsimp only at hW); go_simp⟩) hS rfl ?_
            simp only [Act.put, List.setIfInBounds_toArray, List.set_cons_zero, List.set_cons_succ]
            refine Last.take_ (i := 5) (N := some 107) (v := .agg #[.int .i64 s.id, .int .i64 s.fr, .int .i64 s.at_, .int .i64 s.q.op, .string s.q.key, .string s.q.val, .slice B bl bd, .bool s.gone]) #[true, true, true, true, false, true, false, false, false, false, false, false, false, false] (by simp only [List.getElem?_toArray, List.getElem?_cons_zero, List.getElem?_cons_succ]; rfl) rfl (by kernel_rfl) (by exact fun _ _ _ h => h) (Or.inl ⟨by rfl, fun W hW => by first | rfl | (try dsimp only at hW); go_simp⟩) hS rfl ?_
            simp only [Act.put, List.setIfInBounds_toArray, List.set_cons_zero, List.set_cons_succ]
            refine Last.take_ (i := 8) (N := some 110) (v := .pointer (some ⟨q, 0, none⟩)) #[true, true, true, true, false, true, false, false, true, false, false, false, false, false] (by simp only [List.getElem?_toArray, List.getElem?_cons_zero, List.getElem?_cons_succ]; rfl) rfl (by kernel_rfl) (by exact fun _ _ _ h => h) (Or.inl ⟨by rfl, fun W hW => by first | rfl | (try dsimp only at hW); go_simp⟩) hS rfl ?_
            simp only [Act.put, List.setIfInBounds_toArray, List.set_cons_zero, List.set_cons_succ]
            refine Last.take_ (i := 9) (N := some 111) (v := .int .i64 s.id) #[true, true, true, true, false, true, false, false, true, true, false, false, false, false] (by simp only [List.getElem?_toArray, List.getElem?_cons_zero, List.getElem?_cons_succ]; rfl) rfl (by kernel_rfl) (by exact fun _ _ _ h => h) (Or.inl ⟨by rfl, fun W hW => by first | rfl | (try dsimp only at hW); go_simp⟩) hS rfl ?_
            simp only [Act.put, List.setIfInBounds_toArray, List.set_cons_zero, List.set_cons_succ]
            refine Last.two_ (i := 4) (j := 6) (Ni := some 106) (Nj := some 108) #[true, true, true, true, true, true, false, false, true, true, false, false, false, false] #[true, true, true, true, false, true, true, false, true, true, false, false, false, false] (by simp only [List.getElem?_toArray, List.getElem?_cons_zero, List.getElem?_cons_succ]; rfl) (by simp only [List.getElem?_toArray, List.getElem?_cons_zero, List.getElem?_cons_succ]; rfl) rfl rfl (by kernel_rfl) (by decide) (by decide) (fun K hK => ?_) (fun K hK => ?_)
            · go_simp
              refine hK.out _ _ ((sbS8 ((Ext.refl Non _).drew.obj BQ9.out (fun e => e)))) (fun hS => ?_)
              try simp only [Act.put, List.setIfInBounds_toArray, List.set_cons_zero, List.set_cons_succ]
              refine Last.one_ (i := 6) (N := some 108) #[true, true, true, true, true, true, true, false, true, true, false, false, false, false] (by simp only [List.getElem?_toArray, List.getElem?_cons_zero, List.getElem?_cons_succ]; rfl) rfl (by kernel_rfl) (by decide) (fun K hK => ?_)
              go_simp
              refine hK.out _ _ ((sbS8 (((Ext.refl Non _).drew.alloc _).obj BQ9.out (fun e => e)))) (fun hS => ?_)
              try simp only [Act.put, List.setIfInBounds_toArray, List.set_cons_zero, List.set_cons_succ]
              refine Last.one_ (i := 7) (N := some 109) #[true, true, true, true, true, true, true, true, true, true, false, false, false, false] (by simp only [List.getElem?_toArray, List.getElem?_cons_zero, List.getElem?_cons_succ]; rfl) rfl (by kernel_rfl) (by decide) (fun K hK => ?_)
              refine step_app (sbK n) (ok := (fun k => w.heap.size ≤ k ∧ k ≠ g)) (v := .slice A4 n4 c4) (vx := .slice (some ⟨w9.heap.size, 0, none⟩) 1 1) (xs := D.subs.take j) (ys := [s]) w5.heap.size (by rfl) _ _ 53 64 _ 96 (by rfl) Try.underlying53 (info64 n) rfl (by show 0 < 8; decide) (by simp [Act.eval]) (by simp [Act.eval]) (O9.out.ext0 ((Ext.refl Non w9).drew.alloc _)) ?_ ?_ ?_ ?_ ?_ ?_
              · refine Rd.lit_at (cs := [.int .i64 s.id, .int .i64 s.fr, .int .i64 s.at_, .int .i64 s.q.op, .string s.q.key, .string s.q.val, .slice B bl bd, .bool s.gone]) (e := 64) (fr := (0, 0)) (blk_new w9.drew _) ⟨_, rfl, ?_⟩ ⟨⟨by have : w9.drew.heap.size = w9.heap.size := rfl; omega, by have : w9.drew.heap.size = w9.heap.size := rfl; omega⟩, fun h => by have := hM _ h; have : w9.drew.heap.size = w9.heap.size := rfl; omega⟩
                exact (HF9.out.ext0 ((Ext.refl Non w9).drew.alloc _)).mono (fun k hk => ⟨⟨by have := hk.1; omega, by have := hk.1; omega⟩, fun h => by have := hM _ h; have := hk.1; omega⟩)
              · intro k hk
                have hk' : w9.heap.size + 1 ≤ k := by simpa using hk
                exact ⟨by omega, by omega⟩
              · simp only [List.length_take, List.length_singleton]; omega
              · simp only [List.length_take, List.length_singleton]; omega
              · simp; omega
              intro v' w3 hown hext hblk
              obtain ⟨A6, n6, c6, rfl⟩ : ∃ A n c, v' = .slice A n c := by obtain ⟨A6, c6, h6, _, _⟩ := hown.slice; exact ⟨_, _, _, h6⟩
              have E3 : Hid (Ext (fun k => some k = (Value.slice A4 n4 c4).ownBlock) w9 w3) := Ext.trans ((Ext.refl _ _).drew.alloc _) hext (fun _ _ e => e)
              have O3 := Lib.hid hown
              have hng : ¬ some g = (Value.slice A4 n4 c4).ownBlock := fun h => by have := hM _ h; omega
              have hnq : ¬ some q = (Value.slice A4 n4 c4).ownBlock := fun h => by have := hM _ h; omega
              have BG3 : Hid (FdB w3 g _ _ _ _) := E3.out.obj BG9.out hng
              have BQ3 : Hid (w3.heap[q]? = some (.cells #[.int .i64 s.id, .int .i64 s.fr, .int .i64 s.at_, .int .i64 s.q.op, .string s.q.key, .string s.q.val, .slice B bl bd, .bool s.gone] 64 (0, 0))) := E3.out.obj BQ9.out hnq
              have BQ4 : Hid ((w3.setCell ⟨g, 1, none⟩ (.slice A6 n6 c6)).heap[q]? = some (.cells #[.int .i64 s.id, .int .i64 s.fr, .int .i64 s.at_, .int .i64 s.q.op, .string s.q.key, .string s.q.val, .slice B bl bd, .bool s.gone] 64 (0, 0))) := blk_far BQ3.out (by show q ≠ g; omega) _
              have z1 := BG3.out.fz 1
              have y1 := BG3.out.c1
              have hgl3 := blk_lt BG3.out
              clear hown hext hblk
              refine hK.out _ _ (sbS8 BQ3.out) (fun hS => ?_)
              try simp only [Act.put, List.setIfInBounds_toArray, List.set_cons_zero, List.set_cons_succ]
              refine Last.take_ (i := 10) (N := some 112) (v := .pointer (some ⟨g, 0, none⟩)) #[true, true, true, true, true, true, true, true, true, true, true, false, false, false] (by simp only [List.getElem?_toArray, List.getElem?_cons_zero, List.getElem?_cons_succ]; rfl) rfl (by kernel_rfl) (by exact fun _ _ _ h => h) (Or.inl ⟨by rfl, fun W hW => by first | rfl | (try dsimp only at hW); go_simp⟩) hS rfl ?_
              simp only [Act.put, List.setIfInBounds_toArray, List.set_cons_zero, List.set_cons_succ]
              refine Last.take_ (i := 11) (N := some 113) (v := .pointer (some ⟨g, 1, none⟩)) #[true, true, true, true, true, true, true, true, true, true, true, true, false, false] (by simp only [List.getElem?_toArray, List.getElem?_cons_zero, List.getElem?_cons_succ]; rfl) rfl (by kernel_rfl) (by exact fun _ _ _ h => h) (Or.inl ⟨by rfl, fun W hW => by first | rfl | (try dsimp only at hW); go_simp⟩) hS rfl ?_
              simp only [Act.put, List.setIfInBounds_toArray, List.set_cons_zero, List.set_cons_succ]
              refine Last.one_ (i := 12) (N := none) #[true, true, true, true, true, true, true, true, true, true, true, true, true, false] (by simp only [List.getElem?_toArray, List.getElem?_cons_zero, List.getElem?_cons_succ]; rfl) rfl (by kernel_rfl) (by decide) (fun K hK => ?_)
              go_simp
              refine hK.out _ _ ((sbS8 ((Ext.refl Non _).obj BQ4.out (fun e => e)))) (fun hS => ?_)
              try simp only [Act.put, List.setIfInBounds_toArray, List.set_cons_zero, List.set_cons_succ]
              refine Last.pure_ (i := 13) (N := some 7) (v := .int .i64 s.id) #[true, true, true, true, true, true, true, true, true, true, true, true, true, true] (by simp only [List.getElem?_toArray, List.getElem?_cons_zero, List.getElem?_cons_succ]; rfl) rfl (by kernel_rfl) (by exact fun _ _ _ h => h) (by first | exact ⟨by rfl, fun W => by first | rfl | (try dsimp only); go_simp⟩ | exact Or.inl ⟨by rfl, fun W => by first | rfl | (try dsimp only); go_simp⟩) rfl ?_
              simp only [Act.put, List.setIfInBounds_toArray, List.set_cons_zero, List.set_cons_succ]
              refine Last.done_ (by kernel_rfl) ?_
              have BG4 : Hid (FdB (w3.setCell ⟨g, 1, none⟩ (.slice A6 n6 c6)) g (.slice A3 n3 c3) (.slice A6 n6 c6) D.next D.top) := blk_set BG3.out 1 _
              have e34 : Ext (Only g) w3 (w3.setCell ⟨g, 1, none⟩ (.slice A6 n6 c6)) := og_set w3 g 1 _
              have O4 : Hid (Own (sbK n) 64 (w3.setCell ⟨g, 1, none⟩ (.slice A6 n6 c6)) w5.heap.size (fun k => w.heap.size ≤ k ∧ k ≠ g) (.slice A6 n6 c6) (D.subs.take (j + 1))) := by
                have := O3.out.ext e34 (fun k hk _ h => by have h' : k = g := h; exact hk.2 h')
                show Own _ _ _ _ _ _ _
                rw [List.take_succ_eq_append_getElem hlt, (List.getElem?_eq_some_iff.1 HSX.out).2]
                exact this
              have V4 : Hid (Rd evK (w3.setCell ⟨g, 1, none⟩ (.slice A6 n6 c6)) (fun k => (w.heap.size ≤ k ∧ k ≠ g) ∧ k < w5.heap.size) (.slice A3 n3 c3) D.evs) := (EV9.out.ext E3.out (fun k hk _ h => by have := hM _ h; have := hk.2; omega)).ext e34 (fun k hk _ h => by have h' : k = g := h; exact hk.1.2 h')
              have E4 : Hid (Ext (Only r) w (w3.setCell ⟨g, 1, none⟩ (.slice A6 n6 c6))) :=
                (HE9.out.trans E3.out (fun i hi h => by have := hM _ h; omega)).trans e34 (fun i hi h => by have h' : i = g := h; omega)
              have R4 : Hid (RAt (w3.setCell ⟨g, 1, none⟩ (.slice A6 n6 c6)) okR r bs ((D.subs.drop (j + 1)).flatMap (sbB n) ++ rest)) := (HR9.out.ext E3.out (fun k hk _ h => by have := hM _ h; have := HOK.out k hk; omega) (fun h => by have := hM _ h; omega)).ext e34 (fun k hk _ h => by have h' : k = g := h; have := HOK.out k hk; omega) (fun h => by have h' : r = g := h; omega)
              have z4 : Hid (w5.heap.size ≤ (w3.setCell ⟨g, 1, none⟩ (.slice A6 n6 c6)).heap.size) := by have h1 := E3.out.size; have h2 := e34.size; show _ ≤ _; omega
              go_wp2_with fail
              go_roundw
              case rel => exact ⟨j + 1, A6, n6, c6, by rw [lastId_take HSX.out], by go_num, by omega, E4.out, z4.out, BG4.out, V4.out, O4.out, R4.out⟩
              case measure => simp [intOf]; omega
            · go_simp
              refine hK.out _ _ ((sbS8 (((Ext.refl Non _).drew.alloc _).obj BQ9.out (fun e => e)))) (fun hS => ?_)
              try simp only [Act.put, List.setIfInBounds_toArray, List.set_cons_zero, List.set_cons_succ]
              have ga : (w9.alloc (.cells #[.int .i64 s.id, .int .i64 s.fr, .int .i64 s.at_, .int .i64 s.q.op, .string s.q.key, .string s.q.val, .slice B bl bd, .bool s.gone] 64)).drew.cell? ⟨g, 1, none⟩ = _ := ((Ext.refl Non w9).drew.alloc (.cells #[.int .i64 s.id, .int .i64 s.fr, .int .i64 s.at_, .int .i64 s.q.op, .string s.q.key, .string s.q.val, .slice B bl bd, .bool s.gone] 64)).cell g0 (fun e => e)
              have gb : (w9.alloc (.cells #[.int .i64 s.id, .int .i64 s.fr, .int .i64 s.at_, .int .i64 s.q.op, .string s.q.key, .string s.q.val, .slice B bl bd, .bool s.gone] 64)).cell? ⟨g, 1, none⟩ = _ := ga
              refine Last.one_ (i := 4) (N := some 106) #[true, true, true, true, true, true, true, false, true, true, false, false, false, false] (by simp only [List.getElem?_toArray, List.getElem?_cons_zero, List.getElem?_cons_succ]; rfl) rfl (by kernel_rfl) (by decide) (fun K hK => ?_)
              go_simp
              refine hK.out _ _ ((sbS8 (((Ext.refl Non _).drew.alloc _).obj BQ9.out (fun e => e)))) (fun hS => ?_)
              try simp only [Act.put, List.setIfInBounds_toArray, List.set_cons_zero, List.set_cons_succ]
              refine Last.one_ (i := 7) (N := some 109) #[true, true, true, true, true, true, true, true, true, true, false, false, false, false] (by simp only [List.getElem?_toArray, List.getElem?_cons_zero, List.getElem?_cons_succ]; rfl) rfl (by kernel_rfl) (by decide) (fun K hK => ?_)
              refine step_app (sbK n) (ok := (fun k => w.heap.size ≤ k ∧ k ≠ g)) (v := .slice A4 n4 c4) (vx := .slice (some ⟨w9.heap.size, 0, none⟩) 1 1) (xs := D.subs.take j) (ys := [s]) w5.heap.size (by rfl) _ _ 53 64 _ 96 (by rfl) Try.underlying53 (info64 n) rfl (by show 0 < 8; decide) (by simp [Act.eval]) (by simp [Act.eval]) (O9.out.ext0 ((Ext.refl Non w9).drew.alloc _)) ?_ ?_ ?_ ?_ ?_ ?_
              · refine Rd.lit_at (cs := [.int .i64 s.id, .int .i64 s.fr, .int .i64 s.at_, .int .i64 s.q.op, .string s.q.key, .string s.q.val, .slice B bl bd, .bool s.gone]) (e := 64) (fr := (0, 0)) (blk_new w9.drew _) ⟨_, rfl, ?_⟩ ⟨⟨by have : w9.drew.heap.size = w9.heap.size := rfl; omega, by have : w9.drew.heap.size = w9.heap.size := rfl; omega⟩, fun h => by have := hM _ h; have : w9.drew.heap.size = w9.heap.size := rfl; omega⟩
                exact (HF9.out.ext0 ((Ext.refl Non w9).drew.alloc _)).mono (fun k hk => ⟨⟨by have := hk.1; omega, by have := hk.1; omega⟩, fun h => by have := hM _ h; have := hk.1; omega⟩)
              · intro k hk
                have hk' : w9.heap.size + 1 ≤ k := by simpa using hk
                exact ⟨by omega, by omega⟩
              · simp only [List.length_take, List.length_singleton]; omega
              · simp only [List.length_take, List.length_singleton]; omega
              · simp; omega
              intro v' w3 hown hext hblk
              obtain ⟨A6, n6, c6, rfl⟩ : ∃ A n c, v' = .slice A n c := by obtain ⟨A6, c6, h6, _, _⟩ := hown.slice; exact ⟨_, _, _, h6⟩
              have E3 : Hid (Ext (fun k => some k = (Value.slice A4 n4 c4).ownBlock) w9 w3) := Ext.trans ((Ext.refl _ _).drew.alloc _) hext (fun _ _ e => e)
              have O3 := Lib.hid hown
              have hng : ¬ some g = (Value.slice A4 n4 c4).ownBlock := fun h => by have := hM _ h; omega
              have hnq : ¬ some q = (Value.slice A4 n4 c4).ownBlock := fun h => by have := hM _ h; omega
              have BG3 : Hid (FdB w3 g _ _ _ _) := E3.out.obj BG9.out hng
              have BQ3 : Hid (w3.heap[q]? = some (.cells #[.int .i64 s.id, .int .i64 s.fr, .int .i64 s.at_, .int .i64 s.q.op, .string s.q.key, .string s.q.val, .slice B bl bd, .bool s.gone] 64 (0, 0))) := E3.out.obj BQ9.out hnq
              have BQ4 : Hid ((w3.setCell ⟨g, 1, none⟩ (.slice A6 n6 c6)).heap[q]? = some (.cells #[.int .i64 s.id, .int .i64 s.fr, .int .i64 s.at_, .int .i64 s.q.op, .string s.q.key, .string s.q.val, .slice B bl bd, .bool s.gone] 64 (0, 0))) := blk_far BQ3.out (by show q ≠ g; omega) _
              have z1 := BG3.out.fz 1
              have y1 := BG3.out.c1
              have hgl3 := blk_lt BG3.out
              clear hown hext hblk
              refine hK.out _ _ (sbS8 BQ3.out) (fun hS => ?_)
              try simp only [Act.put, List.setIfInBounds_toArray, List.set_cons_zero, List.set_cons_succ]
              refine Last.take_ (i := 10) (N := some 112) (v := .pointer (some ⟨g, 0, none⟩)) #[true, true, true, true, true, true, true, true, true, true, true, false, false, false] (by simp only [List.getElem?_toArray, List.getElem?_cons_zero, List.getElem?_cons_succ]; rfl) rfl (by kernel_rfl) (by exact fun _ _ _ h => h) (Or.inl ⟨by rfl, fun W hW => by first | rfl | (try dsimp only at hW); go_simp⟩) hS rfl ?_
              simp only [Act.put, List.setIfInBounds_toArray, List.set_cons_zero, List.set_cons_succ]
              refine Last.take_ (i := 11) (N := some 113) (v := .pointer (some ⟨g, 1, none⟩)) #[true, true, true, true, true, true, true, true, true, true, true, true, false, false] (by simp only [List.getElem?_toArray, List.getElem?_cons_zero, List.getElem?_cons_succ]; rfl) rfl (by kernel_rfl) (by exact fun _ _ _ h => h) (Or.inl ⟨by rfl, fun W hW => by first | rfl | (try dsimp only at hW); go_simp⟩) hS rfl ?_
              simp only [Act.put, List.setIfInBounds_toArray, List.set_cons_zero, List.set_cons_succ]
              refine Last.one_ (i := 12) (N := none) #[true, true, true, true, true, true, true, true, true, true, true, true, true, false] (by simp only [List.getElem?_toArray, List.getElem?_cons_zero, List.getElem?_cons_succ]; rfl) rfl (by kernel_rfl) (by decide) (fun K hK => ?_)
              go_simp
              refine hK.out _ _ ((sbS8 ((Ext.refl Non _).obj BQ4.out (fun e => e)))) (fun hS => ?_)
              try simp only [Act.put, List.setIfInBounds_toArray, List.set_cons_zero, List.set_cons_succ]
              refine Last.pure_ (i := 13) (N := some 7) (v := .int .i64 s.id) #[true, true, true, true, true, true, true, true, true, true, true, true, true, true] (by simp only [List.getElem?_toArray, List.getElem?_cons_zero, List.getElem?_cons_succ]; rfl) rfl (by kernel_rfl) (by exact fun _ _ _ h => h) (by first | exact ⟨by rfl, fun W => by first | rfl | (try dsimp only); go_simp⟩ | exact Or.inl ⟨by rfl, fun W => by first | rfl | (try dsimp only); go_simp⟩) rfl ?_
              simp only [Act.put, List.setIfInBounds_toArray, List.set_cons_zero, List.set_cons_succ]
              refine Last.done_ (by kernel_rfl) ?_
              have BG4 : Hid (FdB (w3.setCell ⟨g, 1, none⟩ (.slice A6 n6 c6)) g (.slice A3 n3 c3) (.slice A6 n6 c6) D.next D.top) := blk_set BG3.out 1 _
              have e34 : Ext (Only g) w3 (w3.setCell ⟨g, 1, none⟩ (.slice A6 n6 c6)) := og_set w3 g 1 _
              have O4 : Hid (Own (sbK n) 64 (w3.setCell ⟨g, 1, none⟩ (.slice A6 n6 c6)) w5.heap.size (fun k => w.heap.size ≤ k ∧ k ≠ g) (.slice A6 n6 c6) (D.subs.take (j + 1))) := by
                have := O3.out.ext e34 (fun k hk _ h => by have h' : k = g := h; exact hk.2 h')
                show Own _ _ _ _ _ _ _
                rw [List.take_succ_eq_append_getElem hlt, (List.getElem?_eq_some_iff.1 HSX.out).2]
                exact this
              have V4 : Hid (Rd evK (w3.setCell ⟨g, 1, none⟩ (.slice A6 n6 c6)) (fun k => (w.heap.size ≤ k ∧ k ≠ g) ∧ k < w5.heap.size) (.slice A3 n3 c3) D.evs) := (EV9.out.ext E3.out (fun k hk _ h => by have := hM _ h; have := hk.2; omega)).ext e34 (fun k hk _ h => by have h' : k = g := h; exact hk.1.2 h')
              have E4 : Hid (Ext (Only r) w (w3.setCell ⟨g, 1, none⟩ (.slice A6 n6 c6))) :=
                (HE9.out.trans E3.out (fun i hi h => by have := hM _ h; omega)).trans e34 (fun i hi h => by have h' : i = g := h; omega)
              have R4 : Hid (RAt (w3.setCell ⟨g, 1, none⟩ (.slice A6 n6 c6)) okR r bs ((D.subs.drop (j + 1)).flatMap (sbB n) ++ rest)) := (HR9.out.ext E3.out (fun k hk _ h => by have := hM _ h; have := HOK.out k hk; omega) (fun h => by have := hM _ h; omega)).ext e34 (fun k hk _ h => by have h' : k = g := h; have := HOK.out k hk; omega) (fun h => by have h' : r = g := h; omega)
              have z4 : Hid (w5.heap.size ≤ (w3.setCell ⟨g, 1, none⟩ (.slice A6 n6 c6)).heap.size) := by have h1 := E3.out.size; have h2 := e34.size; show _ ≤ _; omega
              go_wp2_with fail
              go_roundw
              case rel => exact ⟨j + 1, A6, n6, c6, by rw [lastId_take HSX.out], by go_num, by omega, E4.out, z4.out, BG4.out, V4.out, O4.out, R4.out⟩
              case measure => simp [intOf]; omega
        · obtain rfl : j = D.subs.length := by omega
          have HRX : RAt wq okR r bs rest := by
            have := HRR.out
            rw [List.drop_length] at this
            exact this
          have OS : Rd (sbK n) wq (fun k => w.heap.size ≤ k ∧ k ≠ g) (.slice A4 n4 c4) D.subs := by
            have := HO.out.rd
            rw [List.take_length] at this
            exact this
          have hn3 : n3 = D.evs.length := by
            obtain ⟨_, _, hs, _, _⟩ := HEV.out.slice
            simp only [Value.slice.injEq] at hs
            exact hs.2.1
          have F : Hid (Fd n (fun k => w.heap.size ≤ k ∧ k ≠ g) wq g D) := ⟨_, _, _, _, _, _, BG.out, HEV.out.mono (fun k hk => hk.1), OS, fun h => h.2 rfl⟩
          have HRX' := Lib.hid HRX
          obtain ⟨a, ha, hR, hd⟩ := HRX
          have hRR := Lib.hid hR
          have b0 := BG.out.c0
          have hgw6 := blk_lt BG.out
          have hzw := HE.out.size
          clear hR hd HRR HO OS HEV
          go_wp2_with fail
          refine (Err_calls hRR.out).mono ?_
          rintro e w6 ⟨rfl, rfl⟩
          go_wp2_with fail
          refine (trim_calls F.out (by omega) (fun k hk => ⟨by omega, by omega⟩)).mono ?_
          rintro e w7 ⟨rfl, hF, hX⟩
          rw [HD.out.trim] at hF
          have F7 := Lib.hid hF
          obtain ⟨A7, n7, c7, A8, n8, c8, hb, h1, h2, h3⟩ := hF
          have hn7 : n7 = D.evs.length := by
            obtain ⟨_, _, hs, _, _⟩ := h1.slice
            simp only [Value.slice.injEq] at hs
            exact hs.2.1
          have b7 := hb.c0
          have E7 : Hid (Ext (Only r) w w7) := HE.out.trans hX (fun i hi h => by have h' : i = g := h; omega)
          have R7 := Lib.hid (HRX'.out.ext hX (fun k hk _ h => by have h' : k = g := h; have := HOK.out k hk; omega) (fun h => by have h' : r = g := h; omega))
          subst hn3
          subst hn7
          clear hb h1 h2 h3 hX
          go_wp2_with fail
          go_region
          go_wp2_with fail
          go_ret2
          exact ⟨g, rfl, hgw, F7.out.ext0 (Ext.refl Non w7).drew, R7.out.ext0 (Ext.refl Non w7).drew, E7.out.drew⟩
end Go.Proofs.Ytdjfijdnhfmeeaa

