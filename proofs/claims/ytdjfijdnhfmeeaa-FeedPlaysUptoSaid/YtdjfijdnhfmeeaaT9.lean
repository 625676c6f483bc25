/- The document's Read. -/
import Derived.Test.YtdjfijdnhfmeeaaT8
import Derived.Test.YtdjfijdnhfmeeaaSB
import Derived.Test.YtdjfijdnhfmeeaaN3
import Derived.Test.YtdjfijdnhfmeeaaSA
import Derived.Deep.CutBlock
import Derived.Deep.CutRange
namespace Go.Proofs.Ytdjfijdnhfmeeaa
open Go.RowKit Go.TM
theorem _root_.Go.TM.Ext.drewN {M : Nat → Prop} {a b : World} (h : Ext M a b) (n : Nat) : Ext M a (b.drewN n) := h.trans0 ⟨rfl, rfl, rfl, Nat.le_refl _, fun _ _ _ => rfl⟩
def prevAt (l : List Ev) : Nat → Option Int
  | 0 => none
  | j + 1 => (l[j]?).map Ev.pos
theorem hereOf_take {p : Int} {l : List Ev} {j : Nat} {y : Ev} (h : l[j]? = some y) : hereOf p (l.take (j + 1)) = hereOf p (l.take j) ++ (if y.pos = p then [y] else []) := by
  obtain ⟨hj, rfl⟩ := List.getElem?_eq_some_iff.1 h
  unfold hereOf
  rw [List.take_succ_eq_append_getElem hj, List.filter_append]
  congr 1
  by_cases c : l[j].pos = p
  · rw [if_pos c, List.filter_cons_of_pos (by simpa using c)]; rfl
  · rw [if_neg c, List.filter_cons_of_neg (by simpa using c)]; rfl
theorem hereOf_len (p : Int) (l : List Ev) : (hereOf p l).length ≤ l.length := List.length_filter_le _ _
set_option maxRecDepth 100000 in
set_option maxHeartbeats 16000000 in
theorem RRead_calls {w : World} {n g : Nat} {ok : Nat → Prop} {D : Fdr} (h : Rf n ok w g D) (hgd : Good n D) (heo : EvOrd D) (hky : ∀ e ∈ D.evs, e.key.size ≤ maxLen) (id after most : Int) :
    Calls Try.prog 27 #[.pointer (some ⟨g, 0, none⟩), .int .i64 id, .int .i64 after, .int .i64 most] w (ReadPost (readR n D id after most) w) := by
  have HF := Lib.hid h
  have HD := Lib.hid (sub_calls h id)
  have hgone : ∀ u v : Int, v ≠ 0 → findR D.subs id = (0, v) → subR D.subs id = (u, v) → Calls Try.prog 27 #[.pointer (some ⟨g, 0, none⟩), .int .i64 id, .int .i64 after, .int .i64 most] w (ReadPost (readR n D id after most) w) := fun u v hv he hsu => by
    have HT : Hid (readR n D id after most = ([], 0, v)) := by show _ = _; rw [readR, he, if_pos hv]
    rw [hsu] at HD
    have ev : (v == 0) = false := beq_eq_false_iff_ne.2 hv
    clear h hgd heo hky he hsu
    go_enter Try.func27, Try.ntmps27
    go_wp2_with fail
    refine HD.out.mono ?_
    rintro e w5 ⟨rfl, he⟩
    have HE := Lib.hid he
    clear he
    go_wp2_with fail
    go_ret3
    rw [HT.out]
    exact ⟨none, 0, 0, rfl, Own.nil _ _ _ _ _, HE.out⟩
  rcases subR_cases D.subs id with ⟨hr, hr2⟩ | ⟨i, x, hx, -, ⟨-, hr, hr2⟩ | ⟨hgx, hr, hr2⟩⟩
  · exact hgone _ 80 (by decide) hr hr2
  · exact hgone _ 81 (by decide) hr hr2
  · have HR : readR n D id after most = if after < x.at_ then (([], 0, 82) : List Ev × Int × Int) else if D.top < after then ([], 0, 5) else match readK (passQ n x.q) D.evs after most D.evs none [] after with
        | (out, some up) => (out, up, 0)
        | (out, none) => (out, D.top, 0) := by
      rw [readR, hr, if_neg (fun h => h rfl)]
      simp only [Int.toNat_natCast, hx]
      rw [readK_eq heo.ord D.evs.length [] D.evs none [] after rfl (Nat.le_refl _) (fun a ha => by cases ha) (fun p hp => by cases hp)]
      rfl
    rw [hr2] at HD
    obtain ⟨A1, n1, c1, A2, n2, c2, hb, h1, h2, h3⟩ := h
    have hn2 : n2 = D.subs.length := by
      obtain ⟨_, _, hs, _, _⟩ := h2.slice
      simp only [Value.slice.injEq] at hs
      exact hs.2.1
    have hn1 : n1 = D.evs.length := by
      obtain ⟨_, _, hs, _, _⟩ := h1.slice
      simp only [Value.slice.injEq] at hs
      exact hs.2.1
    have hin : i < n2 := by have := (List.getElem?_eq_some_iff.1 hx).1; omega
    obtain ⟨ga, offa, B, bl, bd, rfl, hga, hgla, a0, a1, a2, a3, a4, a5, a6, a7, ar⟩ := sb_at h2 hx
    obtain ⟨L, hL⟩ : ∃ L, D.evs = L := ⟨_, rfl⟩
    rw [hL] at h1 hn1 HR
    have hm32 : n1 ≤ 32 := by rw [hn1, ← hL]; exact hgd.evs
    have H1 := Lib.hid h1
    have HOL := Lib.hid (hgd.okL x (List.mem_of_getElem? hx))
    have HNW : Hid (∀ e ∈ L, e.now.size ≤ 1048576 ∧ e.key.size ≤ maxLen) := fun e he => ⟨hgd.now e (by rw [hL]; exact he), hky e (by rw [hL]; exact he)⟩
    have HN1 := Lib.hid hn1
    have hgl := blk_lt hb
    have b0 := blk_cell hb 0
    have b1 := blk_cell hb 1
    have b3 := blk_cell hb 3
    have HA3 := Lib.hid a3
    have HA4 := Lib.hid a4
    have HA5 := Lib.hid a5
    have HA6 := Lib.hid a6
    have HAR := Lib.hid ar
    have HHR := Lib.hid HR
    clear hr hr2 hx hb h1 h2 h3 hgone a0 a1 a3 a4 a5 a6 a7 ar hga hn2 HR hgd heo hky hn1 hL hgx
    by_cases ca : after < x.at_
    · have HT : Hid (readR n D id after most = ([], 0, 82)) := by show _ = _; rw [HHR.out, if_pos ca]
      go_enter Try.func27, Try.ntmps27
      go_wp2_with fail
      refine HD.out.mono ?_
      rintro e w5 ⟨rfl, he⟩
      have HE := Lib.hid he
      have b1 := he.cell b1 (fun e => e)
      have a2 := he.cell a2 (fun e => e)
      clear he
      go_wp2_with fail
      go_ret3
      rw [HT.out]
      exact ⟨none, 0, 0, rfl, Own.nil _ _ _ _ _, HE.out⟩
    · by_cases c3 : D.top < after
      · have HT : Hid (readR n D id after most = ([], 0, 5)) := by show _ = _; rw [HHR.out, if_neg ca, if_pos c3]
        go_enter Try.func27, Try.ntmps27
        go_wp2_with fail
        refine HD.out.mono ?_
        rintro e w5 ⟨rfl, he⟩
        have HE := Lib.hid he
        have b1 := he.cell b1 (fun e => e)
        have b3 := he.cell b3 (fun e => e)
        have a2 := he.cell a2 (fun e => e)
        clear he
        go_wp2_with fail
        go_ret3
        rw [HT.out]
        exact ⟨none, 0, 0, rfl, Own.nil _ _ _ _ _, HE.out⟩
      · have HT : Hid (readR n D id after most = match readK (passQ n x.q) L after most L none [] after with
            | (out, some up) => (out, up, 0)
            | (out, none) => (out, D.top, 0)) := by show _ = _; rw [HHR.out, if_neg ca, if_neg c3]
        clear HHR
        go_enter Try.func27, Try.ntmps27
        go_wp2_with fail
        refine HD.out.mono ?_
        rintro e w5 ⟨rfl, he⟩
        have HE0 := Lib.hid he
        have B0 := Lib.hid b0
        have B1 := Lib.hid b1
        have B3 := Lib.hid b3
        have b0 := he.cell b0 (fun e => e)
        have b1 := he.cell b1 (fun e => e)
        have b3 := he.cell b3 (fun e => e)
        have a2 := he.cell a2 (fun e => e)
        clear he
        go_wp2_with fail
        go_loopw [13, 14, 51] (fun s13 s14 s51 wr => ∃ (j : Nat) (out : List Ev) (up : Int) (A3 : Option Addr) (n3 c3 : Nat), s13 = .slice A3 n3 c3 ∧ s14 = .int .i64 up ∧ s51 = .int .i64 (j : Int) ∧ j ≤ n1 ∧ n3 ≤ 32 * j ∧ Hid (Ext Non w wr) ∧ Hid (Own evK 43 wr w.heap.size (fun k => w.heap.size ≤ k) (.slice A3 n3 c3) out) ∧ Hid (readK (passQ n x.q) L after most (L.drop j) (prevAt L j) out up = readK (passQ n x.q) L after most L none [] after)) (fun _ _ s51 _ => n1 - (intOf s51).toNat)
        case atStart => exact ⟨0, [], after, none, 0, 0, rfl, rfl, rfl, by omega, by omega, HE0.out, Own.nil _ _ _ _ _, rfl⟩
        case round =>
          obtain ⟨j, out, up, A3, n3, c3, rfl, rfl, rfl, hj, hn3, HE, HO, HG⟩ := hrel
          by_cases hlt : j < n1
          · obtain ⟨e0, he0⟩ : ∃ e, L[j]? = some e := ⟨_, List.getElem?_eq_getElem (by have := HN1.out; omega)⟩
            obtain ⟨ge, offe, rfl, hge, hgle, d0, d1, d2, d3, d4, d5⟩ := ev_at (H1.out.ext0 HE.out) he0
            have HE0' := Lib.hid he0
            have r0 := HE.out.cell B0.out (fun e => e)
            clear he0 hge
            obtain ⟨q, hq⟩ : ∃ q, wr.heap.size = q := ⟨_, rfl⟩
            have HMQ : Hid (∀ k, (Value.slice A3 n3 c3).ownBlock = some k → k < q) := fun k hk => by rw [← hq]; exact (HO.out.base_le k hk).2
            obtain ⟨w2, hw2⟩ : ∃ w2, wr.alloc (.cells #[.int .i64 e0.pos, .string e0.key, .bool e0.had, .string e0.old, .bool e0.has, .string e0.now] 43) = w2 := ⟨_, rfl⟩
            have E2 : Hid (Ext Non wr w2) := by rw [← hw2]; exact (Ext.refl _ _).alloc _
            have Q2 : Hid (w2.heap[q]? = some (.cells #[.int .i64 e0.pos, .string e0.key, .bool e0.had, .string e0.old, .bool e0.has, .string e0.now] 43 (0, 0))) := by rw [← hw2, ← hq]; exact blk_new wr _
            have k0 := blk_cell Q2.out 0
            have EX2 : Hid (Ext Non w w2) := HE.out.trans0 E2.out
            have p0 := EX2.out.cell B0.out (fun e => e)
            have HPV : Hid (∀ e1, 0 < j → L[j - 1]? = some e1 → w2.cell? ⟨ge, offe + (j - 1) * 6, none⟩ = some (.int .i64 e1.pos)) := fun e1 _ h1 => by
              obtain ⟨ge', offe', hA, -, -, f0, -⟩ := ev_at (H1.out.ext0 EX2.out) h1
              simp only [Option.some.injEq, Addr.mk.injEq, and_true] at hA
              obtain ⟨rfl, rfl⟩ := hA
              exact f0
            have hdrop : Hid (L.drop j = e0 :: L.drop (j + 1)) := by
              obtain ⟨h1, h2⟩ := List.getElem?_eq_some_iff.1 HE0'.out
              show _ = _
              rw [List.drop_eq_getElem_cons h1, h2]
            have hpnext : Hid (prevAt L (j + 1) = some e0.pos) := by
              show (L[j]?).map Ev.pos = _
              rw [HE0'.out]
              rfl
            have hql := blk_lt Q2.out
            obtain ⟨b, hbb⟩ : ∃ b, decide (e0.pos ≤ after ∨ prevAt L j = some e0.pos) = b := ⟨_, rfl⟩
            have HBB := Lib.hid hbb
            clear hbb
            go_upto_region 13 with fail
            go_cut [77] from 56 to 77 (fun s77 wx => s77 = .bool b ∧ ∃ n, w2.drewN n = wx)
            case first =>
              by_cases h1 : e0.pos ≤ after
              · have hb : b = true := by rw [← HBB.out]; exact decide_eq_true (.inl h1)
                subst hb
                go_quiet (fail)
                go_wp2_with fail
                go_meet
                exact ⟨rfl, _, rfl⟩
              · by_cases h2 : 0 < j
                · obtain ⟨e1, he1⟩ : ∃ e, L[j - 1]? = some e := ⟨_, List.getElem?_eq_getElem (by have := HN1.out; omega)⟩
                  have f0 := HPV.out e1 h2 he1
                  have hpj : prevAt L j = some e1.pos := by
                    obtain ⟨j', rfl⟩ : ∃ j', j = j' + 1 := ⟨j - 1, by omega⟩
                    show (L[j']?).map Ev.pos = _
                    rw [show L[j']? = some e1 from he1]
                    rfl
                  have HPJ := Lib.hid hpj
                  clear he1 hpj
                  by_cases h3 : e1.pos = e0.pos
                  · have hb : b = true := by rw [← HBB.out]; exact decide_eq_true (.inr (by rw [HPJ.out, h3]))
                    have h3b : (e1.pos == e0.pos) = true := beq_iff_eq.2 h3
                    subst hb
                    clear h3
                    go_quiet (fail)
                    go_wp2_with fail
                    go_meet
                    exact ⟨rfl, _, rfl⟩
                  · have hb : b = false := by rw [← HBB.out]; exact decide_eq_false (by rintro (c | c); exact h1 c; rw [HPJ.out] at c; exact h3 (Option.some.inj c))
                    have h3b : (e1.pos == e0.pos) = false := beq_eq_false_iff_ne.2 h3
                    subst hb
                    clear h3
                    go_quiet (fail)
                    go_wp2_with fail
                    go_meet
                    exact ⟨rfl, _, rfl⟩
                · obtain rfl : j = 0 := by omega
                  have hb : b = false := by rw [← HBB.out]; exact decide_eq_false (by rintro (c | c); exact h1 c; cases c)
                  subst hb
                  go_quiet (fail)
                  go_wp2_with fail
                  go_meet
                  exact ⟨rfl, _, rfl⟩
            case rest =>
              obtain ⟨rfl, nn, hnn⟩ := hcut
              have e10 : Ext Non w2 wc := by rw [← hnn]; exact (Ext.refl Non w2).drewN nn
              have EC2 := Lib.hid e10
              have EC : Hid (Ext Non w wc) := EX2.out.trans0 e10
              have Q3 := Lib.hid (e10.obj Q2.out (fun e => e))
              have k0 := blk_cell Q3.out 0
              have r0 := EC.out.cell B0.out (fun e => e)
              have hqc := blk_lt Q3.out
              clear hnn e10 hw2 p0
              cases b with
              | true =>
                have HSK : Hid (readK (passQ n x.q) L after most (L.drop (j + 1)) (prevAt L (j + 1)) out up = readK (passQ n x.q) L after most L none [] after) := by
                  show _ = _
                  rw [← HG.out, hdrop.out, readK, if_pos (of_decide_eq_true HBB.out), hpnext.out]
                go_wp2_with fail
                go_roundw
                case rel => exact ⟨j + 1, out, up, A3, n3, c3, rfl, rfl, by go_num, by omega, by omega, EC.out, HO.out.ext0 (E2.out.trans0 EC2.out), HSK.out⟩
                case measure => simp [intOf]; omega
              | false =>
                have HSK : Hid (readK (passQ n x.q) L after most L none [] after = if most < (out.length : Int) + (passQ n x.q (hereOf e0.pos L)).length ∧ after < up then (out, some up) else readK (passQ n x.q) L after most (L.drop (j + 1)) (prevAt L (j + 1)) (out ++ passQ n x.q (hereOf e0.pos L)) e0.pos) := by
                  show _ = _
                  rw [← HG.out, hdrop.out, readK, if_neg (of_decide_eq_false HBB.out), hpnext.out]
                obtain ⟨wt, hwt⟩ : ∃ wt, wt = wc := ⟨_, rfl⟩
                subst hwt
                obtain ⟨p0, hp0⟩ : ∃ p0, e0.pos = p0 := ⟨_, rfl⟩
                rw [hp0] at HSK k0
                have HP0 := Lib.hid hp0
                clear hp0
                go_wp2_with fail
                go_loopw [17, 83] (fun s17 i wr => ∃ (m : Nat) (A4 : Option Addr) (n4 c4 : Nat), s17 = .slice A4 n4 c4 ∧ i = .int .i64 (m : Int) ∧ m ≤ n1 ∧ n4 ≤ m ∧ Hid (Ext (fun k => wt.heap.size ≤ k) wt wr) ∧ Hid (Own evK 43 wr wt.heap.size (fun k => wt.heap.size ≤ k) (.slice A4 n4 c4) (hereOf p0 (L.take m)))) (fun _ i _ => n1 - (intOf i).toNat)
                case atStart => exact ⟨0, none, 0, 0, rfl, rfl, by omega, by omega, Ext.refl _ _, Own.nil _ _ _ _ _⟩
                case round =>
                  obtain ⟨m, A4, n4, c4, rfl, rfl, hm, hn4, HE3, HO4⟩ := hrel
                  by_cases hlt2 : m < n1
                  · obtain ⟨y, hy⟩ : ∃ e, L[m]? = some e := ⟨_, List.getElem?_eq_getElem (by have := HN1.out; omega)⟩
                    obtain ⟨ge', offe', hA, -, -, f0, f1, f2, f3, f4, f5⟩ := ev_at ((H1.out.bound.ext0 EC.out).ext HE3.out (fun k hk _ h => by have h' : wt.heap.size ≤ k := h; have := hk.2; have := EC.out.size; omega)) hy
                    simp only [Option.some.injEq, Addr.mk.injEq, and_true] at hA
                    obtain ⟨rfl, rfl⟩ := hA
                    have HY := Lib.hid hy
                    have k0' := (HE3.out.obj Q3.out (fun h => by have h' : wt.heap.size ≤ q := h; omega))
                    have K0 := Lib.hid k0'
                    have hqr := blk_lt k0'
                    have k0 := blk_cell k0' 0
                    rw [HP0.out] at k0
                    have hszr := HE3.out.size
                    have hM : ∀ k, some k = (Value.slice A4 n4 c4).ownBlock → wt.heap.size ≤ k ∧ k < wr.heap.size := fun k h => HO4.out.base_le k h.symm
                    obtain ⟨q2, hq2⟩ : ∃ q2, wr.heap.size = q2 := ⟨_, rfl⟩
                    obtain ⟨w4, hw4⟩ : ∃ w4, wr.alloc (.cells #[.int .i64 y.pos, .string y.key, .bool y.had, .string y.old, .bool y.has, .string y.now] 43) = w4 := ⟨_, rfl⟩
                    have E4 : Hid (Ext Non wr w4) := by rw [← hw4]; exact (Ext.refl _ _).alloc _
                    have Q4 : Hid (w4.heap[q2]? = some (.cells #[.int .i64 y.pos, .string y.key, .bool y.had, .string y.old, .bool y.has, .string y.now] 43 (0, 0))) := by rw [← hw4, ← hq2]; exact blk_new wr _
                    have x0 := blk_cell Q4.out 0
                    have x1 := blk_cell Q4.out 1
                    have x2 := blk_cell Q4.out 2
                    have x3 := blk_cell Q4.out 3
                    have x4 := blk_cell Q4.out 4
                    have x5 := blk_cell Q4.out 5
                    have hql4 := blk_lt Q4.out
                    have k04 := E4.out.cell k0 (fun e => e)
                    have hs4 := E4.out.size
                    clear hy k0' k0
                    by_cases hp : y.pos = p0
                    · have hpb : (y.pos == p0) = true := beq_iff_eq.2 hp
                      have HP := Lib.hid hp
                      clear hp
                      have O4 : Hid (Own evK 43 (w4.alloc (.cells y.cells.toArray 43)) wt.heap.size (fun k => wt.heap.size ≤ k) (.slice A4 n4 c4) (hereOf p0 (L.take m))) := (HO4.out.ext0 E4.out).ext0 ((Ext.refl _ _).alloc _)
                      have hlh : (hereOf p0 (L.take m)).length ≤ 32 := Nat.le_trans (hereOf_len _ _) (by rw [List.length_take]; omega)
                      go_wp2_with (first
                        | (at_builtin
                           refine wpList_app evK (ok := fun k => wt.heap.size ≤ k) (v := .slice A4 n4 c4) (vx := .slice (some ⟨w4.heap.size, 0, none⟩) 1 1) (xs := hereOf p0 (L.take m)) (ys := [y]) wt.heap.size rfl _ _ 34 43 _ 72 rfl Try.underlying34 info43 rfl (by decide) (by simp [Act.eval]) (by simp [Act.eval]) O4.out (Rd.lit_at (cs := y.cells) (e := 43) (fr := (0, 0)) (blk_new w4 _) rfl ⟨by omega, fun h => by have := hM _ h; omega⟩) (fun k hk => by have hk' : w4.heap.size + 1 ≤ k := (by simpa using hk); omega) (by simp only [List.length_singleton]; omega) (by simp only [List.length_singleton]; omega) (by simp; omega) ?_
                           intro v' w' hown hext hblk)
                        | fail)
                      obtain ⟨A7, n7, c7, rfl⟩ : ∃ A n c, v' = .slice A n c := by obtain ⟨A6, c6, h6, _, _⟩ := hown.slice; exact ⟨_, _, _, h6⟩
                      have OW : Hid (Own evK 43 w' wt.heap.size (fun k => wt.heap.size ≤ k) (.slice A7 n7 c7) (hereOf p0 (L.take (m + 1)))) := by
                        show Own _ _ _ _ _ _ _
                        rw [hereOf_take HY.out, if_pos HP.out]
                        exact hown
                      have hn7 : n7 ≤ m + 1 := by
                        obtain ⟨_, _, hs, _, _⟩ := OW.out.slice
                        simp only [Value.slice.injEq] at hs
                        rw [hs.2.1]
                        refine Nat.le_trans (hereOf_len _ _) ?_
                        rw [List.length_take]
                        omega
                      have HEX : Hid (Ext (fun k => wt.heap.size ≤ k) wt w') := ((HE3.out.trans0 E4.out).alloc _).trans hext (fun i hi h => (hM _ h).1)
                      clear hown hext hblk
                      go_roundw
                      case rel => exact ⟨m + 1, A7, n7, c7, rfl, by go_num, by omega, by omega, HEX.out, OW.out⟩
                      case measure => simp [intOf]; omega
                    · have hpb : (y.pos == p0) = false := beq_eq_false_iff_ne.2 hp
                      have HNP := Lib.hid hp
                      clear hp
                      have OW : Hid (Own evK 43 w4 wt.heap.size (fun k => wt.heap.size ≤ k) (.slice A4 n4 c4) (hereOf p0 (L.take (m + 1)))) := by
                        show Own _ _ _ _ _ _ _
                        rw [hereOf_take HY.out, if_neg HNP.out, List.append_nil]
                        exact HO4.out.ext0 E4.out
                      go_wp2_with fail
                      go_roundw
                      case rel => exact ⟨m + 1, A4, n4, c4, rfl, by go_num, by omega, by omega, HE3.out.trans0 E4.out, OW.out⟩
                      case measure => simp [intOf]; omega
                  · obtain rfl : m = n1 := by omega
                    have EXR : Hid (Ext Non w wr) := EC.out.trans HE3.out (fun i hi h => by have h' : wt.heap.size ≤ i := h; have := EC.out.size; omega)
                    have r1 := EXR.out.cell B1.out (fun e => e)
                    have r3 := EXR.out.cell HA3.out (fun e => e)
                    have r4 := EXR.out.cell HA4.out (fun e => e)
                    have r5 := EXR.out.cell HA5.out (fun e => e)
                    have r6 := EXR.out.cell HA6.out (fun e => e)
                    have HHL : Hid (hereOf p0 (L.take m) = hereOf p0 L) := by
                      show _ = _
                      rw [List.take_of_length_le (by rw [← HN1.out]; exact Nat.le_refl _)]
                    obtain ⟨H, hH⟩ : ∃ H, hereOf p0 L = H := ⟨_, rfl⟩
                    rw [HHL.out, hH] at HO4
                    have hHl : H.length ≤ 32 := by rw [← hH]; exact Nat.le_trans (hereOf_len _ _) (by have := HN1.out; omega)
                    have HHM : Hid (∀ e ∈ H, e.now.size ≤ 1048576 ∧ e.key.size ≤ maxLen) := fun e he => HNW.out e (by rw [← hH] at he; exact (List.mem_filter.1 he).1)
                    have HSK2 : Hid (readK (passQ n x.q) L after most L none [] after = if most < (out.length : Int) + (passQ n x.q H).length ∧ after < up then (out, some up) else readK (passQ n x.q) L after most (L.drop (j + 1)) (prevAt L (j + 1)) (out ++ passQ n x.q H) p0) := by
                      have := HSK.out
                      rw [hH] at this
                      exact this
                    have HOut : Hid (Own evK 43 wr w.heap.size (fun k => w.heap.size ≤ k) (.slice A3 n3 c3) out) := ((HO.out.ext0 (E2.out.trans0 EC2.out)).bound.ext HE3.out (fun k hk hl h => by have h' : wt.heap.size ≤ k := h; have := hk.2; omega)).mono (fun k hk => hk.1)
                    have k0r := blk_cell (HE3.out.obj Q3.out (fun h => by have h' : wt.heap.size ≤ q := h; omega)) 0
                    rw [HP0.out] at k0r
                    have KQ := Lib.hid k0r
                    have hqr : q < wr.heap.size := by have := HE3.out.size; omega
                    clear hH k0 HSK k0r
                    go_wp2_with fail
                    refine (RPass_calls (n := n) (f := x.q) (ok := ok) ⟨_, rfl, HAR.out.ext0 EXR.out⟩ HOL.out HO4.out.rd HHM.out (by omega)).mono ?_
                    rintro e w6 ⟨A8, n8, c8, rfl, HO8, HE8⟩
                    obtain ⟨P, hP⟩ : ∃ P, passQ n x.q H = P := ⟨_, rfl⟩
                    have HO9 : Hid (Own evK 43 w6 wr.heap.size (fun k => wr.heap.size ≤ k) (.slice A8 n8 c8) P) := by rw [← hP]; exact HO8.out
                    have hn8 : n8 = P.length := by
                      obtain ⟨_, _, hs, _, _⟩ := HO9.out.slice
                      simp only [Value.slice.injEq] at hs
                      exact hs.2.1
                    have hn3' : n3 = out.length := by
                      obtain ⟨_, _, hs, _, _⟩ := HO.out.slice
                      simp only [Value.slice.injEq] at hs
                      exact hs.2.1
                    have hPl : P.length ≤ H.length := by rw [← hP]; exact List.length_filter_le _ _
                    rw [hP] at HSK2
                    have HN3 := Lib.hid hn3'
                    have HN8 := Lib.hid hn8
                    have hb8 : n8 ≤ 32 := by omega
                    have hb3 : n3 ≤ 1024 := by omega
                    have O6 : Hid (Own evK 43 w6 w.heap.size (fun k => w.heap.size ≤ k) (.slice A3 n3 c3) out) := HOut.out.ext0 HE8.out
                    have hM : ∀ k, some k = (Value.slice A3 n3 c3).ownBlock → w.heap.size ≤ k ∧ k < wr.heap.size := fun k h => HOut.out.base_le k h.symm
                    have hszw := EXR.out.size
                    have kq6 := HE8.out.cell KQ.out (fun e => e)
                    clear hn3' hn8 hP hPl
                    by_cases hful : most < (n3 : Int) + (n8 : Int)
                    · by_cases hup : after < up
                      · have HT2 : Hid (readR n D id after most = (out, up, 0)) := by
                          show _ = _
                          rw [HT.out, HSK2.out, if_pos (by rw [← HN3.out, ← HN8.out]; exact ⟨hful, hup⟩)]
                        go_wp2_with fail
                        go_ret3
                        rw [HT2.out]
                        exact ⟨A3, n3, c3, rfl, O6.out, EXR.out.trans0 HE8.out⟩
                      · have HG2 : Hid (readK (passQ n x.q) L after most (L.drop (j + 1)) (prevAt L (j + 1)) (out ++ P) p0 = readK (passQ n x.q) L after most L none [] after) := by
                          show _ = _
                          rw [HSK2.out, if_neg (fun h => hup h.2)]
                        go_wp2_with (first
                          | (at_builtin
                             refine wpList_app evK (ok := fun k => w.heap.size ≤ k) (v := .slice A3 n3 c3) (vx := .slice A8 n8 c8) (xs := out) (ys := P) w.heap.size rfl _ _ 34 43 _ 72 rfl Try.underlying34 info43 rfl (by decide) (by simp [Act.eval]) (by simp [Act.eval]) O6.out (HO9.out.rd.mono (fun k hk => ⟨by omega, fun h => by have := hM _ h; omega⟩)) (fun k hk => by have := HE8.out.size; omega) (by have h1 := HN3.out; have h2 := HN8.out; rw [← h1, ← h2]; omega) (by have h1 := HN3.out; have h2 := HN8.out; rw [← h1, ← h2]; omega) (by have := HE8.out.size; omega) ?_
                             intro v' w' hown hext hblk
                             have kqx := hext.cell kq6 (fun h => by have h' : some q = (Value.slice A3 n3 c3).ownBlock := h; have := HMQ.out _ h'.symm; omega)
                             have hqx : q < w'.heap.size := by have := hext.size; have := HE8.out.size; omega)
                          | fail)
                        obtain ⟨A7, n7, c7, rfl⟩ : ∃ A n c, v' = .slice A n c := by obtain ⟨A6, c6, h6, _, _⟩ := hown.slice; exact ⟨_, _, _, h6⟩
                        have HOW := Lib.hid hown
                        have HEX : Hid (Ext Non w w') := (EXR.out.trans0 HE8.out).trans hext (fun i hi h => by have := hM _ h; omega)
                        have hn7 : n7 ≤ 32 * (j + 1) := by
                          obtain ⟨_, _, hs, _, _⟩ := HOW.out.slice
                          simp only [Value.slice.injEq] at hs
                          rw [hs.2.1, List.length_append]
                          have h1 := HN3.out
                          have h2 := HN8.out
                          omega
                        clear hown hext hblk
                        go_roundw
                        case rel => exact ⟨j + 1, out ++ P, p0, A7, n7, c7, rfl, rfl, by go_num, by omega, hn7, HEX.out, HOW.out, HG2.out⟩
                        case measure => simp [intOf]; omega
                    · have HG2 : Hid (readK (passQ n x.q) L after most (L.drop (j + 1)) (prevAt L (j + 1)) (out ++ P) p0 = readK (passQ n x.q) L after most L none [] after) := by
                        show _ = _
                        rw [HSK2.out, if_neg (fun h => hful (by rw [HN3.out, HN8.out]; exact h.1))]
                      go_wp2_with (first
                        | (at_builtin
                           refine wpList_app evK (ok := fun k => w.heap.size ≤ k) (v := .slice A3 n3 c3) (vx := .slice A8 n8 c8) (xs := out) (ys := P) w.heap.size rfl _ _ 34 43 _ 72 rfl Try.underlying34 info43 rfl (by decide) (by simp [Act.eval]) (by simp [Act.eval]) O6.out (HO9.out.rd.mono (fun k hk => ⟨by omega, fun h => by have := hM _ h; omega⟩)) (fun k hk => by have := HE8.out.size; omega) (by have h1 := HN3.out; have h2 := HN8.out; rw [← h1, ← h2]; omega) (by have h1 := HN3.out; have h2 := HN8.out; rw [← h1, ← h2]; omega) (by have := HE8.out.size; omega) ?_
                           intro v' w' hown hext hblk
                           have kqx := hext.cell kq6 (fun h => by have h' : some q = (Value.slice A3 n3 c3).ownBlock := h; have := HMQ.out _ h'.symm; omega)
                           have hqx : q < w'.heap.size := by have := hext.size; have := HE8.out.size; omega)
                        | fail)
                      obtain ⟨A7, n7, c7, rfl⟩ : ∃ A n c, v' = .slice A n c := by obtain ⟨A6, c6, h6, _, _⟩ := hown.slice; exact ⟨_, _, _, h6⟩
                      have HOW := Lib.hid hown
                      have HEX : Hid (Ext Non w w') := (EXR.out.trans0 HE8.out).trans hext (fun i hi h => by have := hM _ h; omega)
                      have hn7 : n7 ≤ 32 * (j + 1) := by
                        obtain ⟨_, _, hs, _, _⟩ := HOW.out.slice
                        simp only [Value.slice.injEq] at hs
                        rw [hs.2.1, List.length_append]
                        have h1 := HN3.out
                        have h2 := HN8.out
                        omega
                      clear hown hext hblk
                      go_roundw
                      case rel => exact ⟨j + 1, out ++ P, p0, A7, n7, c7, rfl, rfl, by go_num, by omega, hn7, HEX.out, HOW.out, HG2.out⟩
                      case measure => simp [intOf]; omega
          · obtain rfl : j = n1 := by omega
            have HT2 : Hid (readR n D id after most = (out, D.top, 0)) := by
              show _ = _
              rw [HT.out, ← HG.out, List.drop_of_length_le (by rw [← HN1.out]; exact Nat.le_refl _)]
              rfl
            have r3 := HE.out.cell B3.out (fun e => e)
            go_wp2_with fail
            go_region
            go_wp2_with fail
            go_ret3
            rw [HT2.out]
            exact ⟨A3, n3, c3, rfl, HO.out.ext0 (Ext.refl Non wr).drew, HE.out.drew⟩
end Go.Proofs.Ytdjfijdnhfmeeaa
