/- The document's Holds and Pass. -/
import Derived.Test.YtdjfijdnhfmeeaaN2
import Derived.Test.YtdjfijdnhfmeeaaMB
namespace Go.Proofs.Ytdjfijdnhfmeeaa
open Go.RowKit Go.TM
theorem rh_step (n : Nat) (ih : ∀ m, n = m + 1 → RhAt m) : RhAt n := by
  intro f w ok v e hr ho ⟨d, c, h0, h1, hc⟩ hs hke
  obtain ⟨-, hm, hkl, hks⟩ := chk_kids h0 h1 hc ho
  obtain ⟨m1, m2, -, -⟩ := may_small hm
  obtain ⟨A, len, cap, rfl, hlen⟩ := rd_abs hr
  have hkok : ∀ k ∈ f.kids, okL n k := ho.2.2.2.2
  have hkc : ∀ k ∈ f.kids, ∃ d c, 0 ≤ c ∧ c ≤ 24 ∧ (chk n k d c).1 = 0 := fun k hk => by
    obtain ⟨c', a, b, h⟩ := hks k hk
    exact ⟨_, c', a, b, h⟩
  have hv : f.val.size ≤ maxLen := by have := ho.2.2.1; simp only [maxLen]; omega
  by_cases o0 : f.op = 0
  · rw [show holdsF fieldF (n + 1) f e = true by rw [holdsF_eq, if_pos o0], o0]
    exact rh0
  by_cases o1 : f.op = 1
  · rw [show holdsF fieldF (n + 1) f e = begins e.key f.val by rw [holdsF_eq, if_neg o0, if_pos o1], o1]
    exact rh1 hke hv
  by_cases o2 : f.op = 2
  · rw [show holdsF fieldF (n + 1) f e = (e.has && (fieldF e.now f.key).2 && ((fieldF e.now f.key).1.toList == f.val.toList)) by rw [holdsF_eq, if_neg o0, if_neg o1, if_pos o2], o2]
    exact rh2 hs
  by_cases o3 : f.op = 3
  · rw [show holdsF fieldF (n + 1) f e = e.has by rw [holdsF_eq, if_neg o0, if_neg o1, if_neg o2, if_pos o3], o3]
    exact rh3
  by_cases o4 : f.op = 4
  · rw [show holdsF fieldF (n + 1) f e = !(f.kids.all fun k => holdsF fieldF n k e) by rw [holdsF_eq, if_neg o0, if_neg o1, if_neg o2, if_neg o3, if_pos o4], o4]
    have hone : f.kids.length = 1 := by
      have h : mayW f.op f.key f.val f.kids.length = true := hm
      rw [o4] at h
      simp [mayW] at h
      exact h.2
    obtain ⟨k, hk⟩ := List.length_eq_one_iff.1 hone
    rw [hk] at hr hkok hkc ⊢
    obtain rfl : len = 1 := hlen.trans hone
    cases n with
    | zero => exact (hkok k List.mem_cons_self).elim
    | succ m =>
      have h := rh4 (ih m rfl) (key := f.key) (val := f.val) hr (hkok k List.mem_cons_self) (hkc k List.mem_cons_self) hs hke
      simpa using h
  by_cases o5 : f.op = 5
  · rw [show holdsF fieldF (n + 1) f e = (f.kids.all fun k => holdsF fieldF n k e) by rw [holdsF_eq, if_neg o0, if_neg o1, if_neg o2, if_neg o3, if_neg o4, if_pos o5], o5]
    exact rh5 ih hr hlen (by omega) hkok hkc hs hke
  have o6 : f.op = 6 := by omega
  rw [show holdsF fieldF (n + 1) f e = (f.kids.any fun k => holdsF fieldF n k e) by rw [holdsF_eq, if_neg o0, if_neg o1, if_neg o2, if_neg o3, if_neg o4, if_neg o5], o6]
  exact rh6 ih hr hlen (by omega) hkok hkc hs hke
theorem rh_at : ∀ n, RhAt n := by
  intro n
  induction n with
  | zero => exact rh_step 0 (fun m h => by omega)
  | succ n ih => exact rh_step (n + 1) (fun m h => by cases h; exact ih)
set_option maxRecDepth 100000 in
set_option maxHeartbeats 4000000 in
theorem RHolds_calls {n : Nat} {f : Flt} {w : World} {ok : Nat → Prop} {x : Value} (hx : FV n w ok x f) (hok : okL (n + 1) f) {e : Ev} (hs : e.now.size ≤ 1048576) (hke : e.key.size ≤ maxLen) :
    Calls Try.prog 82 #[x, evV e] w (BoolPost (holdsP fieldF (n + 1) f e) w) := by
  have hx' := hx
  obtain ⟨v, rfl, hr⟩ := hx
  obtain ⟨op, key, val, kids⟩ := f
  obtain ⟨A, m, c, rfl, hlen⟩ := rd_abs hr
  have HX := Lib.hid hx'
  have HR := Lib.hid hr
  clear hr hlen hx'
  dsimp only [Flt.op, Flt.key, Flt.val] at HX ⊢
  show Calls Try.prog 82 #[_, .agg #[.int .i64 e.pos, .string e.key, .bool e.had, .string e.old, .bool e.has, .string e.now]] w _
  go_enter Try.func82, Try.ntmps82
  go_wp2_with fail
  have E0 : Hid (Ext Non w ((w.alloc (.cells #[.int .i64 op, .string key, .string val, .slice A m c] 24)).alloc (.cells #[.int .i64 e.pos, .string e.key, .bool e.had, .string e.old, .bool e.has, .string e.now] 43))) := ((Ext.refl _ _).alloc _).alloc _
  have B0 : Hid (((w.alloc (.cells #[.int .i64 op, .string key, .string val, .slice A m c] 24)).alloc (.cells #[.int .i64 e.pos, .string e.key, .bool e.had, .string e.old, .bool e.has, .string e.now] 43)).heap[w.heap.size]? = some (.cells #[.int .i64 op, .string key, .string val, .slice A m c] 24)) := blk_alloc (blk_new _ _) _
  have X0 : Hid (((w.alloc (.cells #[.int .i64 op, .string key, .string val, .slice A m c] 24)).alloc (.cells #[.int .i64 e.pos, .string e.key, .bool e.had, .string e.old, .bool e.has, .string e.now] 43)).heap[w.heap.size + 1]? = some (.cells #[.int .i64 e.pos, .string e.key, .bool e.had, .string e.old, .bool e.has, .string e.now] 43)) := by
    have hsz1 : (w.alloc (.cells #[.int .i64 op, .string key, .string val, .slice A m c] 24)).heap.size = w.heap.size + 1 := by simp
    have h := blk_new (w.alloc (.cells #[.int .i64 op, .string key, .string val, .slice A m c] 24)) (.cells #[.int .i64 e.pos, .string e.key, .bool e.had, .string e.old, .bool e.has, .string e.now] 43)
    rw [hsz1] at h
    exact h
  obtain ⟨w0, hw0⟩ : ∃ w0, (w.alloc (.cells #[.int .i64 op, .string key, .string val, .slice A m c] 24)).alloc (.cells #[.int .i64 e.pos, .string e.key, .bool e.had, .string e.old, .bool e.has, .string e.now] 43) = w0 := ⟨_, rfl⟩
  rw [hw0] at E0 B0 X0 ⊢
  clear hw0
  refine (RCheck_calls (HX.out.ext0 E0.out) hok).mono ?_
  obtain ⟨z, hz⟩ : ∃ z, checkE (n + 1) (.mk op key val kids) = z := ⟨_, rfl⟩
  have HZ := Lib.hid hz
  rw [hz]
  clear hz
  rintro e' w5 ⟨rfl, he⟩
  have x0 : w5.cell? ⟨w.heap.size + 1, 0, none⟩ = some (.int .i64 e.pos) := blk_cell (he.obj X0.out (fun h => h)) 0
  have x1 : w5.cell? ⟨w.heap.size + 1, 1, none⟩ = some (.string e.key) := blk_cell (he.obj X0.out (fun h => h)) 1
  have x2 : w5.cell? ⟨w.heap.size + 1, 2, none⟩ = some (.bool e.had) := blk_cell (he.obj X0.out (fun h => h)) 2
  have x3 : w5.cell? ⟨w.heap.size + 1, 3, none⟩ = some (.string e.old) := blk_cell (he.obj X0.out (fun h => h)) 3
  have x4 : w5.cell? ⟨w.heap.size + 1, 4, none⟩ = some (.bool e.has) := blk_cell (he.obj X0.out (fun h => h)) 4
  have x5 : w5.cell? ⟨w.heap.size + 1, 5, none⟩ = some (.string e.now) := blk_cell (he.obj X0.out (fun h => h)) 5
  have y0 : w5.cell? ⟨w.heap.size, 0, none⟩ = some (.int .i64 op) := blk_cell (he.obj B0.out (fun h => h)) 0
  have y1 : w5.cell? ⟨w.heap.size, 1, none⟩ = some (.string key) := blk_cell (he.obj B0.out (fun h => h)) 1
  have y2 : w5.cell? ⟨w.heap.size, 2, none⟩ = some (.string val) := blk_cell (he.obj B0.out (fun h => h)) 2
  have y3 : w5.cell? ⟨w.heap.size, 3, none⟩ = some (.slice A m c) := blk_cell (he.obj B0.out (fun h => h)) 3
  have HE := Lib.hid (E0.out.trans0 he)
  clear he
  by_cases hz0 : z = 0
  · subst hz0
    have hfin : Hid (holdsP fieldF (n + 1) (.mk op key val kids) e = holdsF fieldF (n + 1) (.mk op key val kids) e) := if_pos HZ.out
    go_wp2_with fail
    refine (rh_at n (.mk op key val kids) _ _ _ e (HR.out.ext0 HE.out) hok ⟨1, 0, by omega, by omega, HZ.out⟩ hs hke).mono ?_
    rintro e' w6 ⟨rfl, he⟩
    have HE6 := Lib.hid (HE.out.trans0 he)
    clear he
    go_wp2_with fail
    go_ret
    exact ⟨by rw [hfin.out]; rfl, HE6.out⟩
  · have hfin : Hid (holdsP fieldF (n + 1) (.mk op key val kids) e = false) := if_neg (by rw [HZ.out]; exact hz0)
    go_wp2_with fail
    go_ret
    exact ⟨by rw [hfin.out]; rfl, HE.out⟩
set_option maxRecDepth 100000 in
set_option maxHeartbeats 8000000 in
theorem RPass_calls {n : Nat} {f : Flt} {w : World} {ok ok2 : Nat → Prop} {x : Value} (hx : FV n w ok x f) (hok : okL (n + 1) f) {B : Option Addr} {bm d : Nat} {l : List Ev}
    (hr2 : Rd evK w ok2 (.slice B bm d) l) (hsm : ∀ x ∈ l, x.now.size ≤ 1048576 ∧ x.key.size ≤ maxLen) (hl : l.length ≤ 1048576000) : Calls Try.prog 59 #[x, .slice B bm d] w (PassPost (passF fieldF (n + 1) f l) w) := by
  obtain ⟨_, _, hs, _, hm⟩ := hr2.slice
  simp only [Value.slice.injEq] at hs
  obtain ⟨-, hml, -⟩ := hs
  have hx' := hx
  obtain ⟨v, rfl, hr⟩ := hx
  obtain ⟨op, key, val, kids⟩ := f
  obtain ⟨A, m, c, rfl, hlen⟩ := rd_abs hr
  dsimp only [Flt.op, Flt.key, Flt.val] at hx' ⊢
  have HX := Lib.hid hx'
  have HE2 := Lib.hid hr2.bound
  have HM := Lib.hid hml
  have HSM := Lib.hid hsm
  have HOK := Lib.hid hok
  have hmx : (bm : Int) ≤ 1048576000 := by omega
  clear hr hlen hx' hr2 hml hsm hl hm hok
  go_enter Try.func59, Try.ntmps59
  go_wp2_with fail
  have E0 : Hid (Ext Non w (w.alloc (.cells #[.int .i64 op, .string key, .string val, .slice A m c] 24))) := (Ext.refl _ _).alloc _
  have B0 : Hid ((w.alloc (.cells #[.int .i64 op, .string key, .string val, .slice A m c] 24)).heap[w.heap.size]? = some (.cells #[.int .i64 op, .string key, .string val, .slice A m c] 24)) := blk_new _ _
  obtain ⟨w0, hw0⟩ : ∃ w0, w.alloc (.cells #[.int .i64 op, .string key, .string val, .slice A m c] 24) = w0 := ⟨_, rfl⟩
  rw [hw0] at E0 B0 ⊢
  have hzz : w.heap.size < w0.heap.size := blk_lt B0.out
  clear hw0
  go_loopw [5, 10] (fun s i wr => ∃ (j : Nat) (A3 : Option Addr) (n3 c3 : Nat) (done : List Ev), i = .int .i64 (j : Int) ∧ s = .slice A3 n3 c3 ∧ j ≤ bm ∧ done.length ≤ j ∧ Hid (done = (l.take j).filter fun e => holdsP fieldF (n + 1) (.mk op key val kids) e) ∧ Hid (Own evK 43 wr w0.heap.size (fun k => w0.heap.size ≤ k) (.slice A3 n3 c3) done) ∧ Hid (Ext Non w0 wr)) (fun _ i _ => bm - (intOf i).toNat)
  case atStart => exact ⟨0, none, 0, 0, [], rfl, rfl, by omega, by simp, rfl, Own.nil _ _ _ _ _, Ext.refl _ _⟩
  case round =>
    obtain ⟨j, A3, n3, c3, done, rfl, rfl, hj, hdl, HD, HO, HE⟩ := hrel
    have y0 : wr.cell? ⟨w.heap.size, 0, none⟩ = some (.int .i64 op) := blk_cell (HE.out.obj B0.out (fun h => h)) 0
    have y1 : wr.cell? ⟨w.heap.size, 1, none⟩ = some (.string key) := blk_cell (HE.out.obj B0.out (fun h => h)) 1
    have y2 : wr.cell? ⟨w.heap.size, 2, none⟩ = some (.string val) := blk_cell (HE.out.obj B0.out (fun h => h)) 2
    have y3 : wr.cell? ⟨w.heap.size, 3, none⟩ = some (.slice A m c) := blk_cell (HE.out.obj B0.out (fun h => h)) 3
    have hlb := blk_lt (HE.out.obj B0.out (fun h => h))
    by_cases hlt : j < bm
    · obtain ⟨e, he0⟩ : ∃ e, l[j]? = some e := ⟨_, List.getElem?_eq_getElem (by have := HM.out; omega)⟩
      obtain ⟨ge, off, rfl, hge, hgl, d0, d1, d2, d3, d4, d5⟩ := ev_at (HE2.out.ext0 (E0.out.trans0 HE.out)) he0
      have hsme := HSM.out e (List.mem_of_getElem? he0)
      have HSE := Lib.hid hsme
      have htk : (l.take (j + 1)).filter (fun e => holdsP fieldF (n + 1) (.mk op key val kids) e) = (l.take j).filter (fun e => holdsP fieldF (n + 1) (.mk op key val kids) e) ++ (if holdsP fieldF (n + 1) (.mk op key val kids) e = true then [e] else []) := by
        rw [List.take_add_one, he0, List.filter_append]
        cases hb : holdsP fieldF (n + 1) (.mk op key val kids) e <;> simp [hb]
      have HT := Lib.hid htk
      have HBL := Lib.hid HO.out.base_le
      have hszw := HE.out.size
      clear he0 hsme htk
      obtain ⟨b, hb⟩ : ∃ b, holdsP fieldF (n + 1) (.mk op key val kids) e = b := ⟨_, rfl⟩
      have HB := Lib.hid hb
      clear hb
      cases b with
      | false =>
        go_wp2_with fail
        refine (RHolds_calls (e := e) (HX.out.ext0 (E0.out.trans0 (HE.out.trans0 ?_))) HOK.out HSE.out.1 HSE.out.2).mono ?_
        · repeat (first | exact Ext.refl _ _ | refine Ext.alloc ?_ _)
        rw [HB.out]
        rintro e' w6 ⟨rfl, he⟩
        have X6 : Ext Non wr w6 := ((Ext.refl _ _).alloc _).trans0 he
        have O6 := Lib.hid (HO.out.ext0 X6)
        have F6 := Lib.hid (HE.out.trans0 X6)
        have N6 := Lib.hid (he.obj (blk_new wr (.cells #[.int .i64 e.pos, .string e.key, .bool e.had, .string e.old, .bool e.has, .string e.now] 43)) (fun h => h))
        have hz6 := X6.size
        clear he X6
        go_wp2_with fail
        go_roundw
        case rel => exact ⟨j + 1, A3, n3, c3, done, by go_num, rfl, by omega, by omega, by show _ = _; rw [HT.out, HB.out, HD.out]; simp, O6.out, F6.out⟩
        case measure => simp [intOf]; omega
      | true =>
        go_wp2_with fail
        refine (RHolds_calls (e := e) (HX.out.ext0 (E0.out.trans0 (HE.out.trans0 ?_))) HOK.out HSE.out.1 HSE.out.2).mono ?_
        · repeat (first | exact Ext.refl _ _ | refine Ext.alloc ?_ _)
        rw [HB.out]
        rintro e' w6 ⟨rfl, he⟩
        have X6 : Ext Non wr w6 := ((Ext.refl _ _).alloc _).trans0 he
        have O6 := Lib.hid (HO.out.ext0 X6)
        have F6 := Lib.hid (HE.out.trans0 X6)
        have N6 := Lib.hid (he.obj (blk_new wr (.cells #[.int .i64 e.pos, .string e.key, .bool e.had, .string e.old, .bool e.has, .string e.now] 43)) (fun h => h))
        have hz6 := X6.size
        clear he X6
        have x0 : w6.cell? ⟨wr.heap.size, 0, none⟩ = some (.int .i64 e.pos) := blk_cell N6.out 0
        have x1 : w6.cell? ⟨wr.heap.size, 1, none⟩ = some (.string e.key) := blk_cell N6.out 1
        have x2 : w6.cell? ⟨wr.heap.size, 2, none⟩ = some (.bool e.had) := blk_cell N6.out 2
        have x3 : w6.cell? ⟨wr.heap.size, 3, none⟩ = some (.string e.old) := blk_cell N6.out 3
        have x4 : w6.cell? ⟨wr.heap.size, 4, none⟩ = some (.bool e.has) := blk_cell N6.out 4
        have x5 : w6.cell? ⟨wr.heap.size, 5, none⟩ = some (.string e.now) := blk_cell N6.out 5
        go_wp2_with (first
          | (at_builtin
             refine wpList_app evK (ok := fun k => w0.heap.size ≤ k) (v := .slice A3 n3 c3) (vx := .slice (some ⟨w6.heap.size, 0, none⟩) 1 1) (xs := done) (ys := [e]) w0.heap.size rfl _ _ 34 43 _ 72 rfl Try.underlying34 info43 rfl (by decide) (by simp [Act.eval]) (by simp [Act.eval]) (O6.out.ext0 ((Ext.refl _ _).alloc _)) (Rd.lit_at (cs := e.cells) (e := 43) (fr := (0, 0)) (heap_alloc_new w6 _) rfl ⟨by omega, fun h => by have := (HBL.out _ h.symm).2; omega⟩) (fun k hk => by simp at hk; omega) (by simp; omega) (by simp; omega) (by simp; omega) ?_
             intro v' w' hown hext hblk)
          | fail)
        obtain ⟨A4, n4, c4, rfl⟩ : ∃ A n c, v' = .slice A n c := by obtain ⟨A4, c4, h4, _, _⟩ := hown.slice; exact ⟨_, _, _, h4⟩
        have EAA : Ext (fun k => some k = (Value.slice A3 n3 c3).ownBlock) w6 w' := Ext.trans ((Ext.refl _ _).alloc _) hext (fun _ _ e => e)
        have O7 := Lib.hid hown
        have F7 := Lib.hid (F6.out.trans EAA (fun i hi h => by have := (HBL.out _ h.symm).1; omega))
        clear hown hext hblk EAA
        go_roundw
        case rel => exact ⟨j + 1, A4, n4, c4, done ++ [e], by go_num, rfl, by omega, by simp; omega, by show _ = _; rw [HT.out, HB.out, HD.out]; simp, O7.out, F7.out⟩
        case measure => simp [intOf]; omega
    · obtain rfl : j = bm := by omega
      have hfin : Hid (done = passF fieldF (n + 1) (.mk op key val kids) l) := by
        show _ = _
        rw [HD.out, List.take_of_length_le (by have := HM.out; omega)]
        rfl
      go_wp2_with fail
      go_ret
      refine ⟨_, _, _, rfl, ?_, E0.out.trans0 HE.out⟩
      show Own _ _ _ _ _ _ _
      rw [← hfin.out]
      exact (HO.out.lower (by omega)).mono (fun k hk => by omega)
end Go.Proofs.Ytdjfijdnhfmeeaa
