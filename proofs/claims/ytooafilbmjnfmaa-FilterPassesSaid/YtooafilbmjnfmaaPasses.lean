/- FilterPasses: the law holds of every filter and two lists of events. -/
import Derived.Test.YtooafilbmjnfmaaK0
import Derived.Test.YtooafilbmjnfmaaM4
import Derived.Test.YtooafilbmjnfmaaM8
import Derived.Test.YtooafilbmjnfmaaL
namespace Go.Proofs.Ytooafilbmjnfmaa
open Go.RowKit Go.TM
theorem cells4 {w : World} {g : Nat} {a0 a1 a2 a3 : Value} {t : TypeId} (h : w.heap[g]? = some (.cells #[a0, a1, a2, a3] t (0, 0))) : w.cell? ⟨g, 0, none⟩ = some a0 ∧ w.cell? ⟨g, 1, none⟩ = some a1 ∧ w.cell? ⟨g, 2, none⟩ = some a2 ∧ w.cell? ⟨g, 3, none⟩ = some a3 := ⟨blk_cell h 0, blk_cell h 1, blk_cell h 2, blk_cell h 3⟩
theorem two_lists {w : World} {q : Nat} {v1 v2 : Value} {xs ys : List Ev} (hb : w.heap[q]? = some (.cells #[v1, v2] 44 (0, 0))) (h1 : Rd evK w (fun _ => True) v1 xs) (h2 : Rd evK w (fun _ => True) v2 ys) : Rd listK w (fun _ => True) (.slice (some ⟨q, 0, none⟩) 2 2) [xs, ys] := by
  have r1 : Reps listK w (fun _ => True) [xs] [v1] := Reps.single ⟨v1, rfl, h1⟩
  have r2 : Reps listK w (fun _ => True) [ys] [v2] := Reps.single ⟨v2, rfl, h2⟩
  exact Rd.of_inner (r1.append r2) trivial (blk_lt hb) (Nat.le_refl _) (by decide) (fun j u hu => by rw [Nat.zero_add, blk_cell hb]; simpa using hu)
theorem pass_small {fp : FieldFn} {n : Nat} {f : Flt} {l : List Ev} (h : l.length ≤ 1000000000 ∧ ∀ x ∈ l, x.now.size ≤ 1000000) : (passF fp n f l).length ≤ l.length ∧ ∀ x ∈ passF fp n f l, x.now.size ≤ 1000000 :=
  ⟨List.length_filter_le _ _, fun x hx => h.2 x (List.mem_filter.1 hx).1⟩
theorem Pass_to {fp : FieldFn} {n : Nat} {f : Flt} {w : World} {ok ok2 : Nat → Prop} {x : Value} {out : List Ev} (hx : FV n w ok x f) (hok : okF (n + 1) f) (hn : noEq (n + 1) f ∨ FieldSpec fp) {B : Option Addr} {m d : Nat} {l : List Ev}
    (hr2 : Rd evK w ok2 (.slice B m d) l) (hsm : ∀ x ∈ l, x.now.size ≤ 1000000) (hl : l.length ≤ 1000000000) (hp : passF fp (n + 1) f l = out) : Calls Try.prog 32 #[x, .slice B m d] w (PassPost out w) := by
  rw [← hp]
  exact Pass_calls hx hok hn hr2 hsm hl
set_option maxRecDepth 100000 in
set_option maxHeartbeats 32000000 in
theorem passes_calls {n : Nat} {f : Flt} {w : World} {ok ok1 ok2 : Nat → Prop} {x : Value} (hx : FV n w ok x f) (hok : okF (n + 1) f) {Aa Ab : Option Addr} {ca cb : Nat} {la lb : List Ev} (ha : Rd evK w ok1 (.slice Aa la.length ca) la) (hao : ∀ x ∈ la, x.ok) (hb : Rd evK w ok2 (.slice Ab lb.length cb) lb) (hbo : ∀ x ∈ lb, x.ok) :
    Calls Try.prog 12 #[x, .slice Aa la.length ca, .slice Ab lb.length cb] w fun e w' => e = .returned (.bool true) ∧ Ext Non w w' := by
  obtain ⟨na, hna⟩ : ∃ na, la.length = na := ⟨_, rfl⟩
  obtain ⟨nb, hnb⟩ : ∃ nb, lb.length = nb := ⟨_, rfl⟩
  rw [hna] at ha ⊢
  rw [hnb] at hb ⊢
  have RAw : Hid (Rd evK w (fun _ => True) (.slice Aa na ca) la) := ha.mono (fun _ _ => trivial)
  have RBw : Hid (Rd evK w (fun _ => True) (.slice Ab nb cb) lb) := hb.mono (fun _ _ => trivial)
  have HNA := Lib.hid hna
  have HNB := Lib.hid hnb
  have HAO := Lib.hid hao
  have HBO := Lib.hid hbo
  obtain ⟨b, hbb⟩ : ∃ b, lightF (n + 1) f = b := ⟨_, rfl⟩
  have HX := Lib.hid hx
  have HOK := Lib.hid hok
  have HB := Lib.hid hbb
  clear hbb hok ha hb hna hnb hao hbo
  obtain ⟨v, rfl, hr⟩ := hx
  obtain ⟨op, key, val, kids⟩ := f
  obtain ⟨A, m, c, rfl, hlen⟩ := rd_abs hr
  clear hr hlen
  dsimp only [Flt.op, Flt.key, Flt.val] at HX ⊢
  go_enter Try.func12, Try.ntmps12
  go_wp2_with fail
  have E0 : Hid (Ext Non w (w.alloc (.cells #[.int .i64 op, .string key, .string val, .slice A m c] 24))) := (Ext.refl _ _).alloc _
  have B0 : Hid ((w.alloc (.cells #[.int .i64 op, .string key, .string val, .slice A m c] 24)).heap[w.heap.size]? = some (.cells #[.int .i64 op, .string key, .string val, .slice A m c] 24)) := blk_new _ _
  obtain ⟨w0, hw0⟩ : ∃ w0, w.alloc (.cells #[.int .i64 op, .string key, .string val, .slice A m c] 24) = w0 := ⟨_, rfl⟩
  rw [hw0] at E0 B0 ⊢
  have V0 := Lib.hid (HX.out.ext0 E0.out)
  have RA0 := Lib.hid (RAw.out.ext0 E0.out)
  have RB0 := Lib.hid (RBw.out.ext0 E0.out)
  clear hw0
  refine (light_calls V0.out HOK.out).mono ?_
  rw [HB.out]
  rintro e' w1 ⟨rfl, he⟩
  have E1 := Lib.hid (E0.out.trans0 he)
  have V1 := Lib.hid (V0.out.ext0 he)
  have RA1 := Lib.hid (RA0.out.ext0 he)
  have RB1 := Lib.hid (RB0.out.ext0 he)
  have B1 := Lib.hid (he.obj B0.out (fun h => h))
  clear he
  cases b with
  | false =>
    go_wp2_with fail
    refine (awake_calls _).mono ?_
    rintro e' wz ⟨rfl, he⟩
    have EZ := Lib.hid (E1.out.trans0 he)
    clear he
    go_wp2_with fail
    go_ret
    exact ⟨rfl, EZ.out⟩
  | true =>
    go_wp2_with fail
    refine (few_calls RA1.out HAO.out).mono ?_
    rintro e' w2 ⟨b2, rfl, he, hb2⟩
    have HB2 := Lib.hid hb2
    have E2 := Lib.hid (E1.out.trans0 he)
    have V2 := Lib.hid (V1.out.ext0 he)
    have RA2 := Lib.hid (RA1.out.ext0 he)
    have RB2 := Lib.hid (RB1.out.ext0 he)
    have B2 := Lib.hid (he.obj B1.out (fun h => h))
    clear he hb2
    cases b2 with
    | false =>
      clear HB2
      go_wp2_with fail
      refine (awake_calls _).mono ?_
      rintro e' wz ⟨rfl, he⟩
      have EZ := Lib.hid (E2.out.trans0 he)
      clear he
      go_wp2_with fail
      go_ret
      exact ⟨rfl, EZ.out⟩
    | true =>
      have HS2 := Lib.hid (HB2.out rfl)
      clear HB2
      go_wp2_with fail
      refine (few_calls RB2.out HBO.out).mono ?_
      rintro e' w5 ⟨b5, rfl, he, hb2⟩
      have HB5 := Lib.hid hb2
      have E5 := Lib.hid (E2.out.trans0 he)
      have V5 := Lib.hid (V2.out.ext0 he)
      have RA5 := Lib.hid (RA2.out.ext0 he)
      have RB5 := Lib.hid (RB2.out.ext0 he)
      have B5 := Lib.hid (he.obj B2.out (fun h => h))
      clear he hb2
      cases b5 with
      | false =>
        clear HB5
        go_wp2_with fail
        refine (awake_calls _).mono ?_
        rintro e' wz ⟨rfl, he⟩
        have EZ := Lib.hid (E5.out.trans0 he)
        clear he
        go_wp2_with fail
        go_ret
        exact ⟨rfl, EZ.out⟩
      | true =>
      have HSA : Hid (la.length ≤ 1000000000 ∧ ∀ x ∈ la, x.now.size ≤ 1000000) := ⟨by have := HS2.out.1; omega, fun x hx => by have := (HS2.out.2 x hx).2.2; omega⟩
      have HSB : Hid (lb.length ≤ 1000000000 ∧ ∀ x ∈ lb, x.now.size ≤ 1000000) := ⟨by have := (HB5.out rfl).1; omega, fun x hx => by have := ((HB5.out rfl).2 x hx).2.2; omega⟩
      have HSA2 : Hid (la.length ≤ 200 ∧ lb.length ≤ 200) := ⟨HS2.out.1, (HB5.out rfl).1⟩
      clear HB5
      obtain ⟨lx, hlx⟩ : ∃ lx, passF fieldF (n + 1) (.mk op key val kids) la = lx := ⟨_, rfl⟩
      obtain ⟨ly, hly⟩ : ∃ ly, passF fieldF (n + 1) (.mk op key val kids) lb = ly := ⟨_, rfl⟩
      have HLX := Lib.hid hlx
      have HLY := Lib.hid hly
      have HSX : Hid (lx.length ≤ 200 ∧ ∀ x ∈ lx, x.now.size ≤ 1000000) := by have h := pass_small (fp := fieldF) (n := n + 1) (f := .mk op key val kids) HSA.out; rw [hlx] at h; exact ⟨by have := HSA2.out.1; omega, h.2⟩
      have HSY : Hid (ly.length ≤ 200 ∧ ∀ x ∈ ly, x.now.size ≤ 1000000) := by have h := pass_small (fp := fieldF) (n := n + 1) (f := .mk op key val kids) HSB.out; rw [hly] at h; exact ⟨by have := HSA2.out.2; omega, h.2⟩
      have HXX : Hid (passF fieldF (n + 1) (.mk op key val kids) lx = lx) := by show passF fieldF (n + 1) (.mk op key val kids) lx = lx; rw [← hlx]; unfold passF; rw [List.filter_filter]; simp
      have HCC : Hid (passF fieldF (n + 1) (.mk op key val kids) [la, lb].flatten = [lx, ly].flatten) := by show _ = _; rw [← hlx, ← hly]; unfold passF; simp
      clear hlx hly
      go_wp2_with fail
      refine Last.start_ (S := fun W => W.cell? ⟨w.heap.size, 0, none⟩ = some (.int .i64 op) ∧ W.cell? ⟨w.heap.size, 1, none⟩ = some (.string key) ∧ W.cell? ⟨w.heap.size, 2, none⟩ = some (.string val) ∧ W.cell? ⟨w.heap.size, 3, none⟩ = some (.slice A m c)) (ds := []) #[false, false, false, false, false, false, false, false] (by kernel_rfl) (by rfl) (by rfl) (cells4 B5.out) (fun hS => ?_)
      refine Last.take_ (i := 0) (N := some 23) (v := .agg #[.int .i64 op, .string key, .string val, .slice A m c]) #[true, false, false, false, false, false, false, false] (by simp only [List.getElem?_toArray, List.getElem?_cons_zero]; rfl) rfl (by kernel_rfl) (by exact fun _ _ _ h => h) (Or.inl ⟨by rfl, fun W hW => by first | rfl | (try dsimp only at hW); go_simp⟩) hS rfl ?_
      simp only [Act.put, List.setIfInBounds_toArray, List.set_cons_zero, List.set_cons_succ]
      refine Last.take_ (i := 1) (N := some 24) (v := .slice Aa na ca) #[true, true, false, false, false, false, false, false] (by simp only [List.getElem?_toArray, List.getElem?_cons_zero, List.getElem?_cons_succ]; rfl) rfl (by kernel_rfl) (by exact fun _ _ _ h => h) (Or.inl ⟨by rfl, fun W hW => by first | rfl | (try dsimp only at hW); go_simp⟩) hS rfl ?_
      simp only [Act.put, List.setIfInBounds_toArray, List.set_cons_zero, List.set_cons_succ]
      refine Last.take_ (i := 3) (N := some 26) (v := .agg #[.int .i64 op, .string key, .string val, .slice A m c]) #[true, true, false, true, false, false, false, false] (by simp only [List.getElem?_toArray, List.getElem?_cons_zero, List.getElem?_cons_succ]; rfl) rfl (by kernel_rfl) (by exact fun _ _ _ h => h) (Or.inl ⟨by rfl, fun W hW => by first | rfl | (try dsimp only at hW); go_simp⟩) hS rfl ?_
      simp only [Act.put, List.setIfInBounds_toArray, List.set_cons_zero, List.set_cons_succ]
      refine Last.take_ (i := 4) (N := some 27) (v := .slice Ab nb cb) #[true, true, false, true, true, false, false, false] (by simp only [List.getElem?_toArray, List.getElem?_cons_zero, List.getElem?_cons_succ]; rfl) rfl (by kernel_rfl) (by exact fun _ _ _ h => h) (Or.inl ⟨by rfl, fun W hW => by first | rfl | (try dsimp only at hW); go_simp⟩) hS rfl ?_
      simp only [Act.put, List.setIfInBounds_toArray, List.set_cons_zero, List.set_cons_succ]
      refine Last.one_ (i := 2) (N := some 25) #[true, true, true, true, true, false, false, false] (by simp only [List.getElem?_toArray, List.getElem?_cons_zero, List.getElem?_cons_succ]; rfl) rfl (by kernel_rfl) (by decide) (fun K hK => ?_)
      refine Last.goes_ Try.func32 (by kernel_rfl) rfl #[.agg #[.int .i64 op, .string key, .string val, .slice A m c], .slice Aa na ca] (by rfl) rfl rfl (by simp [Act.eval]) ?_
      refine (Pass_to (fp := fieldF) (V5.out.ext0 (Ext.refl Non w5).drew) HOK.out (.inr Field_calls) (RA5.out.ext0 (Ext.refl Non w5).drew) HSA.out.2 HSA.out.1 HLX.out).mono ?_
      rintro e' w6 ⟨Ax, nx, cx, rfl, ho, he⟩
      have he := he.out
      have he : Ext Non w5 w6 := ((Ext.refl Non w5).drew).trans0 he
      have XX6 := he
      have V6 := Lib.hid (V5.out.ext0 XX6)
      have RA6 := Lib.hid (RA5.out.ext0 XX6)
      have RB6 := Lib.hid (RB5.out.ext0 XX6)
      have E6 := Lib.hid (E5.out.trans0 XX6)
      have B6 := Lib.hid (XX6.obj B5.out (fun h => h))
      clear XX6
      have RX6 : Hid (Rd evK w6 (fun _ => True) (.slice Ax nx cx) lx) := Rd.mono ho.out.rd (fun _ _ => trivial)
      clear ho he
      refine ⟨_, rfl, hK.out _ _ (cells4 B6.out) (fun hS => ?_)⟩
      try simp only [Act.put, List.setIfInBounds_toArray, List.set_cons_zero, List.set_cons_succ]
      refine Last.one_ (i := 5) (N := some 28) #[true, true, true, true, true, true, false, false] (by simp only [List.getElem?_toArray, List.getElem?_cons_zero, List.getElem?_cons_succ]; rfl) rfl (by kernel_rfl) (by decide) (fun K hK => ?_)
      refine Last.goes_ Try.func32 (by kernel_rfl) rfl #[.agg #[.int .i64 op, .string key, .string val, .slice A m c], .slice Ab nb cb] (by rfl) rfl rfl (by simp [Act.eval]) ?_
      refine (Pass_to (fp := fieldF) V6.out HOK.out (.inr Field_calls) RB6.out HSB.out.2 HSB.out.1 HLY.out).mono ?_
      rintro e' w7 ⟨Ay, ny, cy, rfl, ho, he⟩
      have he := he.out
      have XX7 := he
      have V7 := Lib.hid (V6.out.ext0 XX7)
      have RA7 := Lib.hid (RA6.out.ext0 XX7)
      have RB7 := Lib.hid (RB6.out.ext0 XX7)
      have RX7 := Lib.hid (RX6.out.ext0 XX7)
      have E7 := Lib.hid (E6.out.trans0 XX7)
      have B7 := Lib.hid (XX7.obj B6.out (fun h => h))
      clear XX7
      have RY7 : Hid (Rd evK w7 (fun _ => True) (.slice Ay ny cy) ly) := Rd.mono ho.out.rd (fun _ _ => trivial)
      clear ho he
      refine ⟨_, rfl, hK.out _ _ (cells4 B7.out) (fun hS => ?_)⟩
      try simp only [Act.put, List.setIfInBounds_toArray, List.set_cons_zero, List.set_cons_succ]
      refine Last.take_ (i := 6) (N := some 7) (v := .slice Ax nx cx) #[true, true, true, true, true, true, true, false] (by simp only [List.getElem?_toArray, List.getElem?_cons_zero, List.getElem?_cons_succ]; rfl) rfl (by kernel_rfl) (by exact fun _ _ _ h => h) (Or.inl ⟨by rfl, fun W hW => by first | rfl | (try dsimp only at hW); go_simp⟩) hS rfl ?_
      simp only [Act.put, List.setIfInBounds_toArray, List.set_cons_zero, List.set_cons_succ]
      refine Last.take_ (i := 7) (N := some 8) (v := .slice Ay ny cy) #[true, true, true, true, true, true, true, true] (by simp only [List.getElem?_toArray, List.getElem?_cons_zero, List.getElem?_cons_succ]; rfl) rfl (by kernel_rfl) (by exact fun _ _ _ h => h) (Or.inl ⟨by rfl, fun W hW => by first | rfl | (try dsimp only at hW); go_simp⟩) hS rfl ?_
      simp only [Act.put, List.setIfInBounds_toArray, List.set_cons_zero, List.set_cons_succ]
      refine Last.done_ (by kernel_rfl) ?_
      go_wp2_with fail
      refine Last.start_ (S := fun W => W.cell? ⟨w.heap.size, 0, none⟩ = some (.int .i64 op) ∧ W.cell? ⟨w.heap.size, 1, none⟩ = some (.string key) ∧ W.cell? ⟨w.heap.size, 2, none⟩ = some (.string val) ∧ W.cell? ⟨w.heap.size, 3, none⟩ = some (.slice A m c)) (ds := []) #[false, false, false, false, false, false, false, false, false, false, false, false, false, false, false, false, false, false, false, false, false, false] (by kernel_rfl) (by rfl) (by rfl) (cells4 B7.out) (fun hS => ?_)
      refine Last.take_ (i := 0) (N := some 29) (v := .agg #[.int .i64 op, .string key, .string val, .slice A m c]) #[true, false, false, false, false, false, false, false, false, false, false, false, false, false, false, false, false, false, false, false, false, false] (by simp only [List.getElem?_toArray, List.getElem?_cons_zero]; rfl) rfl (by kernel_rfl) (by exact fun _ _ _ h => h) (Or.inl ⟨by rfl, fun W hW => by first | rfl | (try dsimp only at hW); go_simp⟩) hS rfl ?_
      simp only [Act.put, List.setIfInBounds_toArray, List.set_cons_zero, List.set_cons_succ]
      refine Last.take_ (i := 1) (N := some 30) (v := .slice Ax nx cx) #[true, true, false, false, false, false, false, false, false, false, false, false, false, false, false, false, false, false, false, false, false, false] (by simp only [List.getElem?_toArray, List.getElem?_cons_zero, List.getElem?_cons_succ]; rfl) rfl (by kernel_rfl) (by exact fun _ _ _ h => h) (Or.inl ⟨by rfl, fun W hW => by first | rfl | (try dsimp only at hW); go_simp⟩) hS rfl ?_
      simp only [Act.put, List.setIfInBounds_toArray, List.set_cons_zero, List.set_cons_succ]
      refine Last.take_ (i := 3) (N := some 32) (v := .slice Ax nx cx) #[true, true, false, true, false, false, false, false, false, false, false, false, false, false, false, false, false, false, false, false, false, false] (by simp only [List.getElem?_toArray, List.getElem?_cons_zero, List.getElem?_cons_succ]; rfl) rfl (by kernel_rfl) (by exact fun _ _ _ h => h) (Or.inl ⟨by rfl, fun W hW => by first | rfl | (try dsimp only at hW); go_simp⟩) hS rfl ?_
      simp only [Act.put, List.setIfInBounds_toArray, List.set_cons_zero, List.set_cons_succ]
      obtain ⟨w8, hw8⟩ : ∃ w8, w7.drew = w8 := ⟨_, rfl⟩
      have he : Ext Non w7 w8 := by rw [← hw8]; exact (Ext.refl Non w7).drew
      have XX8 := he
      have V8 := Lib.hid (V7.out.ext0 XX8)
      have RA8 := Lib.hid (RA7.out.ext0 XX8)
      have RB8 := Lib.hid (RB7.out.ext0 XX8)
      have RX8 := Lib.hid (RX7.out.ext0 XX8)
      have RY8 := Lib.hid (RY7.out.ext0 XX8)
      have E8 := Lib.hid (E7.out.trans0 XX8)
      have B8 := Lib.hid (XX8.obj B7.out (fun h => h))
      clear XX8
      rw [hw8] at hS ⊢
      clear hw8 he
      refine Last.one_ (i := 2) (N := some 31) #[true, true, true, true, false, false, false, false, false, false, false, false, false, false, false, false, false, false, false, false, false, false] (by simp only [List.getElem?_toArray, List.getElem?_cons_zero, List.getElem?_cons_succ]; rfl) rfl (by kernel_rfl) (by decide) (fun K hK => ?_)
      refine Last.goes_ Try.func32 (by kernel_rfl) rfl #[.agg #[.int .i64 op, .string key, .string val, .slice A m c], .slice Ax nx cx] (by rfl) rfl rfl (by simp [Act.eval]) ?_
      refine (Pass_to (fp := fieldF) V8.out HOK.out (.inr Field_calls) RX8.out HSX.out.2 (by have := HSX.out.1; omega) HXX.out).mono ?_
      rintro e' w9 ⟨A9, n9, c9, rfl, ho, he⟩
      have he := he.out
      have XX9 := he
      have V9 := Lib.hid (V8.out.ext0 XX9)
      have RA9 := Lib.hid (RA8.out.ext0 XX9)
      have RB9 := Lib.hid (RB8.out.ext0 XX9)
      have RX9 := Lib.hid (RX8.out.ext0 XX9)
      have RY9 := Lib.hid (RY8.out.ext0 XX9)
      have E9 := Lib.hid (E8.out.trans0 XX9)
      have B9 := Lib.hid (XX9.obj B8.out (fun h => h))
      clear XX9
      have P29 := Lib.hid (Rd.mono ho.out.rd (fun _ _ => trivial : ∀ j, _ → True))
      clear ho
      clear he
      refine ⟨_, rfl, hK.out _ _ (cells4 B9.out) (fun hS => ?_)⟩
      try simp only [Act.put, List.setIfInBounds_toArray, List.set_cons_zero, List.set_cons_succ]
      refine Last.one_ (i := 4) (N := some 33) #[true, true, true, true, true, false, false, false, false, false, false, false, false, false, false, false, false, false, false, false, false, false] (by simp only [List.getElem?_toArray, List.getElem?_cons_zero, List.getElem?_cons_succ]; rfl) rfl (by kernel_rfl) (by decide) (fun K hK => ?_)
      refine Last.goes_ Try.func35 (by kernel_rfl) rfl #[.slice A9 n9 c9, .slice Ax nx cx] (by rfl) rfl rfl (by simp [Act.eval]) ?_
      refine (EqualE_calls (l := lx) P29.out RX9.out).mono ?_
      rintro e' w10 ⟨rfl, he⟩
      have XX10 := he
      have V10 := Lib.hid (V9.out.ext0 XX10)
      have RA10 := Lib.hid (RA9.out.ext0 XX10)
      have RB10 := Lib.hid (RB9.out.ext0 XX10)
      have RX10 := Lib.hid (RX9.out.ext0 XX10)
      have RY10 := Lib.hid (RY9.out.ext0 XX10)
      have P210 := Lib.hid (P29.out.ext0 XX10)
      have E10 := Lib.hid (E9.out.trans0 XX10)
      have B10 := Lib.hid (XX10.obj B9.out (fun h => h))
      clear XX10
      clear he
      refine ⟨_, rfl, hK.out _ _ (cells4 B10.out) (fun hS => ?_)⟩
      try simp only [Act.put, List.setIfInBounds_toArray, List.set_cons_zero, List.set_cons_succ]
      refine Last.take_ (i := 5) (N := some 34) (v := .bool true) #[true, true, true, true, true, true, false, false, false, false, false, false, false, false, false, false, false, false, false, false, false, false] (by simp only [List.getElem?_toArray, List.getElem?_cons_zero, List.getElem?_cons_succ]; rfl) rfl (by kernel_rfl) (by exact fun _ _ _ h => h) (Or.inl ⟨by rfl, fun W hW => by first | rfl | (try dsimp only at hW); go_simp⟩) hS rfl ?_
      simp only [Act.put, List.setIfInBounds_toArray, List.set_cons_zero, List.set_cons_succ]
      refine Last.take_ (i := 6) (N := some 35) (v := .agg #[.int .i64 op, .string key, .string val, .slice A m c]) #[true, true, true, true, true, true, true, false, false, false, false, false, false, false, false, false, false, false, false, false, false, false] (by simp only [List.getElem?_toArray, List.getElem?_cons_zero, List.getElem?_cons_succ]; rfl) rfl (by kernel_rfl) (by exact fun _ _ _ h => h) (Or.inl ⟨by rfl, fun W hW => by first | rfl | (try dsimp only at hW); go_simp⟩) hS rfl ?_
      simp only [Act.put, List.setIfInBounds_toArray, List.set_cons_zero, List.set_cons_succ]
      refine Last.take_ (i := 7) (N := some 36) (v := .slice Aa na ca) #[true, true, true, true, true, true, true, true, false, false, false, false, false, false, false, false, false, false, false, false, false, false] (by simp only [List.getElem?_toArray, List.getElem?_cons_zero, List.getElem?_cons_succ]; rfl) rfl (by kernel_rfl) (by exact fun _ _ _ h => h) (Or.inl ⟨by rfl, fun W hW => by first | rfl | (try dsimp only at hW); go_simp⟩) hS rfl ?_
      simp only [Act.put, List.setIfInBounds_toArray, List.set_cons_zero, List.set_cons_succ]
      refine Last.take_ (i := 8) (N := some 37) (v := .slice Ab nb cb) #[true, true, true, true, true, true, true, true, true, false, false, false, false, false, false, false, false, false, false, false, false, false] (by simp only [List.getElem?_toArray, List.getElem?_cons_zero, List.getElem?_cons_succ]; rfl) rfl (by kernel_rfl) (by exact fun _ _ _ h => h) (Or.inl ⟨by rfl, fun W hW => by first | rfl | (try dsimp only at hW); go_simp⟩) hS rfl ?_
      simp only [Act.put, List.setIfInBounds_toArray, List.set_cons_zero, List.set_cons_succ]
      refine Last.take_ (i := 12) (N := some 41) (v := .slice Ax nx cx) #[true, true, true, true, true, true, true, true, true, false, false, false, true, false, false, false, false, false, false, false, false, false] (by simp only [List.getElem?_toArray, List.getElem?_cons_zero, List.getElem?_cons_succ]; rfl) rfl (by kernel_rfl) (by exact fun _ _ _ h => h) (Or.inl ⟨by rfl, fun W hW => by first | rfl | (try dsimp only at hW); go_simp⟩) hS rfl ?_
      simp only [Act.put, List.setIfInBounds_toArray, List.set_cons_zero, List.set_cons_succ]
      refine Last.take_ (i := 13) (N := some 42) (v := .slice Ay ny cy) #[true, true, true, true, true, true, true, true, true, false, false, false, true, true, false, false, false, false, false, false, false, false] (by simp only [List.getElem?_toArray, List.getElem?_cons_zero, List.getElem?_cons_succ]; rfl) rfl (by kernel_rfl) (by exact fun _ _ _ h => h) (Or.inl ⟨by rfl, fun W hW => by first | rfl | (try dsimp only at hW); go_simp⟩) hS rfl ?_
      simp only [Act.put, List.setIfInBounds_toArray, List.set_cons_zero, List.set_cons_succ]
      refine Last.two_ (i := 9) (j := 14) (Ni := some 38) (Nj := some 43) #[true, true, true, true, true, true, true, true, true, true, false, false, true, true, false, false, false, false, false, false, false, false] #[true, true, true, true, true, true, true, true, true, false, false, false, true, true, true, false, false, false, false, false, false, false] (by simp only [List.getElem?_toArray, List.getElem?_cons_zero, List.getElem?_cons_succ]; rfl) (by simp only [List.getElem?_toArray, List.getElem?_cons_zero, List.getElem?_cons_succ]; rfl) rfl rfl (by kernel_rfl) (by decide) (by decide) (fun K hK => ?_) (fun K hK => ?_)
      · obtain ⟨w11, hw⟩ : ∃ wn, w10.alloc (.cells #[.slice Aa na ca, .slice Ab nb cb] 44) = wn := ⟨_, rfl⟩
        obtain ⟨q11, hq⟩ : ∃ q, w10.heap.size = q := ⟨_, rfl⟩
        have hb : w11.heap[q11]? = some (.cells #[.slice Aa na ca, .slice Ab nb cb] 44) := by rw [← hw, ← hq]; exact blk_new _ _
        have he : Ext Non w10 w11 := by rw [← hw]; exact (Ext.refl _ _).alloc _
        have HW := Lib.hid hw
        have HQ := Lib.hid hq
        clear hw hq
        have XX11 := he
        have V11 := Lib.hid (V10.out.ext0 XX11)
        have RA11 := Lib.hid (RA10.out.ext0 XX11)
        have RB11 := Lib.hid (RB10.out.ext0 XX11)
        have RX11 := Lib.hid (RX10.out.ext0 XX11)
        have RY11 := Lib.hid (RY10.out.ext0 XX11)
        have P211 := Lib.hid (P210.out.ext0 XX11)
        have E11 := Lib.hid (E10.out.trans0 XX11)
        have B11 := Lib.hid (XX11.obj B10.out (fun h => h))
        clear XX11
        have L911 : Hid (Rd listK w11 (fun _ => True) (.slice (some ⟨q11, 0, none⟩) 2 2) [la, lb]) := two_lists hb (RA11.out.mono (fun _ _ => trivial)) (RB11.out.mono (fun _ _ => trivial))
        clear hb he
        go_simp
        rw [HW.out, HQ.out]
        clear HW HQ
        refine hK.out _ _ (cells4 B11.out) (fun hS => ?_)
        try simp only [Act.put, List.setIfInBounds_toArray, List.set_cons_zero, List.set_cons_succ]
        refine Last.two_ (i := 10) (j := 14) (Ni := some 39) (Nj := some 43) #[true, true, true, true, true, true, true, true, true, true, true, false, true, true, false, false, false, false, false, false, false, false] #[true, true, true, true, true, true, true, true, true, true, false, false, true, true, true, false, false, false, false, false, false, false] (by simp only [List.getElem?_toArray, List.getElem?_cons_zero, List.getElem?_cons_succ]; rfl) (by simp only [List.getElem?_toArray, List.getElem?_cons_zero, List.getElem?_cons_succ]; rfl) rfl rfl (by kernel_rfl) (by decide) (by decide) (fun K hK => ?_) (fun K hK => ?_)
        · refine Last.goes_ Try.func37 (by kernel_rfl) rfl #[.slice (some ⟨q11, 0, none⟩) 2 2] (by rfl) rfl rfl (by simp [Act.eval]) ?_
          refine (concat_calls (ls := [la, lb]) L911.out (by simp) (by simp) (by have h1 := HSA2.out; simp; omega)).mono ?_
          rintro e' w12 ⟨A12, n12, c12, rfl, ho, he⟩
          have he := he.out
          have XX12 := he
          have V12 := Lib.hid (V11.out.ext0 XX12)
          have RA12 := Lib.hid (RA11.out.ext0 XX12)
          have RB12 := Lib.hid (RB11.out.ext0 XX12)
          have RX12 := Lib.hid (RX11.out.ext0 XX12)
          have RY12 := Lib.hid (RY11.out.ext0 XX12)
          have P212 := Lib.hid (P211.out.ext0 XX12)
          have L912 := Lib.hid (L911.out.ext0 XX12)
          have E12 := Lib.hid (E11.out.trans0 XX12)
          have B12 := Lib.hid (XX12.obj B11.out (fun h => h))
          clear XX12
          have C1012 := Lib.hid (Rd.mono ho.out.rd (fun _ _ => trivial : ∀ j, _ → True))
          clear ho
          clear he
          refine ⟨_, rfl, hK.out _ _ (cells4 B12.out) (fun hS => ?_)⟩
          try simp only [Act.put, List.setIfInBounds_toArray, List.set_cons_zero, List.set_cons_succ]
          refine Last.two_ (i := 11) (j := 14) (Ni := some 40) (Nj := some 43) #[true, true, true, true, true, true, true, true, true, true, true, true, true, true, false, false, false, false, false, false, false, false] #[true, true, true, true, true, true, true, true, true, true, true, false, true, true, true, false, false, false, false, false, false, false] (by simp only [List.getElem?_toArray, List.getElem?_cons_zero, List.getElem?_cons_succ]; rfl) (by simp only [List.getElem?_toArray, List.getElem?_cons_zero, List.getElem?_cons_succ]; rfl) rfl rfl (by kernel_rfl) (by decide) (by decide) (fun K hK => ?_) (fun K hK => ?_)
          · refine Last.goes_ Try.func32 (by kernel_rfl) rfl #[.agg #[.int .i64 op, .string key, .string val, .slice A m c], .slice A12 n12 c12] (by rfl) rfl rfl (by simp [Act.eval]) ?_
            refine (Pass_calls (fp := fieldF) (l := [la, lb].flatten) V12.out HOK.out (.inr Field_calls) C1012.out (by intro x hx; have h1 := HSA.out.2; have h2 := HSB.out.2; simp at hx; rcases hx with hx | hx; exact h1 x hx; exact h2 x hx) (by have h1 := HSA2.out; simp; omega)).mono ?_
            rintro e' w13 ⟨A13, n13, c13, rfl, ho, he⟩
            have he := he.out
            have XX13 := he
            have V13 := Lib.hid (V12.out.ext0 XX13)
            have RA13 := Lib.hid (RA12.out.ext0 XX13)
            have RB13 := Lib.hid (RB12.out.ext0 XX13)
            have RX13 := Lib.hid (RX12.out.ext0 XX13)
            have RY13 := Lib.hid (RY12.out.ext0 XX13)
            have P213 := Lib.hid (P212.out.ext0 XX13)
            have L913 := Lib.hid (L912.out.ext0 XX13)
            have C1013 := Lib.hid (C1012.out.ext0 XX13)
            have E13 := Lib.hid (E12.out.trans0 XX13)
            have B13 := Lib.hid (XX13.obj B12.out (fun h => h))
            clear XX13
            have P1113 := Lib.hid (Rd.mono ho.out.rd (fun _ _ => trivial : ∀ j, _ → True))
            clear ho
            clear he
            refine ⟨_, rfl, hK.out _ _ (cells4 B13.out) (fun hS => ?_)⟩
            try simp only [Act.put, List.setIfInBounds_toArray, List.set_cons_zero, List.set_cons_succ]
            refine Last.one_ (i := 14) (N := some 43) #[true, true, true, true, true, true, true, true, true, true, true, true, true, true, true, false, false, false, false, false, false, false] (by simp only [List.getElem?_toArray, List.getElem?_cons_zero, List.getElem?_cons_succ]; rfl) rfl (by kernel_rfl) (by decide) (fun K hK => ?_)
            obtain ⟨w14, hw⟩ : ∃ wn, w13.alloc (.cells #[.slice Ax nx cx, .slice Ay ny cy] 44) = wn := ⟨_, rfl⟩
            obtain ⟨q14, hq⟩ : ∃ q, w13.heap.size = q := ⟨_, rfl⟩
            have hb : w14.heap[q14]? = some (.cells #[.slice Ax nx cx, .slice Ay ny cy] 44) := by rw [← hw, ← hq]; exact blk_new _ _
            have he : Ext Non w13 w14 := by rw [← hw]; exact (Ext.refl _ _).alloc _
            have HW := Lib.hid hw
            have HQ := Lib.hid hq
            clear hw hq
            have XX14 := he
            have V14 := Lib.hid (V13.out.ext0 XX14)
            have RA14 := Lib.hid (RA13.out.ext0 XX14)
            have RB14 := Lib.hid (RB13.out.ext0 XX14)
            have RX14 := Lib.hid (RX13.out.ext0 XX14)
            have RY14 := Lib.hid (RY13.out.ext0 XX14)
            have P214 := Lib.hid (P213.out.ext0 XX14)
            have L914 := Lib.hid (L913.out.ext0 XX14)
            have C1014 := Lib.hid (C1013.out.ext0 XX14)
            have P1114 := Lib.hid (P1113.out.ext0 XX14)
            have E14 := Lib.hid (E13.out.trans0 XX14)
            have B14 := Lib.hid (XX14.obj B13.out (fun h => h))
            clear XX14
            have L1414 : Hid (Rd listK w14 (fun _ => True) (.slice (some ⟨q14, 0, none⟩) 2 2) [lx, ly]) := two_lists hb (RX14.out.mono (fun _ _ => trivial)) (RY14.out.mono (fun _ _ => trivial))
            clear hb he
            go_simp
            rw [HW.out, HQ.out]
            clear HW HQ
            refine hK.out _ _ (cells4 B14.out) (fun hS => ?_)
            try simp only [Act.put, List.setIfInBounds_toArray, List.set_cons_zero, List.set_cons_succ]
            refine Last.one_ (i := 15) (N := some 44) #[true, true, true, true, true, true, true, true, true, true, true, true, true, true, true, true, false, false, false, false, false, false] (by simp only [List.getElem?_toArray, List.getElem?_cons_zero, List.getElem?_cons_succ]; rfl) rfl (by kernel_rfl) (by decide) (fun K hK => ?_)
            refine Last.goes_ Try.func37 (by kernel_rfl) rfl #[.slice (some ⟨q14, 0, none⟩) 2 2] (by rfl) rfl rfl (by simp [Act.eval]) ?_
            refine (concat_calls (ls := [lx, ly]) L1414.out (by simp) (by simp) (by have h1 := HSX.out.1; have h2 := HSY.out.1; simp; omega)).mono ?_
            rintro e' w15 ⟨A15, n15, c15, rfl, ho, he⟩
            have he := he.out
            have XX15 := he
            have V15 := Lib.hid (V14.out.ext0 XX15)
            have RA15 := Lib.hid (RA14.out.ext0 XX15)
            have RB15 := Lib.hid (RB14.out.ext0 XX15)
            have RX15 := Lib.hid (RX14.out.ext0 XX15)
            have RY15 := Lib.hid (RY14.out.ext0 XX15)
            have P215 := Lib.hid (P214.out.ext0 XX15)
            have L915 := Lib.hid (L914.out.ext0 XX15)
            have C1015 := Lib.hid (C1014.out.ext0 XX15)
            have P1115 := Lib.hid (P1114.out.ext0 XX15)
            have L1415 := Lib.hid (L1414.out.ext0 XX15)
            have E15 := Lib.hid (E14.out.trans0 XX15)
            have B15 := Lib.hid (XX15.obj B14.out (fun h => h))
            clear XX15
            have C1515 := Lib.hid (Rd.mono ho.out.rd (fun _ _ => trivial : ∀ j, _ → True))
            clear ho
            clear he
            refine ⟨_, rfl, hK.out _ _ (cells4 B15.out) (fun hS => ?_)⟩
            try simp only [Act.put, List.setIfInBounds_toArray, List.set_cons_zero, List.set_cons_succ]
            refine Last.one_ (i := 16) (N := some 45) #[true, true, true, true, true, true, true, true, true, true, true, true, true, true, true, true, true, false, false, false, false, false] (by simp only [List.getElem?_toArray, List.getElem?_cons_zero, List.getElem?_cons_succ]; rfl) rfl (by kernel_rfl) (by decide) (fun K hK => ?_)
            refine Last.goes_ Try.func35 (by kernel_rfl) rfl #[.slice A13 n13 c13, .slice A15 n15 c15] (by rfl) rfl rfl (by simp [Act.eval]) ?_
            refine (EqualE_calls (l := [lx, ly].flatten) (by have h := P1115.out; rw [HCC.out] at h; exact h) C1515.out).mono ?_
            rintro e' w16 ⟨rfl, he⟩
            have XX16 := he
            have V16 := Lib.hid (V15.out.ext0 XX16)
            have RA16 := Lib.hid (RA15.out.ext0 XX16)
            have RB16 := Lib.hid (RB15.out.ext0 XX16)
            have RX16 := Lib.hid (RX15.out.ext0 XX16)
            have RY16 := Lib.hid (RY15.out.ext0 XX16)
            have P216 := Lib.hid (P215.out.ext0 XX16)
            have L916 := Lib.hid (L915.out.ext0 XX16)
            have C1016 := Lib.hid (C1015.out.ext0 XX16)
            have P1116 := Lib.hid (P1115.out.ext0 XX16)
            have L1416 := Lib.hid (L1415.out.ext0 XX16)
            have C1516 := Lib.hid (C1515.out.ext0 XX16)
            have E16 := Lib.hid (E15.out.trans0 XX16)
            have B16 := Lib.hid (XX16.obj B15.out (fun h => h))
            clear XX16
            clear he
            refine ⟨_, rfl, hK.out _ _ (cells4 B16.out) (fun hS => ?_)⟩
            try simp only [Act.put, List.setIfInBounds_toArray, List.set_cons_zero, List.set_cons_succ]
            refine Last.take_ (i := 17) (N := some 46) (v := .bool true) #[true, true, true, true, true, true, true, true, true, true, true, true, true, true, true, true, true, true, false, false, false, false] (by simp only [List.getElem?_toArray, List.getElem?_cons_zero, List.getElem?_cons_succ]; rfl) rfl (by kernel_rfl) (by exact fun _ _ _ h => h) (Or.inl ⟨by rfl, fun W hW => by first | rfl | (try dsimp only at hW); go_simp⟩) hS rfl ?_
            simp only [Act.put, List.setIfInBounds_toArray, List.set_cons_zero, List.set_cons_succ]
            refine Last.take_ (i := 18) (N := some 47) (v := .bool true) #[true, true, true, true, true, true, true, true, true, true, true, true, true, true, true, true, true, true, true, false, false, false] (by simp only [List.getElem?_toArray, List.getElem?_cons_zero, List.getElem?_cons_succ]; rfl) rfl (by kernel_rfl) (by exact fun _ _ _ h => h) (Or.inl ⟨by rfl, fun W hW => by first | rfl | (try dsimp only at hW); go_simp⟩) hS rfl ?_
            simp only [Act.put, List.setIfInBounds_toArray, List.set_cons_zero, List.set_cons_succ]
            refine Last.one_ (i := 19) (N := some 48) #[true, true, true, true, true, true, true, true, true, true, true, true, true, true, true, true, true, true, true, true, false, false] (by simp only [List.getElem?_toArray, List.getElem?_cons_zero, List.getElem?_cons_succ]; rfl) rfl (by kernel_rfl) (by decide) (fun K hK => ?_)
            refine Last.goes_ Try.func16 (by kernel_rfl) rfl #[] (by rfl) rfl rfl (by simp) ?_
            refine (awake_calls _).mono ?_
            rintro e' w17 ⟨rfl, he⟩
            have XX17 := he
            have V17 := Lib.hid (V16.out.ext0 XX17)
            have RA17 := Lib.hid (RA16.out.ext0 XX17)
            have RB17 := Lib.hid (RB16.out.ext0 XX17)
            have RX17 := Lib.hid (RX16.out.ext0 XX17)
            have RY17 := Lib.hid (RY16.out.ext0 XX17)
            have P217 := Lib.hid (P216.out.ext0 XX17)
            have L917 := Lib.hid (L916.out.ext0 XX17)
            have C1017 := Lib.hid (C1016.out.ext0 XX17)
            have P1117 := Lib.hid (P1116.out.ext0 XX17)
            have L1417 := Lib.hid (L1416.out.ext0 XX17)
            have C1517 := Lib.hid (C1516.out.ext0 XX17)
            have E17 := Lib.hid (E16.out.trans0 XX17)
            have B17 := Lib.hid (XX17.obj B16.out (fun h => h))
            clear XX17
            clear he
            refine ⟨_, rfl, hK.out _ _ (cells4 B17.out) (fun hS => ?_)⟩
            try simp only [Act.put, List.setIfInBounds_toArray, List.set_cons_zero, List.set_cons_succ]
            refine Last.take_ (i := 20) (N := some 49) (v := .bool true) #[true, true, true, true, true, true, true, true, true, true, true, true, true, true, true, true, true, true, true, true, true, false] (by simp only [List.getElem?_toArray, List.getElem?_cons_zero, List.getElem?_cons_succ]; rfl) rfl (by kernel_rfl) (by exact fun _ _ _ h => h) (Or.inl ⟨by rfl, fun W hW => by first | rfl | (try dsimp only at hW); go_simp⟩) hS rfl ?_
            simp only [Act.put, List.setIfInBounds_toArray, List.set_cons_zero, List.set_cons_succ]
            refine Last.take_ (i := 21) (N := some 6) (v := .bool true) #[true, true, true, true, true, true, true, true, true, true, true, true, true, true, true, true, true, true, true, true, true, true] (by simp only [List.getElem?_toArray, List.getElem?_cons_zero, List.getElem?_cons_succ]; rfl) rfl (by kernel_rfl) (by exact fun _ _ _ h => h) (Or.inl ⟨by rfl, fun W hW => by first | rfl | (try dsimp only at hW); go_simp⟩) hS rfl ?_
            simp only [Act.put, List.setIfInBounds_toArray, List.set_cons_zero, List.set_cons_succ]
            refine Last.done_ (by kernel_rfl) ?_
            go_wp2_with fail
            go_ret
            exact ⟨rfl, E17.out⟩
          · obtain ⟨w13, hw⟩ : ∃ wn, w12.alloc (.cells #[.slice Ax nx cx, .slice Ay ny cy] 44) = wn := ⟨_, rfl⟩
            obtain ⟨q13, hq⟩ : ∃ q, w12.heap.size = q := ⟨_, rfl⟩
            have hb : w13.heap[q13]? = some (.cells #[.slice Ax nx cx, .slice Ay ny cy] 44) := by rw [← hw, ← hq]; exact blk_new _ _
            have he : Ext Non w12 w13 := by rw [← hw]; exact (Ext.refl _ _).alloc _
            have HW := Lib.hid hw
            have HQ := Lib.hid hq
            clear hw hq
            have XX13 := he
            have V13 := Lib.hid (V12.out.ext0 XX13)
            have RA13 := Lib.hid (RA12.out.ext0 XX13)
            have RB13 := Lib.hid (RB12.out.ext0 XX13)
            have RX13 := Lib.hid (RX12.out.ext0 XX13)
            have RY13 := Lib.hid (RY12.out.ext0 XX13)
            have P213 := Lib.hid (P212.out.ext0 XX13)
            have L913 := Lib.hid (L912.out.ext0 XX13)
            have C1013 := Lib.hid (C1012.out.ext0 XX13)
            have E13 := Lib.hid (E12.out.trans0 XX13)
            have B13 := Lib.hid (XX13.obj B12.out (fun h => h))
            clear XX13
            have L1413 : Hid (Rd listK w13 (fun _ => True) (.slice (some ⟨q13, 0, none⟩) 2 2) [lx, ly]) := two_lists hb (RX13.out.mono (fun _ _ => trivial)) (RY13.out.mono (fun _ _ => trivial))
            clear hb he
            go_simp
            rw [HW.out, HQ.out]
            clear HW HQ
            refine hK.out _ _ (cells4 B13.out) (fun hS => ?_)
            try simp only [Act.put, List.setIfInBounds_toArray, List.set_cons_zero, List.set_cons_succ]
            refine Last.one_ (i := 11) (N := some 40) #[true, true, true, true, true, true, true, true, true, true, true, true, true, true, true, false, false, false, false, false, false, false] (by simp only [List.getElem?_toArray, List.getElem?_cons_zero, List.getElem?_cons_succ]; rfl) rfl (by kernel_rfl) (by decide) (fun K hK => ?_)
            refine Last.goes_ Try.func32 (by kernel_rfl) rfl #[.agg #[.int .i64 op, .string key, .string val, .slice A m c], .slice A12 n12 c12] (by rfl) rfl rfl (by simp [Act.eval]) ?_
            refine (Pass_calls (fp := fieldF) (l := [la, lb].flatten) V13.out HOK.out (.inr Field_calls) C1013.out (by intro x hx; have h1 := HSA.out.2; have h2 := HSB.out.2; simp at hx; rcases hx with hx | hx; exact h1 x hx; exact h2 x hx) (by have h1 := HSA2.out; simp; omega)).mono ?_
            rintro e' w14 ⟨A14, n14, c14, rfl, ho, he⟩
            have he := he.out
            have XX14 := he
            have V14 := Lib.hid (V13.out.ext0 XX14)
            have RA14 := Lib.hid (RA13.out.ext0 XX14)
            have RB14 := Lib.hid (RB13.out.ext0 XX14)
            have RX14 := Lib.hid (RX13.out.ext0 XX14)
            have RY14 := Lib.hid (RY13.out.ext0 XX14)
            have P214 := Lib.hid (P213.out.ext0 XX14)
            have L914 := Lib.hid (L913.out.ext0 XX14)
            have C1014 := Lib.hid (C1013.out.ext0 XX14)
            have L1414 := Lib.hid (L1413.out.ext0 XX14)
            have E14 := Lib.hid (E13.out.trans0 XX14)
            have B14 := Lib.hid (XX14.obj B13.out (fun h => h))
            clear XX14
            have P1114 := Lib.hid (Rd.mono ho.out.rd (fun _ _ => trivial : ∀ j, _ → True))
            clear ho
            clear he
            refine ⟨_, rfl, hK.out _ _ (cells4 B14.out) (fun hS => ?_)⟩
            try simp only [Act.put, List.setIfInBounds_toArray, List.set_cons_zero, List.set_cons_succ]
            refine Last.one_ (i := 15) (N := some 44) #[true, true, true, true, true, true, true, true, true, true, true, true, true, true, true, true, false, false, false, false, false, false] (by simp only [List.getElem?_toArray, List.getElem?_cons_zero, List.getElem?_cons_succ]; rfl) rfl (by kernel_rfl) (by decide) (fun K hK => ?_)
            refine Last.goes_ Try.func37 (by kernel_rfl) rfl #[.slice (some ⟨q13, 0, none⟩) 2 2] (by rfl) rfl rfl (by simp [Act.eval]) ?_
            refine (concat_calls (ls := [lx, ly]) L1414.out (by simp) (by simp) (by have h1 := HSX.out.1; have h2 := HSY.out.1; simp; omega)).mono ?_
            rintro e' w15 ⟨A15, n15, c15, rfl, ho, he⟩
            have he := he.out
            have XX15 := he
            have V15 := Lib.hid (V14.out.ext0 XX15)
            have RA15 := Lib.hid (RA14.out.ext0 XX15)
            have RB15 := Lib.hid (RB14.out.ext0 XX15)
            have RX15 := Lib.hid (RX14.out.ext0 XX15)
            have RY15 := Lib.hid (RY14.out.ext0 XX15)
            have P215 := Lib.hid (P214.out.ext0 XX15)
            have L915 := Lib.hid (L914.out.ext0 XX15)
            have C1015 := Lib.hid (C1014.out.ext0 XX15)
            have L1415 := Lib.hid (L1414.out.ext0 XX15)
            have P1115 := Lib.hid (P1114.out.ext0 XX15)
            have E15 := Lib.hid (E14.out.trans0 XX15)
            have B15 := Lib.hid (XX15.obj B14.out (fun h => h))
            clear XX15
            have C1515 := Lib.hid (Rd.mono ho.out.rd (fun _ _ => trivial : ∀ j, _ → True))
            clear ho
            clear he
            refine ⟨_, rfl, hK.out _ _ (cells4 B15.out) (fun hS => ?_)⟩
            try simp only [Act.put, List.setIfInBounds_toArray, List.set_cons_zero, List.set_cons_succ]
            refine Last.one_ (i := 16) (N := some 45) #[true, true, true, true, true, true, true, true, true, true, true, true, true, true, true, true, true, false, false, false, false, false] (by simp only [List.getElem?_toArray, List.getElem?_cons_zero, List.getElem?_cons_succ]; rfl) rfl (by kernel_rfl) (by decide) (fun K hK => ?_)
            refine Last.goes_ Try.func35 (by kernel_rfl) rfl #[.slice A14 n14 c14, .slice A15 n15 c15] (by rfl) rfl rfl (by simp [Act.eval]) ?_
            refine (EqualE_calls (l := [lx, ly].flatten) (by have h := P1115.out; rw [HCC.out] at h; exact h) C1515.out).mono ?_
            rintro e' w16 ⟨rfl, he⟩
            have XX16 := he
            have V16 := Lib.hid (V15.out.ext0 XX16)
            have RA16 := Lib.hid (RA15.out.ext0 XX16)
            have RB16 := Lib.hid (RB15.out.ext0 XX16)
            have RX16 := Lib.hid (RX15.out.ext0 XX16)
            have RY16 := Lib.hid (RY15.out.ext0 XX16)
            have P216 := Lib.hid (P215.out.ext0 XX16)
            have L916 := Lib.hid (L915.out.ext0 XX16)
            have C1016 := Lib.hid (C1015.out.ext0 XX16)
            have L1416 := Lib.hid (L1415.out.ext0 XX16)
            have P1116 := Lib.hid (P1115.out.ext0 XX16)
            have C1516 := Lib.hid (C1515.out.ext0 XX16)
            have E16 := Lib.hid (E15.out.trans0 XX16)
            have B16 := Lib.hid (XX16.obj B15.out (fun h => h))
            clear XX16
            clear he
            refine ⟨_, rfl, hK.out _ _ (cells4 B16.out) (fun hS => ?_)⟩
            try simp only [Act.put, List.setIfInBounds_toArray, List.set_cons_zero, List.set_cons_succ]
            refine Last.take_ (i := 17) (N := some 46) (v := .bool true) #[true, true, true, true, true, true, true, true, true, true, true, true, true, true, true, true, true, true, false, false, false, false] (by simp only [List.getElem?_toArray, List.getElem?_cons_zero, List.getElem?_cons_succ]; rfl) rfl (by kernel_rfl) (by exact fun _ _ _ h => h) (Or.inl ⟨by rfl, fun W hW => by first | rfl | (try dsimp only at hW); go_simp⟩) hS rfl ?_
            simp only [Act.put, List.setIfInBounds_toArray, List.set_cons_zero, List.set_cons_succ]
            refine Last.take_ (i := 18) (N := some 47) (v := .bool true) #[true, true, true, true, true, true, true, true, true, true, true, true, true, true, true, true, true, true, true, false, false, false] (by simp only [List.getElem?_toArray, List.getElem?_cons_zero, List.getElem?_cons_succ]; rfl) rfl (by kernel_rfl) (by exact fun _ _ _ h => h) (Or.inl ⟨by rfl, fun W hW => by first | rfl | (try dsimp only at hW); go_simp⟩) hS rfl ?_
            simp only [Act.put, List.setIfInBounds_toArray, List.set_cons_zero, List.set_cons_succ]
            refine Last.one_ (i := 19) (N := some 48) #[true, true, true, true, true, true, true, true, true, true, true, true, true, true, true, true, true, true, true, true, false, false] (by simp only [List.getElem?_toArray, List.getElem?_cons_zero, List.getElem?_cons_succ]; rfl) rfl (by kernel_rfl) (by decide) (fun K hK => ?_)
            refine Last.goes_ Try.func16 (by kernel_rfl) rfl #[] (by rfl) rfl rfl (by simp) ?_
            refine (awake_calls _).mono ?_
            rintro e' w17 ⟨rfl, he⟩
            have XX17 := he
            have V17 := Lib.hid (V16.out.ext0 XX17)
            have RA17 := Lib.hid (RA16.out.ext0 XX17)
            have RB17 := Lib.hid (RB16.out.ext0 XX17)
            have RX17 := Lib.hid (RX16.out.ext0 XX17)
            have RY17 := Lib.hid (RY16.out.ext0 XX17)
            have P217 := Lib.hid (P216.out.ext0 XX17)
            have L917 := Lib.hid (L916.out.ext0 XX17)
            have C1017 := Lib.hid (C1016.out.ext0 XX17)
            have L1417 := Lib.hid (L1416.out.ext0 XX17)
            have P1117 := Lib.hid (P1116.out.ext0 XX17)
            have C1517 := Lib.hid (C1516.out.ext0 XX17)
            have E17 := Lib.hid (E16.out.trans0 XX17)
            have B17 := Lib.hid (XX17.obj B16.out (fun h => h))
            clear XX17
            clear he
            refine ⟨_, rfl, hK.out _ _ (cells4 B17.out) (fun hS => ?_)⟩
            try simp only [Act.put, List.setIfInBounds_toArray, List.set_cons_zero, List.set_cons_succ]
            refine Last.take_ (i := 20) (N := some 49) (v := .bool true) #[true, true, true, true, true, true, true, true, true, true, true, true, true, true, true, true, true, true, true, true, true, false] (by simp only [List.getElem?_toArray, List.getElem?_cons_zero, List.getElem?_cons_succ]; rfl) rfl (by kernel_rfl) (by exact fun _ _ _ h => h) (Or.inl ⟨by rfl, fun W hW => by first | rfl | (try dsimp only at hW); go_simp⟩) hS rfl ?_
            simp only [Act.put, List.setIfInBounds_toArray, List.set_cons_zero, List.set_cons_succ]
            refine Last.take_ (i := 21) (N := some 6) (v := .bool true) #[true, true, true, true, true, true, true, true, true, true, true, true, true, true, true, true, true, true, true, true, true, true] (by simp only [List.getElem?_toArray, List.getElem?_cons_zero, List.getElem?_cons_succ]; rfl) rfl (by kernel_rfl) (by exact fun _ _ _ h => h) (Or.inl ⟨by rfl, fun W hW => by first | rfl | (try dsimp only at hW); go_simp⟩) hS rfl ?_
            simp only [Act.put, List.setIfInBounds_toArray, List.set_cons_zero, List.set_cons_succ]
            refine Last.done_ (by kernel_rfl) ?_
            go_wp2_with fail
            go_ret
            exact ⟨rfl, E17.out⟩
        · obtain ⟨w12, hw⟩ : ∃ wn, w11.alloc (.cells #[.slice Ax nx cx, .slice Ay ny cy] 44) = wn := ⟨_, rfl⟩
          obtain ⟨q12, hq⟩ : ∃ q, w11.heap.size = q := ⟨_, rfl⟩
          have hb : w12.heap[q12]? = some (.cells #[.slice Ax nx cx, .slice Ay ny cy] 44) := by rw [← hw, ← hq]; exact blk_new _ _
          have he : Ext Non w11 w12 := by rw [← hw]; exact (Ext.refl _ _).alloc _
          have HW := Lib.hid hw
          have HQ := Lib.hid hq
          clear hw hq
          have XX12 := he
          have V12 := Lib.hid (V11.out.ext0 XX12)
          have RA12 := Lib.hid (RA11.out.ext0 XX12)
          have RB12 := Lib.hid (RB11.out.ext0 XX12)
          have RX12 := Lib.hid (RX11.out.ext0 XX12)
          have RY12 := Lib.hid (RY11.out.ext0 XX12)
          have P212 := Lib.hid (P211.out.ext0 XX12)
          have L912 := Lib.hid (L911.out.ext0 XX12)
          have E12 := Lib.hid (E11.out.trans0 XX12)
          have B12 := Lib.hid (XX12.obj B11.out (fun h => h))
          clear XX12
          have L1412 : Hid (Rd listK w12 (fun _ => True) (.slice (some ⟨q12, 0, none⟩) 2 2) [lx, ly]) := two_lists hb (RX12.out.mono (fun _ _ => trivial)) (RY12.out.mono (fun _ _ => trivial))
          clear hb he
          go_simp
          rw [HW.out, HQ.out]
          clear HW HQ
          refine hK.out _ _ (cells4 B12.out) (fun hS => ?_)
          try simp only [Act.put, List.setIfInBounds_toArray, List.set_cons_zero, List.set_cons_succ]
          refine Last.one_ (i := 10) (N := some 39) #[true, true, true, true, true, true, true, true, true, true, true, false, true, true, true, false, false, false, false, false, false, false] (by simp only [List.getElem?_toArray, List.getElem?_cons_zero, List.getElem?_cons_succ]; rfl) rfl (by kernel_rfl) (by decide) (fun K hK => ?_)
          refine Last.goes_ Try.func37 (by kernel_rfl) rfl #[.slice (some ⟨q11, 0, none⟩) 2 2] (by rfl) rfl rfl (by simp [Act.eval]) ?_
          refine (concat_calls (ls := [la, lb]) L912.out (by simp) (by simp) (by have h1 := HSA2.out; simp; omega)).mono ?_
          rintro e' w13 ⟨A13, n13, c13, rfl, ho, he⟩
          have he := he.out
          have XX13 := he
          have V13 := Lib.hid (V12.out.ext0 XX13)
          have RA13 := Lib.hid (RA12.out.ext0 XX13)
          have RB13 := Lib.hid (RB12.out.ext0 XX13)
          have RX13 := Lib.hid (RX12.out.ext0 XX13)
          have RY13 := Lib.hid (RY12.out.ext0 XX13)
          have P213 := Lib.hid (P212.out.ext0 XX13)
          have L913 := Lib.hid (L912.out.ext0 XX13)
          have L1413 := Lib.hid (L1412.out.ext0 XX13)
          have E13 := Lib.hid (E12.out.trans0 XX13)
          have B13 := Lib.hid (XX13.obj B12.out (fun h => h))
          clear XX13
          have C1013 := Lib.hid (Rd.mono ho.out.rd (fun _ _ => trivial : ∀ j, _ → True))
          clear ho
          clear he
          refine ⟨_, rfl, hK.out _ _ (cells4 B13.out) (fun hS => ?_)⟩
          try simp only [Act.put, List.setIfInBounds_toArray, List.set_cons_zero, List.set_cons_succ]
          refine Last.one_ (i := 11) (N := some 40) #[true, true, true, true, true, true, true, true, true, true, true, true, true, true, true, false, false, false, false, false, false, false] (by simp only [List.getElem?_toArray, List.getElem?_cons_zero, List.getElem?_cons_succ]; rfl) rfl (by kernel_rfl) (by decide) (fun K hK => ?_)
          refine Last.goes_ Try.func32 (by kernel_rfl) rfl #[.agg #[.int .i64 op, .string key, .string val, .slice A m c], .slice A13 n13 c13] (by rfl) rfl rfl (by simp [Act.eval]) ?_
          refine (Pass_calls (fp := fieldF) (l := [la, lb].flatten) V13.out HOK.out (.inr Field_calls) C1013.out (by intro x hx; have h1 := HSA.out.2; have h2 := HSB.out.2; simp at hx; rcases hx with hx | hx; exact h1 x hx; exact h2 x hx) (by have h1 := HSA2.out; simp; omega)).mono ?_
          rintro e' w14 ⟨A14, n14, c14, rfl, ho, he⟩
          have he := he.out
          have XX14 := he
          have V14 := Lib.hid (V13.out.ext0 XX14)
          have RA14 := Lib.hid (RA13.out.ext0 XX14)
          have RB14 := Lib.hid (RB13.out.ext0 XX14)
          have RX14 := Lib.hid (RX13.out.ext0 XX14)
          have RY14 := Lib.hid (RY13.out.ext0 XX14)
          have P214 := Lib.hid (P213.out.ext0 XX14)
          have L914 := Lib.hid (L913.out.ext0 XX14)
          have L1414 := Lib.hid (L1413.out.ext0 XX14)
          have C1014 := Lib.hid (C1013.out.ext0 XX14)
          have E14 := Lib.hid (E13.out.trans0 XX14)
          have B14 := Lib.hid (XX14.obj B13.out (fun h => h))
          clear XX14
          have P1114 := Lib.hid (Rd.mono ho.out.rd (fun _ _ => trivial : ∀ j, _ → True))
          clear ho
          clear he
          refine ⟨_, rfl, hK.out _ _ (cells4 B14.out) (fun hS => ?_)⟩
          try simp only [Act.put, List.setIfInBounds_toArray, List.set_cons_zero, List.set_cons_succ]
          refine Last.one_ (i := 15) (N := some 44) #[true, true, true, true, true, true, true, true, true, true, true, true, true, true, true, true, false, false, false, false, false, false] (by simp only [List.getElem?_toArray, List.getElem?_cons_zero, List.getElem?_cons_succ]; rfl) rfl (by kernel_rfl) (by decide) (fun K hK => ?_)
          refine Last.goes_ Try.func37 (by kernel_rfl) rfl #[.slice (some ⟨q12, 0, none⟩) 2 2] (by rfl) rfl rfl (by simp [Act.eval]) ?_
          refine (concat_calls (ls := [lx, ly]) L1414.out (by simp) (by simp) (by have h1 := HSX.out.1; have h2 := HSY.out.1; simp; omega)).mono ?_
          rintro e' w15 ⟨A15, n15, c15, rfl, ho, he⟩
          have he := he.out
          have XX15 := he
          have V15 := Lib.hid (V14.out.ext0 XX15)
          have RA15 := Lib.hid (RA14.out.ext0 XX15)
          have RB15 := Lib.hid (RB14.out.ext0 XX15)
          have RX15 := Lib.hid (RX14.out.ext0 XX15)
          have RY15 := Lib.hid (RY14.out.ext0 XX15)
          have P215 := Lib.hid (P214.out.ext0 XX15)
          have L915 := Lib.hid (L914.out.ext0 XX15)
          have L1415 := Lib.hid (L1414.out.ext0 XX15)
          have C1015 := Lib.hid (C1014.out.ext0 XX15)
          have P1115 := Lib.hid (P1114.out.ext0 XX15)
          have E15 := Lib.hid (E14.out.trans0 XX15)
          have B15 := Lib.hid (XX15.obj B14.out (fun h => h))
          clear XX15
          have C1515 := Lib.hid (Rd.mono ho.out.rd (fun _ _ => trivial : ∀ j, _ → True))
          clear ho
          clear he
          refine ⟨_, rfl, hK.out _ _ (cells4 B15.out) (fun hS => ?_)⟩
          try simp only [Act.put, List.setIfInBounds_toArray, List.set_cons_zero, List.set_cons_succ]
          refine Last.one_ (i := 16) (N := some 45) #[true, true, true, true, true, true, true, true, true, true, true, true, true, true, true, true, true, false, false, false, false, false] (by simp only [List.getElem?_toArray, List.getElem?_cons_zero, List.getElem?_cons_succ]; rfl) rfl (by kernel_rfl) (by decide) (fun K hK => ?_)
          refine Last.goes_ Try.func35 (by kernel_rfl) rfl #[.slice A14 n14 c14, .slice A15 n15 c15] (by rfl) rfl rfl (by simp [Act.eval]) ?_
          refine (EqualE_calls (l := [lx, ly].flatten) (by have h := P1115.out; rw [HCC.out] at h; exact h) C1515.out).mono ?_
          rintro e' w16 ⟨rfl, he⟩
          have XX16 := he
          have V16 := Lib.hid (V15.out.ext0 XX16)
          have RA16 := Lib.hid (RA15.out.ext0 XX16)
          have RB16 := Lib.hid (RB15.out.ext0 XX16)
          have RX16 := Lib.hid (RX15.out.ext0 XX16)
          have RY16 := Lib.hid (RY15.out.ext0 XX16)
          have P216 := Lib.hid (P215.out.ext0 XX16)
          have L916 := Lib.hid (L915.out.ext0 XX16)
          have L1416 := Lib.hid (L1415.out.ext0 XX16)
          have C1016 := Lib.hid (C1015.out.ext0 XX16)
          have P1116 := Lib.hid (P1115.out.ext0 XX16)
          have C1516 := Lib.hid (C1515.out.ext0 XX16)
          have E16 := Lib.hid (E15.out.trans0 XX16)
          have B16 := Lib.hid (XX16.obj B15.out (fun h => h))
          clear XX16
          clear he
          refine ⟨_, rfl, hK.out _ _ (cells4 B16.out) (fun hS => ?_)⟩
          try simp only [Act.put, List.setIfInBounds_toArray, List.set_cons_zero, List.set_cons_succ]
          refine Last.take_ (i := 17) (N := some 46) (v := .bool true) #[true, true, true, true, true, true, true, true, true, true, true, true, true, true, true, true, true, true, false, false, false, false] (by simp only [List.getElem?_toArray, List.getElem?_cons_zero, List.getElem?_cons_succ]; rfl) rfl (by kernel_rfl) (by exact fun _ _ _ h => h) (Or.inl ⟨by rfl, fun W hW => by first | rfl | (try dsimp only at hW); go_simp⟩) hS rfl ?_
          simp only [Act.put, List.setIfInBounds_toArray, List.set_cons_zero, List.set_cons_succ]
          refine Last.take_ (i := 18) (N := some 47) (v := .bool true) #[true, true, true, true, true, true, true, true, true, true, true, true, true, true, true, true, true, true, true, false, false, false] (by simp only [List.getElem?_toArray, List.getElem?_cons_zero, List.getElem?_cons_succ]; rfl) rfl (by kernel_rfl) (by exact fun _ _ _ h => h) (Or.inl ⟨by rfl, fun W hW => by first | rfl | (try dsimp only at hW); go_simp⟩) hS rfl ?_
          simp only [Act.put, List.setIfInBounds_toArray, List.set_cons_zero, List.set_cons_succ]
          refine Last.one_ (i := 19) (N := some 48) #[true, true, true, true, true, true, true, true, true, true, true, true, true, true, true, true, true, true, true, true, false, false] (by simp only [List.getElem?_toArray, List.getElem?_cons_zero, List.getElem?_cons_succ]; rfl) rfl (by kernel_rfl) (by decide) (fun K hK => ?_)
          refine Last.goes_ Try.func16 (by kernel_rfl) rfl #[] (by rfl) rfl rfl (by simp) ?_
          refine (awake_calls _).mono ?_
          rintro e' w17 ⟨rfl, he⟩
          have XX17 := he
          have V17 := Lib.hid (V16.out.ext0 XX17)
          have RA17 := Lib.hid (RA16.out.ext0 XX17)
          have RB17 := Lib.hid (RB16.out.ext0 XX17)
          have RX17 := Lib.hid (RX16.out.ext0 XX17)
          have RY17 := Lib.hid (RY16.out.ext0 XX17)
          have P217 := Lib.hid (P216.out.ext0 XX17)
          have L917 := Lib.hid (L916.out.ext0 XX17)
          have L1417 := Lib.hid (L1416.out.ext0 XX17)
          have C1017 := Lib.hid (C1016.out.ext0 XX17)
          have P1117 := Lib.hid (P1116.out.ext0 XX17)
          have C1517 := Lib.hid (C1516.out.ext0 XX17)
          have E17 := Lib.hid (E16.out.trans0 XX17)
          have B17 := Lib.hid (XX17.obj B16.out (fun h => h))
          clear XX17
          clear he
          refine ⟨_, rfl, hK.out _ _ (cells4 B17.out) (fun hS => ?_)⟩
          try simp only [Act.put, List.setIfInBounds_toArray, List.set_cons_zero, List.set_cons_succ]
          refine Last.take_ (i := 20) (N := some 49) (v := .bool true) #[true, true, true, true, true, true, true, true, true, true, true, true, true, true, true, true, true, true, true, true, true, false] (by simp only [List.getElem?_toArray, List.getElem?_cons_zero, List.getElem?_cons_succ]; rfl) rfl (by kernel_rfl) (by exact fun _ _ _ h => h) (Or.inl ⟨by rfl, fun W hW => by first | rfl | (try dsimp only at hW); go_simp⟩) hS rfl ?_
          simp only [Act.put, List.setIfInBounds_toArray, List.set_cons_zero, List.set_cons_succ]
          refine Last.take_ (i := 21) (N := some 6) (v := .bool true) #[true, true, true, true, true, true, true, true, true, true, true, true, true, true, true, true, true, true, true, true, true, true] (by simp only [List.getElem?_toArray, List.getElem?_cons_zero, List.getElem?_cons_succ]; rfl) rfl (by kernel_rfl) (by exact fun _ _ _ h => h) (Or.inl ⟨by rfl, fun W hW => by first | rfl | (try dsimp only at hW); go_simp⟩) hS rfl ?_
          simp only [Act.put, List.setIfInBounds_toArray, List.set_cons_zero, List.set_cons_succ]
          refine Last.done_ (by kernel_rfl) ?_
          go_wp2_with fail
          go_ret
          exact ⟨rfl, E17.out⟩
      · obtain ⟨w11, hw⟩ : ∃ wn, w10.alloc (.cells #[.slice Ax nx cx, .slice Ay ny cy] 44) = wn := ⟨_, rfl⟩
        obtain ⟨q11, hq⟩ : ∃ q, w10.heap.size = q := ⟨_, rfl⟩
        have hb : w11.heap[q11]? = some (.cells #[.slice Ax nx cx, .slice Ay ny cy] 44) := by rw [← hw, ← hq]; exact blk_new _ _
        have he : Ext Non w10 w11 := by rw [← hw]; exact (Ext.refl _ _).alloc _
        have HW := Lib.hid hw
        have HQ := Lib.hid hq
        clear hw hq
        have XX11 := he
        have V11 := Lib.hid (V10.out.ext0 XX11)
        have RA11 := Lib.hid (RA10.out.ext0 XX11)
        have RB11 := Lib.hid (RB10.out.ext0 XX11)
        have RX11 := Lib.hid (RX10.out.ext0 XX11)
        have RY11 := Lib.hid (RY10.out.ext0 XX11)
        have P211 := Lib.hid (P210.out.ext0 XX11)
        have E11 := Lib.hid (E10.out.trans0 XX11)
        have B11 := Lib.hid (XX11.obj B10.out (fun h => h))
        clear XX11
        have L1411 : Hid (Rd listK w11 (fun _ => True) (.slice (some ⟨q11, 0, none⟩) 2 2) [lx, ly]) := two_lists hb (RX11.out.mono (fun _ _ => trivial)) (RY11.out.mono (fun _ _ => trivial))
        clear hb he
        go_simp
        rw [HW.out, HQ.out]
        clear HW HQ
        refine hK.out _ _ (cells4 B11.out) (fun hS => ?_)
        try simp only [Act.put, List.setIfInBounds_toArray, List.set_cons_zero, List.set_cons_succ]
        refine Last.one_ (i := 9) (N := some 38) #[true, true, true, true, true, true, true, true, true, true, false, false, true, true, true, false, false, false, false, false, false, false] (by simp only [List.getElem?_toArray, List.getElem?_cons_zero, List.getElem?_cons_succ]; rfl) rfl (by kernel_rfl) (by decide) (fun K hK => ?_)
        obtain ⟨w12, hw⟩ : ∃ wn, w11.alloc (.cells #[.slice Aa na ca, .slice Ab nb cb] 44) = wn := ⟨_, rfl⟩
        obtain ⟨q12, hq⟩ : ∃ q, w11.heap.size = q := ⟨_, rfl⟩
        have hb : w12.heap[q12]? = some (.cells #[.slice Aa na ca, .slice Ab nb cb] 44) := by rw [← hw, ← hq]; exact blk_new _ _
        have he : Ext Non w11 w12 := by rw [← hw]; exact (Ext.refl _ _).alloc _
        have HW := Lib.hid hw
        have HQ := Lib.hid hq
        clear hw hq
        have XX12 := he
        have V12 := Lib.hid (V11.out.ext0 XX12)
        have RA12 := Lib.hid (RA11.out.ext0 XX12)
        have RB12 := Lib.hid (RB11.out.ext0 XX12)
        have RX12 := Lib.hid (RX11.out.ext0 XX12)
        have RY12 := Lib.hid (RY11.out.ext0 XX12)
        have P212 := Lib.hid (P211.out.ext0 XX12)
        have L1412 := Lib.hid (L1411.out.ext0 XX12)
        have E12 := Lib.hid (E11.out.trans0 XX12)
        have B12 := Lib.hid (XX12.obj B11.out (fun h => h))
        clear XX12
        have L912 : Hid (Rd listK w12 (fun _ => True) (.slice (some ⟨q12, 0, none⟩) 2 2) [la, lb]) := two_lists hb (RA12.out.mono (fun _ _ => trivial)) (RB12.out.mono (fun _ _ => trivial))
        clear hb he
        go_simp
        rw [HW.out, HQ.out]
        clear HW HQ
        refine hK.out _ _ (cells4 B12.out) (fun hS => ?_)
        try simp only [Act.put, List.setIfInBounds_toArray, List.set_cons_zero, List.set_cons_succ]
        refine Last.one_ (i := 10) (N := some 39) #[true, true, true, true, true, true, true, true, true, true, true, false, true, true, true, false, false, false, false, false, false, false] (by simp only [List.getElem?_toArray, List.getElem?_cons_zero, List.getElem?_cons_succ]; rfl) rfl (by kernel_rfl) (by decide) (fun K hK => ?_)
        refine Last.goes_ Try.func37 (by kernel_rfl) rfl #[.slice (some ⟨q12, 0, none⟩) 2 2] (by rfl) rfl rfl (by simp [Act.eval]) ?_
        refine (concat_calls (ls := [la, lb]) L912.out (by simp) (by simp) (by have h1 := HSA2.out; simp; omega)).mono ?_
        rintro e' w13 ⟨A13, n13, c13, rfl, ho, he⟩
        have he := he.out
        have XX13 := he
        have V13 := Lib.hid (V12.out.ext0 XX13)
        have RA13 := Lib.hid (RA12.out.ext0 XX13)
        have RB13 := Lib.hid (RB12.out.ext0 XX13)
        have RX13 := Lib.hid (RX12.out.ext0 XX13)
        have RY13 := Lib.hid (RY12.out.ext0 XX13)
        have P213 := Lib.hid (P212.out.ext0 XX13)
        have L1413 := Lib.hid (L1412.out.ext0 XX13)
        have L913 := Lib.hid (L912.out.ext0 XX13)
        have E13 := Lib.hid (E12.out.trans0 XX13)
        have B13 := Lib.hid (XX13.obj B12.out (fun h => h))
        clear XX13
        have C1013 := Lib.hid (Rd.mono ho.out.rd (fun _ _ => trivial : ∀ j, _ → True))
        clear ho
        clear he
        refine ⟨_, rfl, hK.out _ _ (cells4 B13.out) (fun hS => ?_)⟩
        try simp only [Act.put, List.setIfInBounds_toArray, List.set_cons_zero, List.set_cons_succ]
        refine Last.one_ (i := 11) (N := some 40) #[true, true, true, true, true, true, true, true, true, true, true, true, true, true, true, false, false, false, false, false, false, false] (by simp only [List.getElem?_toArray, List.getElem?_cons_zero, List.getElem?_cons_succ]; rfl) rfl (by kernel_rfl) (by decide) (fun K hK => ?_)
        refine Last.goes_ Try.func32 (by kernel_rfl) rfl #[.agg #[.int .i64 op, .string key, .string val, .slice A m c], .slice A13 n13 c13] (by rfl) rfl rfl (by simp [Act.eval]) ?_
        refine (Pass_calls (fp := fieldF) (l := [la, lb].flatten) V13.out HOK.out (.inr Field_calls) C1013.out (by intro x hx; have h1 := HSA.out.2; have h2 := HSB.out.2; simp at hx; rcases hx with hx | hx; exact h1 x hx; exact h2 x hx) (by have h1 := HSA2.out; simp; omega)).mono ?_
        rintro e' w14 ⟨A14, n14, c14, rfl, ho, he⟩
        have he := he.out
        have XX14 := he
        have V14 := Lib.hid (V13.out.ext0 XX14)
        have RA14 := Lib.hid (RA13.out.ext0 XX14)
        have RB14 := Lib.hid (RB13.out.ext0 XX14)
        have RX14 := Lib.hid (RX13.out.ext0 XX14)
        have RY14 := Lib.hid (RY13.out.ext0 XX14)
        have P214 := Lib.hid (P213.out.ext0 XX14)
        have L1414 := Lib.hid (L1413.out.ext0 XX14)
        have L914 := Lib.hid (L913.out.ext0 XX14)
        have C1014 := Lib.hid (C1013.out.ext0 XX14)
        have E14 := Lib.hid (E13.out.trans0 XX14)
        have B14 := Lib.hid (XX14.obj B13.out (fun h => h))
        clear XX14
        have P1114 := Lib.hid (Rd.mono ho.out.rd (fun _ _ => trivial : ∀ j, _ → True))
        clear ho
        clear he
        refine ⟨_, rfl, hK.out _ _ (cells4 B14.out) (fun hS => ?_)⟩
        try simp only [Act.put, List.setIfInBounds_toArray, List.set_cons_zero, List.set_cons_succ]
        refine Last.one_ (i := 15) (N := some 44) #[true, true, true, true, true, true, true, true, true, true, true, true, true, true, true, true, false, false, false, false, false, false] (by simp only [List.getElem?_toArray, List.getElem?_cons_zero, List.getElem?_cons_succ]; rfl) rfl (by kernel_rfl) (by decide) (fun K hK => ?_)
        refine Last.goes_ Try.func37 (by kernel_rfl) rfl #[.slice (some ⟨q11, 0, none⟩) 2 2] (by rfl) rfl rfl (by simp [Act.eval]) ?_
        refine (concat_calls (ls := [lx, ly]) L1414.out (by simp) (by simp) (by have h1 := HSX.out.1; have h2 := HSY.out.1; simp; omega)).mono ?_
        rintro e' w15 ⟨A15, n15, c15, rfl, ho, he⟩
        have he := he.out
        have XX15 := he
        have V15 := Lib.hid (V14.out.ext0 XX15)
        have RA15 := Lib.hid (RA14.out.ext0 XX15)
        have RB15 := Lib.hid (RB14.out.ext0 XX15)
        have RX15 := Lib.hid (RX14.out.ext0 XX15)
        have RY15 := Lib.hid (RY14.out.ext0 XX15)
        have P215 := Lib.hid (P214.out.ext0 XX15)
        have L1415 := Lib.hid (L1414.out.ext0 XX15)
        have L915 := Lib.hid (L914.out.ext0 XX15)
        have C1015 := Lib.hid (C1014.out.ext0 XX15)
        have P1115 := Lib.hid (P1114.out.ext0 XX15)
        have E15 := Lib.hid (E14.out.trans0 XX15)
        have B15 := Lib.hid (XX15.obj B14.out (fun h => h))
        clear XX15
        have C1515 := Lib.hid (Rd.mono ho.out.rd (fun _ _ => trivial : ∀ j, _ → True))
        clear ho
        clear he
        refine ⟨_, rfl, hK.out _ _ (cells4 B15.out) (fun hS => ?_)⟩
        try simp only [Act.put, List.setIfInBounds_toArray, List.set_cons_zero, List.set_cons_succ]
        refine Last.one_ (i := 16) (N := some 45) #[true, true, true, true, true, true, true, true, true, true, true, true, true, true, true, true, true, false, false, false, false, false] (by simp only [List.getElem?_toArray, List.getElem?_cons_zero, List.getElem?_cons_succ]; rfl) rfl (by kernel_rfl) (by decide) (fun K hK => ?_)
        refine Last.goes_ Try.func35 (by kernel_rfl) rfl #[.slice A14 n14 c14, .slice A15 n15 c15] (by rfl) rfl rfl (by simp [Act.eval]) ?_
        refine (EqualE_calls (l := [lx, ly].flatten) (by have h := P1115.out; rw [HCC.out] at h; exact h) C1515.out).mono ?_
        rintro e' w16 ⟨rfl, he⟩
        have XX16 := he
        have V16 := Lib.hid (V15.out.ext0 XX16)
        have RA16 := Lib.hid (RA15.out.ext0 XX16)
        have RB16 := Lib.hid (RB15.out.ext0 XX16)
        have RX16 := Lib.hid (RX15.out.ext0 XX16)
        have RY16 := Lib.hid (RY15.out.ext0 XX16)
        have P216 := Lib.hid (P215.out.ext0 XX16)
        have L1416 := Lib.hid (L1415.out.ext0 XX16)
        have L916 := Lib.hid (L915.out.ext0 XX16)
        have C1016 := Lib.hid (C1015.out.ext0 XX16)
        have P1116 := Lib.hid (P1115.out.ext0 XX16)
        have C1516 := Lib.hid (C1515.out.ext0 XX16)
        have E16 := Lib.hid (E15.out.trans0 XX16)
        have B16 := Lib.hid (XX16.obj B15.out (fun h => h))
        clear XX16
        clear he
        refine ⟨_, rfl, hK.out _ _ (cells4 B16.out) (fun hS => ?_)⟩
        try simp only [Act.put, List.setIfInBounds_toArray, List.set_cons_zero, List.set_cons_succ]
        refine Last.take_ (i := 17) (N := some 46) (v := .bool true) #[true, true, true, true, true, true, true, true, true, true, true, true, true, true, true, true, true, true, false, false, false, false] (by simp only [List.getElem?_toArray, List.getElem?_cons_zero, List.getElem?_cons_succ]; rfl) rfl (by kernel_rfl) (by exact fun _ _ _ h => h) (Or.inl ⟨by rfl, fun W hW => by first | rfl | (try dsimp only at hW); go_simp⟩) hS rfl ?_
        simp only [Act.put, List.setIfInBounds_toArray, List.set_cons_zero, List.set_cons_succ]
        refine Last.take_ (i := 18) (N := some 47) (v := .bool true) #[true, true, true, true, true, true, true, true, true, true, true, true, true, true, true, true, true, true, true, false, false, false] (by simp only [List.getElem?_toArray, List.getElem?_cons_zero, List.getElem?_cons_succ]; rfl) rfl (by kernel_rfl) (by exact fun _ _ _ h => h) (Or.inl ⟨by rfl, fun W hW => by first | rfl | (try dsimp only at hW); go_simp⟩) hS rfl ?_
        simp only [Act.put, List.setIfInBounds_toArray, List.set_cons_zero, List.set_cons_succ]
        refine Last.one_ (i := 19) (N := some 48) #[true, true, true, true, true, true, true, true, true, true, true, true, true, true, true, true, true, true, true, true, false, false] (by simp only [List.getElem?_toArray, List.getElem?_cons_zero, List.getElem?_cons_succ]; rfl) rfl (by kernel_rfl) (by decide) (fun K hK => ?_)
        refine Last.goes_ Try.func16 (by kernel_rfl) rfl #[] (by rfl) rfl rfl (by simp) ?_
        refine (awake_calls _).mono ?_
        rintro e' w17 ⟨rfl, he⟩
        have XX17 := he
        have V17 := Lib.hid (V16.out.ext0 XX17)
        have RA17 := Lib.hid (RA16.out.ext0 XX17)
        have RB17 := Lib.hid (RB16.out.ext0 XX17)
        have RX17 := Lib.hid (RX16.out.ext0 XX17)
        have RY17 := Lib.hid (RY16.out.ext0 XX17)
        have P217 := Lib.hid (P216.out.ext0 XX17)
        have L1417 := Lib.hid (L1416.out.ext0 XX17)
        have L917 := Lib.hid (L916.out.ext0 XX17)
        have C1017 := Lib.hid (C1016.out.ext0 XX17)
        have P1117 := Lib.hid (P1116.out.ext0 XX17)
        have C1517 := Lib.hid (C1516.out.ext0 XX17)
        have E17 := Lib.hid (E16.out.trans0 XX17)
        have B17 := Lib.hid (XX17.obj B16.out (fun h => h))
        clear XX17
        clear he
        refine ⟨_, rfl, hK.out _ _ (cells4 B17.out) (fun hS => ?_)⟩
        try simp only [Act.put, List.setIfInBounds_toArray, List.set_cons_zero, List.set_cons_succ]
        refine Last.take_ (i := 20) (N := some 49) (v := .bool true) #[true, true, true, true, true, true, true, true, true, true, true, true, true, true, true, true, true, true, true, true, true, false] (by simp only [List.getElem?_toArray, List.getElem?_cons_zero, List.getElem?_cons_succ]; rfl) rfl (by kernel_rfl) (by exact fun _ _ _ h => h) (Or.inl ⟨by rfl, fun W hW => by first | rfl | (try dsimp only at hW); go_simp⟩) hS rfl ?_
        simp only [Act.put, List.setIfInBounds_toArray, List.set_cons_zero, List.set_cons_succ]
        refine Last.take_ (i := 21) (N := some 6) (v := .bool true) #[true, true, true, true, true, true, true, true, true, true, true, true, true, true, true, true, true, true, true, true, true, true] (by simp only [List.getElem?_toArray, List.getElem?_cons_zero, List.getElem?_cons_succ]; rfl) rfl (by kernel_rfl) (by exact fun _ _ _ h => h) (Or.inl ⟨by rfl, fun W hW => by first | rfl | (try dsimp only at hW); go_simp⟩) hS rfl ?_
        simp only [Act.put, List.setIfInBounds_toArray, List.set_cons_zero, List.set_cons_succ]
        refine Last.done_ (by kernel_rfl) ?_
        go_wp2_with fail
        go_ret
        exact ⟨rfl, E17.out⟩
end Go.Proofs.Ytooafilbmjnfmaa
