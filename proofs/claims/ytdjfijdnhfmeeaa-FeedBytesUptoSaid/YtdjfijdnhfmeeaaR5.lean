/- Calls of a feed: next, does, made. -/
import Derived.Test.YtdjfijdnhfmeeaaR4
namespace Go.Proofs.Ytdjfijdnhfmeeaa
open Go.RowKit Go.TM
structure Dc where
  op : Int
  step : Int
  id : Int
  pos : Int
  most : Int
  evs : List Ev
  q : Flt
/-- A call, as it lies in memory. -/
def doK (n : Nat) : Kd Dc where
  sz := 10
  K := fun w ok x cs => ∃ u v, cs = [.int .i64 x.op, .int .i64 x.step, .int .i64 x.id, .int .i64 x.pos, .int .i64 x.most, u, .int .i64 x.q.op, .string x.q.key, .string x.q.val, v] ∧ Rd evK w ok u x.evs ∧ Rd (fltK n) w ok v x.q.kids
  len := fun ⟨_, _, h, _⟩ => by rw [h]; rfl
  one := fun ⟨u, v, h, hu, hr⟩ y hy => by
    rw [h] at hy
    simp only [List.mem_cons, List.not_mem_nil, or_false] at hy
    obtain ⟨A, c, rfl, _⟩ := hr.slice
    obtain ⟨A, c, rfl, _⟩ := hu.slice
    rcases hy with rfl | rfl | rfl | rfl | rfl | rfl | rfl | rfl | rfl | rfl <;> rfl
  mono := fun hok ⟨u, v, h, hu, hr⟩ => ⟨u, v, h, hu.mono hok, hr.mono hok⟩
  bound := fun ⟨u, v, h, hu, hr⟩ => ⟨u, v, h, hu.bound, hr.bound⟩
  move := fun hm ⟨u, v, h, hu, hr⟩ => ⟨u, v, h, hu.move' hm, hr.move' hm⟩
def DV (n : Nat) (w : World) (ok : Nat → Prop) (x : Value) (k : Dc) : Prop :=
  ∃ u v, x = .agg #[.int .i64 k.op, .int .i64 k.step, .int .i64 k.id, .int .i64 k.pos, .int .i64 k.most, u, .int .i64 k.q.op, .string k.q.key, .string k.q.val, v] ∧ Rd evK w ok u k.evs ∧ Rd (fltK n) w ok v k.q.kids
theorem do_at {n : Nat} {w : World} {ok : Nat → Prop} {A : Option Addr} {m c : Nat} {xs : List Dc} (h : Rd (doK n) w ok (.slice A m c) xs) {j : Nat} {x : Dc} (hs : xs[j]? = some x) :
    ∃ g off B l d C k f, A = some ⟨g, off, none⟩ ∧ ok g ∧ g < w.heap.size ∧ w.cell? ⟨g, off + j * 10, none⟩ = some (.int .i64 x.op) ∧ w.cell? ⟨g, off + j * 10 + 1, none⟩ = some (.int .i64 x.step) ∧ w.cell? ⟨g, off + j * 10 + 2, none⟩ = some (.int .i64 x.id) ∧
      w.cell? ⟨g, off + j * 10 + 3, none⟩ = some (.int .i64 x.pos) ∧ w.cell? ⟨g, off + j * 10 + 4, none⟩ = some (.int .i64 x.most) ∧ w.cell? ⟨g, off + j * 10 + 5, none⟩ = some (.slice B l d) ∧
      w.cell? ⟨g, off + j * 10 + 6, none⟩ = some (.int .i64 x.q.op) ∧ w.cell? ⟨g, off + j * 10 + 7, none⟩ = some (.string x.q.key) ∧ w.cell? ⟨g, off + j * 10 + 8, none⟩ = some (.string x.q.val) ∧ w.cell? ⟨g, off + j * 10 + 9, none⟩ = some (.slice C k f) ∧
      Rd evK w ok (.slice B l d) x.evs ∧ Rd (fltK n) w ok (.slice C k f) x.q.kids := by
  obtain ⟨g, off, cs, rfl, hg, hgl, ⟨u, v, rfl, hu, hr⟩, hcs⟩ := h.at_ hs
  obtain ⟨B, l, d, rfl, _⟩ := rd_abs hu
  obtain ⟨C, k, f, rfl, _⟩ := rd_abs hr
  have hc : ∀ i y, ([.int .i64 x.op, .int .i64 x.step, .int .i64 x.id, .int .i64 x.pos, .int .i64 x.most, .slice B l d, .int .i64 x.q.op, .string x.q.key, .string x.q.val, .slice C k f] : List Value)[i]? = some y → w.cell? ⟨g, off + j * 10 + i, none⟩ = some y := fun i y hy => by
    have := hcs i y hy
    rw [← Nat.add_assoc] at this
    exact this
  exact ⟨g, off, B, l, d, C, k, f, rfl, hg, hgl, hc 0 _ rfl, hc 1 _ rfl, hc 2 _ rfl, hc 3 _ rfl, hc 4 _ rfl, hc 5 _ rfl, hc 6 _ rfl, hc 7 _ rfl, hc 8 _ rfl, hc 9 _ rfl, hu, hr⟩
def opc (k : Dc) : Int := bits BinOp.and IntKind.i64 k.op 7
def nextP (D : Fdr) (k : Dc) : Int := D.top + k.step.tmod 10
/-- What a call leaves, and its error. -/
def stepR (n : Nat) (D : Fdr) (k : Dc) : Int × Fdr :=
  if opc k = 4 then ((addR n D k.q).1.2, (addR n D k.q).2)
  else if opc k = 5 then dropR D k.id
  else if opc k = 6 then ackR D k.id k.pos
  else if opc k = 7 then ((readR n D k.id k.pos k.most).2.2, D)
  else noteR D (nextP D k) k.evs
/-- A feed within bounds. -/
structure Good (n : Nat) (D : Fdr) : Prop where
  next : 1 ≤ D.next ∧ D.next ≤ 1099511627776
  top : 0 ≤ D.top ∧ D.top ≤ 1099511627776
  evs : D.evs.length ≤ 32
  subs : D.subs.length ≤ 4
  now : ∀ e ∈ D.evs, e.now.size ≤ 1048576
  q : ∀ s ∈ D.subs, okF (n + 1) s.q ∧ okK (n + 1) s.q ∧ checkE (n + 1) s.q = 0
/-- A call within bounds. -/
structure CallOk (n : Nat) (k : Dc) : Prop where
  okf : okF (n + 1) k.q
  okk : opc k = 4 → okK (n + 1) k.q
  len : k.evs.length ≤ 32768
  now : ∀ e ∈ k.evs, e.now.size ≤ 32768
theorem tmod10 (n : Int) : -9 ≤ n.tmod 10 ∧ n.tmod 10 ≤ 9 := by
  rcases Int.le_total 0 n with h | h
  · rw [Int.tmod_eq_emod_of_nonneg h]
    omega
  · have h2 : n.tmod 10 = -((-n) % 10) := by
      rw [← Int.tmod_eq_emod_of_nonneg (by omega : 0 ≤ -n), Int.neg_tmod, Int.neg_neg]
    rw [h2]
    omega
theorem Fd.blk {n : Nat} {ok : Nat → Prop} {w : World} {g : Nat} {D : Fdr} (h : Fd n ok w g D) : ∃ se ss, FdB w g se ss D.next D.top := by
  obtain ⟨A1, n1, c1, A2, n2, c2, hb, _⟩ := h
  exact ⟨_, _, hb⟩
theorem doS {W : World} {q : Nat} {a0 a1 a2 a3 a4 a5 a6 a7 a8 a9 : Value} {t : TypeId} (h : W.heap[q]? = some (.cells #[a0, a1, a2, a3, a4, a5, a6, a7, a8, a9] t (0, 0))) :
    W.cell? ⟨q, 0, none⟩ = some a0 ∧ W.cell? ⟨q, 1, none⟩ = some a1 ∧ W.cell? ⟨q, 2, none⟩ = some a2 ∧ W.cell? ⟨q, 3, none⟩ = some a3 ∧ W.cell? ⟨q, 4, none⟩ = some a4 ∧ W.cell? ⟨q, 5, none⟩ = some a5 ∧ W.cell? ⟨q, 6, none⟩ = some a6 ∧ W.cell? ⟨q, 7, none⟩ = some a7 ∧ W.cell? ⟨q, 8, none⟩ = some a8 ∧ W.cell? ⟨q, 9, none⟩ = some a9 :=
  ⟨blk_cell h 0, blk_cell h 1, blk_cell h 2, blk_cell h 3, blk_cell h 4, blk_cell h 5, blk_cell h 6, blk_cell h 7, blk_cell h 8, blk_cell h 9⟩
set_option maxRecDepth 100000 in
set_option maxHeartbeats 4000000 in
theorem next_calls {w : World} {n g : Nat} {ok okX : Nat → Prop} {D : Fdr} (h : Fd n ok w g D) (hg : Good n D) {k : Dc} {x : Value} (hx : DV n w okX x k) :
    Calls Try.prog 17 #[.pointer (some ⟨g, 0, none⟩), x] w fun e w' => e = .returned (.int .i64 (nextP D k)) ∧ Ext Non w w' := by
  obtain ⟨se, ss, hb⟩ := h.blk
  obtain ⟨u, v, rfl, hu, hr⟩ := hx
  obtain ⟨B, l, d, rfl, -⟩ := rd_abs hu
  obtain ⟨C, m, f, rfl, -⟩ := rd_abs hr
  have hb := Lib.hid hb
  have hn0 : D.next ≠ 0 := by have := hg.next; omega
  have ht0 := hg.top.1
  have ht1 := hg.top.2
  have hs1 := tmod10 k.step
  have hwr : IntKind.i64.wrap (D.top + k.step.tmod 10) = D.top + k.step.tmod 10 := IntWalk.i64_in _ (by omega)
  clear h hg hu hr
  go_enter Try.func17, Try.ntmps17
  go_wp2_with fail
  have E0 : Ext Non (w.alloc (.cells #[.int .i64 k.op, .int .i64 k.step, .int .i64 k.id, .int .i64 k.pos, .int .i64 k.most, .slice B l d, .int .i64 k.q.op, .string k.q.key, .string k.q.val, .slice C m f] 36)) (w.alloc (.cells #[.int .i64 k.op, .int .i64 k.step, .int .i64 k.id, .int .i64 k.pos, .int .i64 k.most, .slice B l d, .int .i64 k.q.op, .string k.q.key, .string k.q.val, .slice C m f] 36)) := Ext.refl _ _
  have EA : Hid (Ext Non w (w.alloc (.cells #[.int .i64 k.op, .int .i64 k.step, .int .i64 k.id, .int .i64 k.pos, .int .i64 k.most, .slice B l d, .int .i64 k.q.op, .string k.q.key, .string k.q.val, .slice C m f] 36))) := (Ext.refl _ _).alloc _
  refine Last.start_ (S := fun W => W.cell? ⟨w.heap.size, 1, none⟩ = some (.int .i64 k.step)) (ds := []) #[false, false, false, false, false, false, false] (by kernel_rfl) (by rfl) (by rfl) (boxed0 E0 (fun e => e) 1) (fun hS => ?_)
  refine Last.take_ (i := 0) (N := some 5) (v := .pointer (some ⟨g, 0, none⟩)) #[true, false, false, false, false, false, false] (by simp only [List.getElem?_toArray, List.getElem?_cons_zero]; rfl) rfl (by kernel_rfl) (by exact fun _ _ _ h => h) (Or.inl ⟨by rfl, fun W hW => by first | rfl | (try dsimp only at hW); go_simp⟩) hS rfl ?_
  simp only [Act.put, List.setIfInBounds_toArray, List.set_cons_zero, List.set_cons_succ]
  refine Last.take_ (i := 2) (N := some 7) (v := .pointer (some ⟨w.heap.size, 1, none⟩)) #[true, false, true, false, false, false, false] (by simp only [List.getElem?_toArray, List.getElem?_cons_zero, List.getElem?_cons_succ]; rfl) rfl (by kernel_rfl) (by exact fun _ _ _ h => h) (Or.inl ⟨by rfl, fun W hW => by first | rfl | (try dsimp only at hW); go_simp⟩) hS rfl ?_
  simp only [Act.put, List.setIfInBounds_toArray, List.set_cons_zero, List.set_cons_succ]
  refine Last.take_ (i := 3) (N := some 8) (v := .int .i64 k.step) #[true, false, true, true, false, false, false] (by simp only [List.getElem?_toArray, List.getElem?_cons_zero, List.getElem?_cons_succ]; rfl) rfl (by kernel_rfl) (by exact fun _ _ _ h => h) (Or.inl ⟨by rfl, fun W hW => by first | rfl | (try dsimp only at hW); go_simp⟩) hS rfl ?_
  simp only [Act.put, List.setIfInBounds_toArray, List.set_cons_zero, List.set_cons_succ]
  refine Last.take_ (i := 4) (N := some 9) (v := .int .i64 (k.step.tmod 10)) #[true, false, true, true, true, false, false] (by simp only [List.getElem?_toArray, List.getElem?_cons_zero, List.getElem?_cons_succ]; rfl) rfl (by kernel_rfl) (by exact fun _ _ _ h => h) (Or.inl ⟨by rfl, fun W hW => by first | rfl | (try dsimp only at hW); go_simp⟩) hS rfl ?_
  simp only [Act.put, List.setIfInBounds_toArray, List.set_cons_zero, List.set_cons_succ]
  refine Last.one_ (i := 1) (N := some 6) #[true, true, true, true, true, false, false] (by simp only [List.getElem?_toArray, List.getElem?_cons_zero, List.getElem?_cons_succ]; rfl) rfl (by kernel_rfl) (by decide) (fun K hK => ?_)
  refine Last.goes_ Try.func31 (by kernel_rfl) rfl #[.pointer (some ⟨g, 0, none⟩)] (by rfl) rfl rfl (by simp [Act.eval]) ?_
  refine (Top_live (EA.out.drew.obj hb.out (fun e => e)) hn0).mono ?_
  rintro e w6 ⟨rfl, rfl⟩
  refine ⟨_, rfl, ?_⟩
  refine hK.out _ _ (boxed0 E0.drew (fun e => e) 1) (fun hS => ?_)
  try simp only [Act.put, List.setIfInBounds_toArray, List.set_cons_zero, List.set_cons_succ]
  refine Last.take_ (i := 5) (N := some 10) (v := .int .i64 (D.top + k.step.tmod 10)) #[true, true, true, true, true, true, false] (by simp only [List.getElem?_toArray, List.getElem?_cons_zero, List.getElem?_cons_succ]; rfl) rfl (by kernel_rfl) (by exact fun _ _ _ h => h) (Or.inl ⟨by rfl, fun W hW => by first | rfl | (try dsimp only at hW); go_simp⟩) hS rfl ?_
  simp only [Act.put, List.setIfInBounds_toArray, List.set_cons_zero, List.set_cons_succ]
  refine Last.take_ (i := 6) (N := some 4) (v := .int .i64 (D.top + k.step.tmod 10)) #[true, true, true, true, true, true, true] (by simp only [List.getElem?_toArray, List.getElem?_cons_zero, List.getElem?_cons_succ]; rfl) rfl (by kernel_rfl) (by exact fun _ _ _ h => h) (Or.inl ⟨by rfl, fun W hW => by first | rfl | (try dsimp only at hW); go_simp⟩) hS rfl ?_
  simp only [Act.put, List.setIfInBounds_toArray, List.set_cons_zero, List.set_cons_succ]
  refine Last.done_ (by kernel_rfl) ?_
  go_wp2_with fail
  go_ret
  exact ⟨rfl, EA.out.drew⟩
set_option maxRecDepth 100000 in
set_option maxHeartbeats 8000000 in
theorem does_calls {w : World} {n g : Nat} {ok okX : Nat → Prop} {D : Fdr} (h : Fd n ok w g D) (hg : Good n D) (hf : Fresh ok w) {k : Dc} {x : Value} (hx : DV n w okX x k) (hox : ¬ okX g) (hk : CallOk n k) :
    Calls Try.prog 36 #[.pointer (some ⟨g, 0, none⟩), x] w (FdPost n ok g (stepR n D k).2 (.int .i64 (stepR n D k).1) w) := by
  have HF := Lib.hid h
  have FF := Lib.hid hf
  have HG := Lib.hid hg
  have HKO := Lib.hid hk
  have HOX := Lib.hid hox
  have HN0 : Hid (D.next ≠ 0) := by show _ ≠ _; have := hg.next; omega
  have HKE : Hid (k.evs.length ≤ 32768) := hk.len
  obtain ⟨u, v, rfl, hu, hr⟩ := hx
  obtain ⟨B, l, d, rfl, -⟩ := rd_abs hu
  obtain ⟨C, m, f, rfl, -⟩ := rd_abs hr
  have HU := Lib.hid hu
  have HR := Lib.hid hr
  obtain ⟨q, hq⟩ : ∃ q, w.heap.size = q := ⟨_, rfl⟩
  obtain ⟨w1, hw1⟩ : ∃ w1, w.alloc (.cells #[.int .i64 k.op, .int .i64 k.step, .int .i64 k.id, .int .i64 k.pos, .int .i64 k.most, .slice B l d, .int .i64 k.q.op, .string k.q.key, .string k.q.val, .slice C m f] 36) = w1 := ⟨_, rfl⟩
  have E1 : Hid (Ext Non w w1) := by rw [← hw1]; exact (Ext.refl _ _).alloc _
  have BQ : Hid (w1.heap[q]? = some (.cells #[.int .i64 k.op, .int .i64 k.step, .int .i64 k.id, .int .i64 k.pos, .int .i64 k.most, .slice B l d, .int .i64 k.q.op, .string k.q.key, .string k.q.val, .slice C m f] 36 (0, 0))) := by rw [← hw1, ← hq]; exact blk_new w _
  have hgl : g < w.heap.size := by
    obtain ⟨se, ss, hb⟩ := h.blk
    exact blk_lt hb
  obtain ⟨t0, t1, t2, t3, t4, t5, t6, t7, t8, t9⟩ := doS BQ.out
  have hql := blk_lt BQ.out
  have hdef : bits BinOp.and IntKind.i64 k.op 7 = opc k := rfl
  clear h hf hg hk hox hu hr
  by_cases c4 : opc k = 4
  · have HT : Hid (stepR n D k = ((addR n D k.q).1.2, (addR n D k.q).2)) := if_pos c4
    have HKK := Lib.hid (HKO.out.okk c4)
    go_enter Try.func36, Try.ntmps36
    go_wp2_with fail
    refine (Add_calls (n := n) (f := k.q) (HF.out.ext0 E1.out) (by have := HG.out.next; omega) (by have := HG.out.subs; omega) (FF.out.ext E1.out) ⟨_, rfl, HR.out.ext0 E1.out⟩ HKO.out.okf HKK.out).mono ?_
    rintro e w5 ⟨rfl, hf5, he⟩
    have F5 := Lib.hid hf5
    have E5 : Hid (Ext (Only g) w w5) := E1.out.of0.trans he (fun _ _ h => h)
    clear he hf5
    go_wp2_with fail
    go_ret
    rw [HT.out]
    exact ⟨rfl, F5.out, E5.out⟩
  · by_cases c5 : opc k = 5
    · have HT : Hid (stepR n D k = dropR D k.id) := (if_neg c4).trans (if_pos c5)
      go_enter Try.func36, Try.ntmps36
      go_wp2_with fail
      refine (Drop_calls (HF.out.ext0 E1.out) HN0.out (by have := HG.out.evs; omega) (by have := HG.out.subs; omega) (FF.out.ext E1.out) k.id).mono ?_
      rintro e w5 ⟨rfl, hf5, he⟩
      have F5 := Lib.hid hf5
      have E5 : Hid (Ext (Only g) w w5) := E1.out.of0.trans he (fun _ _ h => h)
      clear he hf5
      go_wp2_with fail
      go_ret
      rw [HT.out]
      exact ⟨rfl, F5.out, E5.out⟩
    · by_cases c6 : opc k = 6
      · have HT : Hid (stepR n D k = ackR D k.id k.pos) := (if_neg c4).trans ((if_neg c5).trans (if_pos c6))
        go_enter Try.func36, Try.ntmps36
        go_wp2_with fail
        refine (Ack_calls (HF.out.ext0 E1.out) HN0.out (by have := HG.out.evs; omega) (by have := HG.out.subs; omega) (FF.out.ext E1.out) k.id k.pos).mono ?_
        rintro e w5 ⟨rfl, hf5, he⟩
        have F5 := Lib.hid hf5
        have E5 : Hid (Ext (Only g) w w5) := E1.out.of0.trans he (fun _ _ h => h)
        clear he hf5
        go_wp2_with fail
        go_ret
        rw [HT.out]
        exact ⟨rfl, F5.out, E5.out⟩
      · by_cases c7 : opc k = 7
        · have HT : Hid (stepR n D k = ((readR n D k.id k.pos k.most).2.2, D)) := (if_neg c4).trans ((if_neg c5).trans ((if_neg c6).trans (if_pos c7)))
          go_enter Try.func36, Try.ntmps36
          go_wp2_with fail
          refine (Read_calls (HF.out.ext0 E1.out) HN0.out HG.out.now (by have := HG.out.evs; omega) (fun s hs => (HG.out.q s hs).1) k.id k.pos k.most).mono ?_
          rintro e w5 ⟨B5, m5, d5, rfl, ho, he⟩
          have E5 : Hid (Ext Non w w5) := E1.out.trans0 he
          clear he ho
          go_wp2_with fail
          go_ret
          rw [HT.out]
          exact ⟨rfl, HF.out.ext0 E5.out, E5.out.of0⟩
        · have HT : Hid (stepR n D k = noteR D (nextP D k) k.evs) := (if_neg c4).trans ((if_neg c5).trans ((if_neg c6).trans (if_neg c7)))
          have b4 : (opc k == 4) = false := beq_eq_false_iff_ne.2 c4
          have b5 : (opc k == 5) = false := beq_eq_false_iff_ne.2 c5
          have b6 : (opc k == 6) = false := beq_eq_false_iff_ne.2 c6
          have b7 : (opc k == 7) = false := beq_eq_false_iff_ne.2 c7
          go_enter Try.func36, Try.ntmps36
          go_wp2_with fail
          refine Last.start_ (S := fun W => W.cell? ⟨q, 0, none⟩ = some (.int .i64 k.op) ∧ W.cell? ⟨q, 1, none⟩ = some (.int .i64 k.step) ∧ W.cell? ⟨q, 2, none⟩ = some (.int .i64 k.id) ∧ W.cell? ⟨q, 3, none⟩ = some (.int .i64 k.pos) ∧ W.cell? ⟨q, 4, none⟩ = some (.int .i64 k.most) ∧ W.cell? ⟨q, 5, none⟩ = some (.slice B l d) ∧ W.cell? ⟨q, 6, none⟩ = some (.int .i64 k.q.op) ∧ W.cell? ⟨q, 7, none⟩ = some (.string k.q.key) ∧ W.cell? ⟨q, 8, none⟩ = some (.string k.q.val) ∧ W.cell? ⟨q, 9, none⟩ = some (.slice C m f)) (ds := []) #[false, false, false, false, false, false, false, false] (by kernel_rfl) (by rfl) (by rfl) (doS BQ.out) (fun hS => ?_)
          refine Last.take_ (i := 0) (N := some 52) (v := .pointer (some ⟨g, 0, none⟩)) #[true, false, false, false, false, false, false, false] (by simp only [List.getElem?_toArray, List.getElem?_cons_zero]; rfl) rfl (by kernel_rfl) (by exact fun _ _ _ h => h) (Or.inl ⟨by rfl, fun W hW => by first | rfl | (try dsimp only at hW); go_simp⟩) hS rfl ?_
          simp only [Act.put, List.setIfInBounds_toArray, List.set_cons_zero, List.set_cons_succ]
          refine Last.take_ (i := 1) (N := some 53) (v := .pointer (some ⟨g, 0, none⟩)) #[true, true, false, false, false, false, false, false] (by simp only [List.getElem?_toArray, List.getElem?_cons_zero, List.getElem?_cons_succ]; rfl) rfl (by kernel_rfl) (by exact fun _ _ _ h => h) (Or.inl ⟨by rfl, fun W hW => by first | rfl | (try dsimp only at hW); go_simp⟩) hS rfl ?_
          simp only [Act.put, List.setIfInBounds_toArray, List.set_cons_zero, List.set_cons_succ]
          refine Last.take_ (i := 2) (N := some 54) (v := .agg #[.int .i64 k.op, .int .i64 k.step, .int .i64 k.id, .int .i64 k.pos, .int .i64 k.most, .slice B l d, .int .i64 k.q.op, .string k.q.key, .string k.q.val, .slice C m f]) #[true, true, true, false, false, false, false, false] (by simp only [List.getElem?_toArray, List.getElem?_cons_zero, List.getElem?_cons_succ]; rfl) rfl (by kernel_rfl) (by exact fun _ _ _ h => h) (Or.inl ⟨by rfl, fun W hW => by first | rfl | (try dsimp only at hW); go_simp⟩) hS rfl ?_
          simp only [Act.put, List.setIfInBounds_toArray, List.set_cons_zero, List.set_cons_succ]
          refine Last.take_ (i := 4) (N := some 56) (v := .pointer (some ⟨q, 5, none⟩)) #[true, true, true, false, true, false, false, false] (by simp only [List.getElem?_toArray, List.getElem?_cons_zero, List.getElem?_cons_succ]; rfl) rfl (by kernel_rfl) (by exact fun _ _ _ h => h) (Or.inl ⟨by rfl, fun W hW => by first | rfl | (try dsimp only at hW); go_simp⟩) hS rfl ?_
          simp only [Act.put, List.setIfInBounds_toArray, List.set_cons_zero, List.set_cons_succ]
          refine Last.take_ (i := 5) (N := some 57) (v := .slice B l d) #[true, true, true, false, true, true, false, false] (by simp only [List.getElem?_toArray, List.getElem?_cons_zero, List.getElem?_cons_succ]; rfl) rfl (by kernel_rfl) (by exact fun _ _ _ h => h) (Or.inl ⟨by rfl, fun W hW => by first | rfl | (try dsimp only at hW); go_simp⟩) hS rfl ?_
          simp only [Act.put, List.setIfInBounds_toArray, List.set_cons_zero, List.set_cons_succ]
          refine Last.one_ (i := 3) (N := some 55) #[true, true, true, true, true, true, false, false] (by simp only [List.getElem?_toArray, List.getElem?_cons_zero, List.getElem?_cons_succ]; rfl) rfl (by kernel_rfl) (by decide) (fun K hK => ?_)
          refine Last.goes_ Try.func17 (by kernel_rfl) rfl #[.pointer (some ⟨g, 0, none⟩), .agg #[.int .i64 k.op, .int .i64 k.step, .int .i64 k.id, .int .i64 k.pos, .int .i64 k.most, .slice B l d, .int .i64 k.q.op, .string k.q.key, .string k.q.val, .slice C m f]] (by rfl) rfl rfl (by simp [Act.eval]) ?_
          refine (next_calls (k := k) (HF.out.ext0 E1.out.drew) HG.out ⟨_, _, rfl, HU.out.ext0 E1.out.drew, HR.out.ext0 E1.out.drew⟩).mono ?_
          rintro e w6 ⟨rfl, he⟩
          have E6 : Hid (Ext Non w w6) := E1.out.drew.trans0 he
          have BQ6 := Lib.hid (he.obj (g := q) BQ.out (fun e => e))
          clear he
          refine ⟨_, rfl, ?_⟩
          refine hK.out _ _ (doS BQ6.out) (fun hS => ?_)
          try simp only [Act.put, List.setIfInBounds_toArray, List.set_cons_zero, List.set_cons_succ]
          refine Last.one_ (i := 6) (N := some 58) #[true, true, true, true, true, true, true, false] (by simp only [List.getElem?_toArray, List.getElem?_cons_zero, List.getElem?_cons_succ]; rfl) rfl (by kernel_rfl) (by decide) (fun K hK => ?_)
          refine Last.goes_ Try.func16 (by kernel_rfl) rfl #[.pointer (some ⟨g, 0, none⟩), .int .i64 (nextP D k), .slice B l d] (by rfl) rfl rfl (by simp [Act.eval]) ?_
          refine (Note_calls (HF.out.ext0 E6.out) HN0.out (by have := HG.out.evs; omega) (by have := HG.out.subs; omega) (FF.out.ext E6.out) (HU.out.ext0 E6.out) HOX.out (by have := HKE.out; omega) (nextP D k)).mono ?_
          rintro e w7 ⟨rfl, hf7, he7⟩
          have HF7 := Lib.hid hf7
          have E7 : Hid (Ext (Only g) w w7) := E6.out.of0.trans he7 (fun _ _ h => h)
          have BQ7 := Lib.hid (he7.obj BQ6.out (fun h => by have h' : q = g := h; omega))
          clear hf7 he7
          refine ⟨_, rfl, ?_⟩
          refine hK.out _ _ (doS BQ7.out) (fun hS => ?_)
          try simp only [Act.put, List.setIfInBounds_toArray, List.set_cons_zero, List.set_cons_succ]
          refine Last.take_ (i := 7) (N := some 4) (v := .int .i64 (noteR D (nextP D k) k.evs).1) #[true, true, true, true, true, true, true, true] (by simp only [List.getElem?_toArray, List.getElem?_cons_zero, List.getElem?_cons_succ]; rfl) rfl (by kernel_rfl) (by exact fun _ _ _ h => h) (Or.inl ⟨by rfl, fun W hW => by first | rfl | (try dsimp only at hW); go_simp⟩) hS rfl ?_
          simp only [Act.put, List.setIfInBounds_toArray, List.set_cons_zero, List.set_cons_succ]
          refine Last.done_ (by kernel_rfl) ?_
          go_wp2_with fail
          go_ret
          rw [HT.out]
          exact ⟨rfl, HF7.out, E7.out⟩
end Go.Proofs.Ytdjfijdnhfmeeaa
