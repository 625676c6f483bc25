/- Pass of the program: the events that pass. slices.Equal of two lists of events that are the same; slices.Clone. What the laws' arguments read as: events. -/
import Derived.Test.YtdjfijdnhfmeeaaMA
namespace Go.Proofs.Ytdjfijdnhfmeeaa
open Go.RowKit Go.TM
theorem info43 : (Try.prog.info? 43).map (fun i => (i.zero, i.size, i.bytes)) = some (some (.agg #[.int .i64 0, .string ⟨#[]⟩, .bool false, .string ⟨#[]⟩, .bool false, .string ⟨#[]⟩]), evK.sz, 72) := by kernel_rfl
def passF (fp : FieldFn) (n : Nat) (f : Flt) (l : List Ev) : List Ev := l.filter fun e => holdsP fp n f e
def PassPost (l : List Ev) (w : World) (e : Ending) (w' : World) : Prop :=
  ∃ A n c, e = .returned (.slice A n c) ∧ Hid (Own evK 43 w' w.heap.size (fun k => w.heap.size ≤ k) (.slice A n c) l) ∧ Hid (Ext Non w w')
set_option maxRecDepth 100000 in
set_option maxHeartbeats 8000000 in
theorem Pass_calls {fp : FieldFn} {n : Nat} {f : Flt} {w : World} {ok ok2 : Nat → Prop} {x : Value} (hx : FV n w ok x f) (hok : okF (n + 1) f) (hn : noEq (n + 1) f ∨ FieldSpec fp) {B : Option Addr} {m d : Nat} {l : List Ev}
    (hr2 : Rd evK w ok2 (.slice B m d) l) (hsm : ∀ x ∈ l, x.now.size ≤ 1048576) (hl : l.length ≤ 1048576000) : Calls Try.prog 37 #[x, .slice B m d] w (PassPost (passF fp (n + 1) f l) w) := by
  obtain ⟨_, _, hs, _, hm⟩ := hr2.slice
  simp only [Value.slice.injEq] at hs
  obtain ⟨-, hml, -⟩ := hs
  have hx' := hx
  obtain ⟨v, rfl, hr⟩ := hx
  obtain ⟨A, len, cap, rfl, hlen⟩ := rd_abs hr
  have HX := Lib.hid hx'
  have HE2 := Lib.hid hr2.bound
  have HM := Lib.hid hml
  have HSM := Lib.hid hsm
  have hmx : (m : Int) ≤ 1048576000 := by omega
  clear hr hlen hx' hr2 hml hsm hl hm
  go_enter Try.func37, Try.ntmps37
  go_wp2_with fail
  refine (ready_calls (n := n) (f := f) (ok := ok) ?_ hok).mono ?_
  · refine HX.out.ext0 ?_
    repeat (first | exact Ext.refl _ _ | refine Ext.alloc ?_ _ | refine Ext.setNew ?_ (by simp) _)
  rintro e' w5 ⟨q, rfl, he, hq⟩
  have E5 : Hid (Ext Non w w5) := ((Ext.refl _ _).alloc _).trans0 he
  clear he
  rcases hq with ⟨h0, rfl⟩ | ⟨h0, hk⟩
  · have hfin : Hid (passF fp (n + 1) f l = []) := by
      show l.filter _ = []
      rw [List.filter_eq_nil_iff]
      intro e _
      unfold holdsP
      rw [if_neg h0]
      simp
    obtain ⟨z, hz⟩ : ∃ z, checkE (n + 1) f = z := ⟨_, rfl⟩
    rw [hz] at h0 ⊢
    clear hz
    go_wp2_with fail
    go_ret
    exact ⟨none, 0, 0, rfl, by show Own _ _ _ _ _ _ _; rw [hfin.out]; exact Own.nil _ _ _ _ _, E5.out⟩
  · obtain ⟨t, p, rfl, hq⟩ := nd_iface hk
    have HPF : Hid (∀ e, holdsP fp (n + 1) f e = holdsF fp (n + 1) f e) := fun e => if_pos h0
    have hmt := method_at hq p
    have hen := enters_at hq
    have HK := Lib.hid hk
    rw [h0]
    clear h0 hk
    go_wp2_with fail
    go_loopw [5, 20] (fun s i wr => ∃ (j : Nat) (A3 : Option Addr) (n3 c3 : Nat) (done : List Ev), i = .int .i64 (j : Int) ∧ s = .slice A3 n3 c3 ∧ j ≤ m ∧ done.length ≤ j ∧ Hid (done = (l.take j).filter fun e => holdsP fp (n + 1) f e) ∧ Hid (Own evK 43 wr w5.heap.size (fun k => w5.heap.size ≤ k) (.slice A3 n3 c3) done) ∧ Hid (Ext Non w5 wr) ∧ Hid (Ext Non w wr) ∧ Hid ((ndK (n + 1)).K wr (fun k => k < w5.heap.size) f [.iface t p])) (fun _ i _ => m - (intOf i).toNat)
    case atStart => exact ⟨0, none, 0, 0, [], rfl, rfl, by omega, by simp, rfl, Own.nil _ _ _ _ _, Ext.refl _ _, E5.out, (ndK (n + 1)).mono (fun k hk => hk.2) ((ndK (n + 1)).bound HK.out)⟩
    case round =>
      obtain ⟨j, A3, n3, c3, done, rfl, rfl, hj, hdl, HD, HO, H5, HE, HKW⟩ := hrel
      by_cases hlt : j < m
      · obtain ⟨e, he0⟩ : ∃ e, l[j]? = some e := ⟨_, List.getElem?_eq_getElem (by have := HM.out; omega)⟩
        obtain ⟨ge, off, rfl, hge, hgl, d0, d1, d2, d3, d4, d5⟩ := ev_at (HE2.out.ext0 HE.out) he0
        have hsme := HSM.out e (List.mem_of_getElem? he0)
        have HSE := Lib.hid hsme
        have htk : (l.take (j + 1)).filter (fun e => holdsP fp (n + 1) f e) = (l.take j).filter (fun e => holdsP fp (n + 1) f e) ++ (if holdsP fp (n + 1) f e = true then [e] else []) := by
          rw [List.take_add_one, he0, List.filter_append]
          cases hb : holdsP fp (n + 1) f e <;> simp [hb]
        have HT := Lib.hid htk
        have HBL := Lib.hid HO.out.base_le
        have hszw := H5.out.size
        have hsw5 := E5.out.size
        clear he0 hsme htk
        obtain ⟨b, hb⟩ : ∃ b, holdsF fp (n + 1) f e = b := ⟨_, rfl⟩
        have HB := Lib.hid hb
        have HBP : Hid (holdsP fp (n + 1) f e = b) := (HPF.out e).trans hb
        clear hb
        cases b with
        | false =>
          go_wp2_with fail
          refine (node_at fp n f _ _ t p e ((ndK (n + 1)).ext0 HKW.out ?_) hn HSE.out).mono ?_
          · repeat (first | exact Ext.refl _ _ | refine Ext.alloc ?_ _)
          rw [HB.out]
          rintro e' w6 ⟨rfl, he⟩
          have X6 : Ext Non wr w6 := ((Ext.refl _ _).alloc _).trans0 he
          have K6 : Hid ((ndK (n + 1)).K w6 (fun k => k < w5.heap.size) f [.iface t p]) := (ndK (n + 1)).mono (fun k hk => hk.1) ((ndK (n + 1)).ext0 HKW.out X6)
          have O6 := Lib.hid (HO.out.ext0 X6)
          have E6 := Lib.hid (HE.out.trans0 X6)
          have F6 := Lib.hid (H5.out.trans0 X6)
          have N6 := Lib.hid (he.obj (blk_new wr (.cells #[.int .i64 e.pos, .string e.key, .bool e.had, .string e.old, .bool e.has, .string e.now] 43)) (fun h => h))
          have hz6 := X6.size
          clear he X6
          go_wp2_with fail
          go_roundw
          case rel => exact ⟨j + 1, A3, n3, c3, done, by go_num, rfl, by omega, by omega, by show _ = _; rw [HT.out, HBP.out, HD.out]; simp, O6.out, F6.out, E6.out, K6.out⟩
          case measure => simp [intOf]; omega
        | true =>
          go_wp2_with fail
          refine (node_at fp n f _ _ t p e ((ndK (n + 1)).ext0 HKW.out ?_) hn HSE.out).mono ?_
          · repeat (first | exact Ext.refl _ _ | refine Ext.alloc ?_ _)
          rw [HB.out]
          rintro e' w6 ⟨rfl, he⟩
          have X6 : Ext Non wr w6 := ((Ext.refl _ _).alloc _).trans0 he
          have K6 : Hid ((ndK (n + 1)).K w6 (fun k => k < w5.heap.size) f [.iface t p]) := (ndK (n + 1)).mono (fun k hk => hk.1) ((ndK (n + 1)).ext0 HKW.out X6)
          have O6 := Lib.hid (HO.out.ext0 X6)
          have E6 := Lib.hid (HE.out.trans0 X6)
          have F6 := Lib.hid (H5.out.trans0 X6)
          have N6 := Lib.hid (he.obj (blk_new wr (.cells #[.int .i64 e.pos, .string e.key, .bool e.had, .string e.old, .bool e.has, .string e.now] 43)) (fun h => h))
          have hz6 := X6.size
          clear he X6
          have x0 : w6.cell? ⟨wr.heap.size, 0, none⟩ = some (.int .i64 e.pos) := blk_cell N6.out 0
          have x1 : w6.cell? ⟨wr.heap.size, 1, none⟩ = some (.string e.key) := blk_cell N6.out 1
          have x2 : w6.cell? ⟨wr.heap.size, 2, none⟩ = some (.bool e.had) := blk_cell N6.out 2
          have x3 : w6.cell? ⟨wr.heap.size, 3, none⟩ = some (.string e.old) := blk_cell N6.out 3
          have x4 : w6.cell? ⟨wr.heap.size, 4, none⟩ = some (.bool e.has) := blk_cell N6.out 4
          have x5 : w6.cell? ⟨wr.heap.size, 5, none⟩ = some (.string e.now) := blk_cell N6.out 5
          go_wp2_with (first
            | (at_builtin
               refine wpList_app evK (ok := fun k => w5.heap.size ≤ k) (v := .slice A3 n3 c3) (vx := .slice (some ⟨w6.heap.size, 0, none⟩) 1 1) (xs := done) (ys := [e]) w5.heap.size rfl _ _ 34 43 _ 72 rfl Try.underlying34 info43 rfl (by decide) (by simp [Act.eval]) (by simp [Act.eval]) (O6.out.ext0 ((Ext.refl _ _).alloc _)) (Rd.lit_at (cs := e.cells) (e := 43) (fr := (0, 0)) (heap_alloc_new w6 _) rfl ⟨by omega, fun h => by have := (HBL.out _ h.symm).2; omega⟩) (fun k hk => by simp at hk; omega) (by simp; omega) (by simp; omega) (by simp; omega) ?_
               intro v' w' hown hext hblk)
            | fail)
          obtain ⟨A4, n4, c4, rfl⟩ : ∃ A n c, v' = .slice A n c := by obtain ⟨A4, c4, h4, _, _⟩ := hown.slice; exact ⟨_, _, _, h4⟩
          have EA : Ext (fun k => some k = (Value.slice A3 n3 c3).ownBlock) w6 w' := Ext.trans ((Ext.refl _ _).alloc _) hext (fun _ _ e => e)
          have O7 := Lib.hid hown
          have E7 := Lib.hid (E6.out.trans EA (fun i hi h => by have := (HBL.out _ h.symm).1; omega))
          have F7 := Lib.hid (F6.out.trans EA (fun i hi h => by have := (HBL.out _ h.symm).1; omega))
          have K7 : Hid ((ndK (n + 1)).K w' (fun k => k < w5.heap.size) f [.iface t p]) := (ndK (n + 1)).move (fun k hk => EA.block k (by omega) (fun h => by have := (HBL.out _ h.symm).1; omega)) K6.out
          clear hown hext hblk EA
          go_roundw
          case rel => exact ⟨j + 1, A4, n4, c4, done ++ [e], by go_num, rfl, by omega, by simp; omega, by show _ = _; rw [HT.out, HBP.out, HD.out]; simp, O7.out, F7.out, E7.out, K7.out⟩
          case measure => simp [intOf]; omega
      · obtain rfl : j = m := by omega
        have hfin : Hid (done = passF fp (n + 1) f l) := by
          show _ = _
          rw [HD.out, List.take_of_length_le (by have := HM.out; omega)]
          rfl
        go_wp2_with fail
        go_ret
        refine ⟨_, _, _, rfl, ?_, HE.out⟩
        show Own _ _ _ _ _ _ _
        rw [← hfin.out]
        exact (HO.out.lower E5.out.size).mono (fun k hk => Nat.le_trans E5.out.size hk)
end Go.Proofs.Ytdjfijdnhfmeeaa

namespace Go.Proofs.Ytdjfijdnhfmeeaa
open Go.RowKit Go.TM
set_option maxRecDepth 100000 in
set_option maxHeartbeats 8000000 in
theorem EqualE_calls {w : World} {ok ok2 : Nat → Prop} {A B : Option Addr} {n m c d : Nat} {l : List Ev} (H : Rd evK w ok (.slice A n c) l) (K : Rd evK w ok2 (.slice B m d) l) : Calls Try.prog 19 #[.slice A n c, .slice B m d] w fun e w' => e = .returned (.bool true) ∧ Ext Non w w' := by
  obtain ⟨_, _, hs, _, hm⟩ := H.slice
  simp only [Value.slice.injEq] at hs
  obtain ⟨-, hn, -⟩ := hs
  obtain ⟨_, _, hs, _, -⟩ := K.slice
  simp only [Value.slice.injEq] at hs
  obtain ⟨-, hn2, -⟩ := hs
  obtain rfl : m = n := hn2.trans hn.symm
  have hmx : (m : Int) ≤ 9223372036854775807 := by omega
  have HH := Lib.hid H
  have HK := Lib.hid K
  have HN := Lib.hid hn
  clear H K hn hn2 hm
  go_enter Try.func19, Try.ntmps19
  go_wp2_with fail
  go_loopw [13] (fun i wr => ∃ j : Nat, i = .int .i64 (j : Int) ∧ j ≤ m ∧ Hid (Ext Non w wr)) (fun i _ => m - (intOf i).toNat)
  case atStart => exact ⟨0, rfl, by omega, Ext.refl _ _⟩
  case round =>
    obtain ⟨j, rfl, hj, HE⟩ := hrel
    by_cases hlt : j < m
    · obtain ⟨e, he0⟩ : ∃ e, l[j]? = some e := ⟨_, List.getElem?_eq_getElem (by have := HN.out; omega)⟩
      obtain ⟨ga, offa, rfl, hga, hgla, a0, a1, a2, a3, a4, a5⟩ := ev_at (HH.out.ext0 HE.out) he0
      obtain ⟨gb, offb, rfl, hgb, hglb, b0, b1, b2, b3, b4, b5⟩ := ev_at (HK.out.ext0 HE.out) he0
      clear he0
      go_wp2_with fail
      go_region
      go_wp2_with fail
      go_roundw
      case rel => exact ⟨j + 1, by go_num, by omega, by repeat (first | exact HE.out | refine Ext.drew ?_)⟩
      case measure => simp [intOf]; omega
    · obtain rfl : j = m := by omega
      go_wp2_with fail
      go_ret
      exact ⟨rfl, HE.out⟩
set_option maxRecDepth 100000 in
set_option maxHeartbeats 2000000 in
theorem CloneE_calls {w : World} {ok : Nat → Prop} {A : Option Addr} {n c : Nat} {l : List Ev} (H : Rd evK w ok (.slice A n c) l) (hl : l.length ≤ 1048576000) :
    Calls Try.prog 29 #[.slice A n c] w fun e w' => ∃ B m d, e = .returned (.slice B m d) ∧ Rd evK w' (fun _ => True) (.slice B m d) l ∧ Ext Non w w' := by
  have HH := Lib.hid H.bound
  have HL := Lib.hid hl
  have hq := Lib.run_eql_slice_nil (P := Try.prog) w 34 43 A n c 0 0 Try.underlying34
  cases A with
  | none =>
    have hl0 : l = [] := by
      obtain ⟨A', c', h1, h2, h3, h4⟩ := H
      by_cases h0 : 0 < l.length
      · obtain ⟨g, off, h5, -⟩ := h4 h0
        rw [h5] at h1
        cases h1
      · exact List.length_eq_zero_iff.1 (by omega)
    subst hl0
    clear H hl
    go_enter Try.func29, Try.ntmps29
    go_wp2_with fail
    go_ret
    exact ⟨none, 0, 0, rfl, Rd.nil _ _ _, Ext.refl _ _⟩
  | some a =>
    clear H hl
    go_enter Try.func29, Try.ntmps29
    go_wp2_with (first
      | (at_builtin
         refine wpList_app evK (ok := fun k => w.heap.size ≤ k ∨ ok k) (v := .slice (some ⟨w.heap.size, 0, none⟩) 0 0) (vx := .slice (some a) n c) (xs := []) (ys := l) w.heap.size rfl _ _ 34 43 _ 72 rfl Try.underlying34 info43 rfl (by decide) (by simp [Act.eval]) (by simp [Act.eval]) (Own.lit (xs := []) (inner := []) (Reps.nil _ _ _) (Nat.le_refl _) (by simp) (.inl (Nat.le_refl _))) ((HH.out.ext0 ((Ext.refl _ _).alloc _)).mono (fun k hk => ⟨.inr hk.1, fun h => by simp [Value.ownBlock] at h; have := hk.2; omega⟩)) (fun k hk => by simp at hk; exact .inl (by omega)) (by have := HL.out; simp; omega) (by have := HL.out; simp; omega) (by simp) ?_
         intro v' w' hown hext hblk)
      | fail)
    obtain ⟨A4, n4, c4, rfl⟩ : ∃ A n c, v' = .slice A n c := by obtain ⟨A4, c4, h4, _, _⟩ := hown.slice; exact ⟨_, _, _, h4⟩
    go_ret
    refine ⟨_, _, _, rfl, hown.rd.mono (fun _ _ => trivial), ((Ext.refl Non w).alloc (.cells #[] 43)).trans hext (fun i hi h => by simp [Value.ownBlock] at h; omega)⟩
end Go.Proofs.Ytdjfijdnhfmeeaa

namespace Go.Proofs.Ytdjfijdnhfmeeaa
open Go.RowKit Go.TM Go.ChangeShapes Go.WideShapes Go.ChangeAt Go.Deep
section
variable {H : Type} {enc : TypeId × Value → H} {w : World} {base b0 : Nat} {spare : Nat → Bool} {held : Bool} {r : Reach}
set_option maxRecDepth 100000 in
theorem trod_ev {fuel : Nat} {cs : List Value} {y : DataW H × List MemPlace} (h : DataW.trod enc Try.prog w base spare held fuel 43 cs = some y) : ∃ e : Ev, cs = e.cells ∧ e.ok := by
  obtain ⟨xs, n, rfl, rfl, hl, hlen, hf⟩ := DataW.trod_struct Try.underlying43 h
  have hC : Try.prog.cellsOf 43 = 6 := by kernel_rfl
  have hC0 : Try.prog.cellsOf 3 = 1 := by kernel_rfl
  have hC1 : Try.prog.cellsOf 9 = 1 := by kernel_rfl
  have hC2 : Try.prog.cellsOf 4 = 1 := by kernel_rfl
  rw [hC] at hl
  match xs, hlen with
  | [y0, y1, y2, y3, y4, y5], _ =>
    have h0 := hf 0 _ rfl
    have h1 := hf 1 _ rfl
    have h2 := hf 2 _ rfl
    have h3 := hf 3 _ rfl
    have h4 := hf 4 _ rfl
    have h5 := hf 5 _ rfl
    match cs, hl with
    | [c0, c1, c2, c3, c4, c5], _ =>
      simp [hC0, hC1, hC2] at h0 h1 h2 h3 h4 h5
      obtain ⟨a0, g0, _, _⟩ := DataW.trod_int Try.underlying3 h0
      obtain ⟨s1, g1, _, l1⟩ := DataW.trod_string Try.underlying9 h1
      obtain ⟨b2, g2, _⟩ := DataW.trod_bool Try.underlying4 h2
      obtain ⟨s3, g3, _, l3⟩ := DataW.trod_string Try.underlying9 h3
      obtain ⟨b4, g4, _⟩ := DataW.trod_bool Try.underlying4 h4
      obtain ⟨s5, g5, _, l5⟩ := DataW.trod_string Try.underlying9 h5
      simp at g0 g1 g2 g3 g4 g5
      subst g0 g1 g2 g3 g4 g5
      exact ⟨⟨a0, s1, b2, s3, b4, s5⟩, rfl, l1, l3, l5⟩
set_option maxRecDepth 100000 in
theorem open_ev {v : Value} {d : DataW H} {p : List MemPlace} (hv : Value.okWide Try.prog w r b0 43 v) (h : DataW.Trod enc Try.prog w base spare held 43 v d p) : ∃ e : Ev, v = evV e ∧ e.ok := by
  obtain ⟨fuel, hf⟩ := h
  obtain ⟨e, he, ho⟩ := trod_ev hf
  obtain ⟨cs, rfl, _⟩ := okWide_struct Try.underlying43 hv
  refine ⟨e, ?_, ho⟩
  have hu' : cs.toList = e.cells := he
  rw [evV_cells, ← hu']
set_option maxRecDepth 100000 in
theorem open_evs {v : Value} {d : DataW H} {p : List MemPlace} (hv : Value.okWide Try.prog w r b0 34 v) (h : DataW.Trod enc Try.prog w base spare held 34 v d p) :
    ∃ A c, ∃ l : List Ev, v = .slice A l.length c ∧ Rd evK w (fun k => k < w.heap.size) (.slice A l.length c) l ∧ ∀ x ∈ l, x.ok := by
  obtain ⟨A, len, cap, rfl⟩ := okWide_slice Try.underlying34 hv
  obtain ⟨fuel, hf⟩ := h
  obtain ⟨l, rfl, hr, hok⟩ := open_rd evK Ev.ok Try.underlying34 (by kernel_rfl) (by decide) (fun n cs y _ hy => let ⟨e, he, ho⟩ := trod_ev hy; ⟨e, he, ho⟩) hf
  exact ⟨A, cap, l, rfl, hr, hok⟩
end
end Go.Proofs.Ytdjfijdnhfmeeaa

