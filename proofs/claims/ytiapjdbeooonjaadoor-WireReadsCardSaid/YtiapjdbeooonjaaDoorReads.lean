/- WireReads: the walk of the law. -/
import Derived.Test.YtiapjdbeooonjaaDoorC7
import Derived.Test.YtiapjdbeooonjaaDoorC8
import Derived.Test.YtiapjdbeooonjaaDoorW2
import Derived.Test.YtiapjdbeooonjaaDoorNums
import Derived.Test.YtiapjdbeooonjaaDoorCut
namespace Go.Proofs.YtiapjdbeooonjaaDoor
open Go.RowKit Go.TM

section
variable {bs : List UInt8} {a : Nat} {err : Int}
theorem rWithin_le (ha : a ≤ bs.length) (lo hi : Int) : (rWithin bs a err lo hi).2.1 ≤ bs.length := by
  have := (rNum_le (bs := bs) (a := a) (err := err) ha).1
  unfold rWithin
  split
  · exact this
  · split
    · exact ha
    · exact this
theorem rFlag_le (ha : a ≤ bs.length) : (rFlag bs a err).2.1 ≤ bs.length := by
  have := (rNum_le (bs := bs) (a := a) (err := err) ha).1
  unfold rFlag
  split
  · exact this
  · split
    · exact ha
    · exact this
theorem rText_le (ha : a ≤ bs.length) (m : Int) : (rText bs a err m).2.1 ≤ bs.length := by
  have := (rNum_le (bs := bs) (a := a) (err := err) ha).1
  unfold rText
  split
  · exact ha
  · split
    · exact ha
    · split
      · exact ha
      · simp only []
        omega
theorem rSigned_le (ha : a ≤ bs.length) : (rSigned bs a err).2.1 ≤ bs.length := by
  unfold rSigned
  split
  · exact ha
  · split
    · exact ha
    · simp only []
      omega
end

/-- Two readers over the same bytes, at one place. -/
structure Two (w0 w : World) (b1 g x : Nat) (bs : List UInt8) (a : Nat) (err : Int) : Prop where
  lo : w0.heap.size ≤ b1
  mid : b1 ≤ g
  apart : g < x
  prog : RdrAt w (fun k => b1 ≤ k ∧ k < g) g bs a err
  doc : RrAt w (fun k => k < w0.heap.size) x bs a err
  ext : Ext Non w0 w
  le : a ≤ bs.length
section
variable {w0 w w' : World} {b1 g x : Nat} {bs : List UInt8} {a a' : Nat} {err err' : Int}
theorem Two.more (h : Two w0 w b1 g x bs a err) (he : Ext Non w w') : Two w0 w' b1 g x bs a err :=
  ⟨h.lo, h.mid, h.apart, h.prog.ext he, h.doc.ext he, h.ext.trans0 he, h.le⟩
theorem Two.step {w1 : World} (h : Two w0 w b1 g x bs a err) (hp : RdrAt w1 (fun k => b1 ≤ k ∧ k < g) g bs a' err') (h1 : Ext (Only g) w w1) (hd : RrAt w' (fun k => k < w0.heap.size) x bs a' err') (h2 : Ext (Only x) w1 w') (hle : a' ≤ bs.length) : Two w0 w' b1 g x bs a' err' := by
  have l := h.lo
  have m := h.mid
  have p := h.apart
  exact ⟨l, m, p, hp.only h2 (fun k => by omega) (by omega), hd, (h.ext.trans h1 (fun i hi e => by have e' : i = g := e; omega)).trans h2 (fun i hi e => by have e' : i = x := e; omega), hle⟩
theorem Two.docAt {w1 : World} (h : Two w0 w b1 g x bs a err) (h1 : Ext (Only g) w w1) : RrAt w1 (fun k => k < w0.heap.size) x bs a err := by
  have l := h.lo
  have m := h.mid
  have p := h.apart
  exact h.doc.only h1 (fun k => by omega) (by omega)
theorem Two.cellE (h : Two w0 w b1 g x bs a err) : w.cell? ⟨x, 2, none⟩ = some (.int .i64 err) := by
  obtain ⟨v, c0, c1, c2, _⟩ := h.doc.cells
  exact c2
theorem Two.lts (h : Two w0 w b1 g x bs a err) : g < w.heap.size ∧ x < w.heap.size := by
  obtain ⟨v, hb, _⟩ := h.prog
  obtain ⟨v', hb', _⟩ := h.doc
  exact ⟨blk_lt hb, blk_lt hb'⟩
theorem Two.noG (_h : Two w0 w b1 g x bs a err) : ¬ (b1 ≤ g ∧ g < g) := fun k => by omega
theorem Two.noX (h : Two w0 w b1 g x bs a err) : ¬ x < w0.heap.size := by
  have l := h.lo
  have m := h.mid
  have p := h.apart
  omega
theorem Two.poke (h : Two w0 w b1 g x bs a err) {gc : Nat} (hlo : w0.heap.size ≤ gc) (hlt : gc < b1) (i : Nat) (v : Value) : Two w0 (w.setCell ⟨gc, i, none⟩ v) b1 g x bs a err := by
  have l := h.lo
  have m := h.mid
  have p := h.apart
  have HE : Ext (Only gc) w (w.setCell ⟨gc, i, none⟩ v) := (Ext.refl (Only gc) w).setCell (p := ⟨gc, i, none⟩) (fun _ => rfl) _
  exact ⟨l, m, p, h.prog.only HE (fun k => by omega) (by omega), h.doc.only HE (fun k => by omega) (by omega), h.ext.trans HE (fun i hi e => by have e' : i = gc := e; omega), h.le⟩
end

set_option maxHeartbeats 4000000 in
set_option maxRecDepth 20000 in
theorem reads_calls {w : World} {ok ok2 : Nat → Prop} {A B : Option Addr} {c d : Nat} {bs : List UInt8} {l : List Ask} (H : Rd Kd.u8 w ok (.slice A bs.length c) bs) (HA : Rd askK w ok2 (.slice B l.length d) l) (HL : Laid w) :
    Calls Tryd.prog 13 #[.slice A bs.length c, .slice B l.length d] w fun e w' => e = .returned (.bool true) ∧ Ext Non w w' := by
  have HH := Lib.hid (H.bound.mono (ok' := fun k => k < w.heap.size) (fun _ h => h.2))
  have HAA := Lib.hid (HA.mono (ok' := fun _ => True) (fun _ _ => trivial))
  have HT := Lib.hid HL
  clear H HA HL
  by_cases h0 : 65536 < bs.length
  · have q : (65536 : Int) < (bs.length : Int) := by omega
    go_enter Tryd.func13, Tryd.ntmps13
    go_wp2_with fail
    refine (awake_calls HT.out).mono ?_
    rintro e w1 ⟨rfl, he⟩
    have HE := Lib.hid he
    clear he
    go_wp2_with fail
    go_ret
    exact ⟨rfl, HE.out⟩
  · by_cases h1 : 1000 < l.length
    · have q : ¬ (65536 : Int) < (bs.length : Int) := by omega
      have q1 : (1000 : Int) < (l.length : Int) := by omega
      go_enter Tryd.func13, Tryd.ntmps13
      go_wp2_with fail
      refine (awake_calls HT.out).mono ?_
      rintro e w1 ⟨rfl, he⟩
      have HE := Lib.hid he
      clear he
      go_wp2_with fail
      go_ret
      exact ⟨rfl, HE.out⟩
    · have q : ¬ (65536 : Int) < (bs.length : Int) := by omega
      have q1 : ¬ (1000 : Int) < (l.length : Int) := by omega
      have hbl : bs.length ≤ 65536 := by omega
      have hnl : l.length ≤ 1000 := by omega
      clear h0 h1
      go_enter Tryd.func13, Tryd.ntmps13
      go_wp2_with fail
      refine (Clone_calls (Rd.any HH.out) (by omega) (fun _ _ => trivial)).mono ?_
      rintro e w1 ⟨v1, rfl, ho, he⟩
      obtain ⟨A1, N1, c1, rfl, hn1⟩ := (Own.abs8 ho)
      have HG := Lib.hid ho.base_le
      have O1 := Lib.hid ho
      have E1 := Lib.hid he
      have hn1' : N1 ≤ 65536 := by omega
      have HN1 := Lib.hid hn1
      clear ho he hn1
      go_wp2_with fail
      refine (Read_calls O1.out.rd (by omega)).mono ?_
      rintro e w2 ⟨g, rfl, hg0, hg1, h1, h2⟩
      have R2 := Lib.hid h1
      have E2 := Lib.hid (E1.out.trans0 h2)
      have O2 := Lib.hid (O1.out.ext0 h2)
      have HG0 := Lib.hid hg0
      have HG1 := Lib.hid hg1
      clear h1 h2 hg0 hg1
      go_wp2_with fail
      have T0 : Hid (Two w (w2.alloc (.cells #[.slice A bs.length c, .int .i64 0, .int .i64 0] 68)) w1.heap.size g w2.heap.size bs 0 0) :=
        ⟨E1.out.size, HG0.out, HG1.out, R2.out.ext ((Ext.refl Non w2).alloc _), ⟨_, heap_alloc_new w2 _, HH.out.ext0 (E2.out.alloc _)⟩, E2.out.alloc _, Nat.zero_le _⟩
      have O3 := Lib.hid (O2.out.ext0 ((Ext.refl Non w2).alloc (.cells #[.slice A bs.length c, .int .i64 0, .int .i64 0] 68)))
      generalize w2.alloc (.cells #[.slice A bs.length c, .int .i64 0, .int .i64 0] 68) = w3 at T0 O3 ⊢
      have HB1 : Hid (w1.heap.size ≤ w1.heap.size) := Nat.le_refl _
      generalize hX : w2.heap.size = X at T0 ⊢
      generalize hB1 : w1.heap.size = b1 at T0 HG
      clear hX hB1 HB1
      go_loopw [30] (fun i wr => ∃ (j : Nat) (y : List UInt8), i = .int .i64 (j : Int) ∧ j ≤ N1 ∧ Hid (y.length = N1) ∧ Hid (Own Kd.u8 5 wr w.heap.size (fun _ => True) (.slice A1 N1 c1) y) ∧ Hid (Two w wr b1 g X bs 0 0)) (fun i _ => N1 - (intOf i).toNat)
      case atStart => exact ⟨0, _, rfl, by omega, HN1.out.symm, O3.out, T0.out⟩
      case round =>
        obtain ⟨j, y, rfl, hj, HLL, HO, HTW⟩ := hrel
        by_cases hlt : j < N1
        · obtain ⟨z, hz⟩ : ∃ z, y[j]? = some z := ⟨_, List.getElem?_eq_getElem (by have := HLL.out; omega)⟩
          obtain ⟨gc, rfl, hg0, hg1, d1, y1, O4⟩ := own_set8 HO.out hz (z ^^^ 255)
          have O4' := Lib.hid O4
          have hxr := xor255 z
          have hgg := HG.out gc (by simp [Value.ownBlock])
          have T4 : Hid (Two w (wr.setCell ⟨gc, j, none⟩ (.int .u8 ((z ^^^ 255).toNat : Int))) b1 g X bs 0 0) := HTW.out.poke hgg.1 hgg.2 _ _
          have q3 : (j : Int) < (N1 : Int) := by omega
          have q4 : (0 : Int) ≤ (j : Int) := by omega
          clear O4 hz hg0 hg1 hgg
          go_wp2_with fail
          go_roundw
          case rel => exact ⟨j + 1, y.set j (z ^^^ 255), by simp, by omega, by show _ = _; rw [List.length_set]; exact HLL.out, O4'.out, T4.out⟩
          case measure => simp [intOf]; omega
        · obtain rfl : j = N1 := by omega
          obtain ⟨w4, hw4⟩ : ∃ w4, w4 = wr := ⟨_, rfl⟩
          subst hw4
          clear HO HLL
          go_wp2_with fail
          go_loopw [42] (fun i wr => ∃ (j : Nat) (a : Nat) (err : Int), i = .int .i64 (j : Int) ∧ j ≤ l.length ∧ Hid (Two w wr b1 g X bs a err)) (fun i _ => l.length - (intOf i).toNat)
          case atStart => exact ⟨0, 0, 0, rfl, by omega, HTW.out⟩
          case round =>
            obtain ⟨j, a, err, rfl, hj, HTW⟩ := hrel
            by_cases hlt : j < l.length
            · obtain ⟨k, hk⟩ : ∃ k, l[j]? = some k := ⟨_, List.getElem?_eq_getElem hlt⟩
              obtain ⟨gl, ol, rfl, _, hgl, hc⟩ := (HAA.out.ext0 HTW.out.ext).flat_at hk
              have d0 := hc 0 _ rfl
              have d1 := hc 1 _ rfl
              have d2 := hc 2 _ rfl
              simp only [Nat.add_zero] at d0 d1 d2
              have q0 : (j : Int) < (l.length : Int) := by omega
              have q2 : (0 : Int) ≤ (j : Int) := by omega
              obtain ⟨r, qr, hr⟩ := modlen k.op (n := 5) (by omega)
              have qr' : (IntKind.u64.wrap k.op).tmod 5 = (r : Int) := qr
              have hr5 : r = 0 ∨ r = 1 ∨ r = 2 ∨ r = 3 ∨ r = 4 := by omega
              clear hc hk qr hr
              have T5 : Hid (Two w (wr.alloc (.cells #[.int .i64 k.op, .int .i64 k.lo, .int .i64 k.hi] 59)) b1 g X bs a err) := HTW.out.more ((Ext.refl Non wr).alloc _)
              have E1L : Hid ((wr.alloc (.cells #[.int .i64 k.op, .int .i64 k.lo, .int .i64 k.hi] 59)).cell? ⟨wr.heap.size, 1, none⟩ = some (.int .i64 k.lo)) := by
                have h := blk_cell (heap_alloc_new wr (.cells #[.int .i64 k.op, .int .i64 k.lo, .int .i64 k.hi] 59)) 1
                exact h
              have E2L : Hid ((wr.alloc (.cells #[.int .i64 k.op, .int .i64 k.lo, .int .i64 k.hi] 59)).cell? ⟨wr.heap.size, 2, none⟩ = some (.int .i64 k.hi)) := by
                have h := blk_cell (heap_alloc_new wr (.cells #[.int .i64 k.op, .int .i64 k.lo, .int .i64 k.hi] 59)) 2
                exact h
              have HNG : Hid (¬ wr.heap.size = g) := fun e => by have := HTW.out.lts; omega
              have HNX : Hid (¬ wr.heap.size = X) := fun e => by have := HTW.out.lts; omega
              rcases hr5 with rfl | rfl | rfl | rfl | rfl
              case' inl =>
                go_wp2_with fail
                refine (RNumber_calls T5.out.prog T5.out.noG T5.out.le).mono ?_
                rintro e w6 ⟨rfl, h1, h2⟩
                have H1 := Lib.hid h1
                have H2 := Lib.hid h2
                clear h1 h2
                go_wp2_with fail
                refine (RrNumber_calls (T5.out.docAt H2.out) T5.out.noX T5.out.le).mono ?_
                rintro e w7 ⟨rfl, h3, h4⟩
                have T7 : Hid (Two w w7 b1 g X bs (rNum bs a err).2.1 (rNum bs a err).2.2) := T5.out.step H1.out H2.out h3 h4 ((rNum_le (bs := bs) (a := a) (err := err) T5.out.le).1)
                generalize (rNum bs a err).2.2 = err' at T7
                generalize (rNum bs a err).2.1 = a' at T7
                generalize (rNum bs a err).1 = val at *
                clear h3 h4 H1 H2
                go_wp2_with fail
              case' inr.inl =>
                go_wp2_with fail
                have T5d := Lib.hid (T5.out.more (Ext.refl Non (wr.alloc (.cells #[.int .i64 k.op, .int .i64 k.lo, .int .i64 k.hi] 59))).drew)
                have s1 : (wr.alloc (.cells #[.int .i64 k.op, .int .i64 k.lo, .int .i64 k.hi] 59)).drew.cell? ⟨wr.heap.size, 1, none⟩ = some (.int .i64 k.lo) := E1L.out
                have s2 : (wr.alloc (.cells #[.int .i64 k.op, .int .i64 k.lo, .int .i64 k.hi] 59)).drew.cell? ⟨wr.heap.size, 2, none⟩ = some (.int .i64 k.hi) := E2L.out
                go_region_held3 (fun W => W.cell? ⟨wr.heap.size, 1, none⟩ = some (.int .i64 k.lo) ∧ W.cell? ⟨wr.heap.size, 2, none⟩ = some (.int .i64 k.hi)) (first | assumption | exact ⟨s1, s2⟩ | exact ⟨s3, s4⟩ | exact ⟨s5, s6⟩) (first
                  | (go_at_call 44
                     refine (RWithin_calls T5d.out.prog T5d.out.noG T5d.out.le k.lo k.hi).mono ?_
                     rintro e w6 ⟨rfl, h1, h2⟩
                     have H1 := Lib.hid h1
                     have H2 := Lib.hid h2
                     have s3 := h2.cell s1 HNG.out
                     have s4 := h2.cell s2 HNG.out
                     clear h1 h2)
                  | (go_at_call 46
                     refine (RrWithin_calls (T5d.out.docAt H2.out) T5d.out.noX T5d.out.le k.lo k.hi).mono ?_
                     rintro e w7 ⟨rfl, h3, h4⟩
                     have T7 : Hid (Two w w7 b1 g X bs (rWithin bs a err k.lo k.hi).2.1 (rWithin bs a err k.lo k.hi).2.2) := T5d.out.step H1.out H2.out h3 h4 (rWithin_le T5d.out.le k.lo k.hi)
                     have s5 := h4.cell s3 HNX.out
                     have s6 := h4.cell s4 HNX.out
                     clear h3 h4 H1 H2)
                  | fail)
                generalize (rWithin bs a err k.lo k.hi).2.2 = err' at T7
                generalize (rWithin bs a err k.lo k.hi).2.1 = a' at T7
                go_wp2_with fail
              case' inr.inr.inl =>
                go_wp2_with fail
                refine (RSigned_calls T5.out.prog T5.out.noG T5.out.le).mono ?_
                rintro e w6 ⟨rfl, h1, h2⟩
                have H1 := Lib.hid h1
                have H2 := Lib.hid h2
                clear h1 h2
                go_wp2_with fail
                refine (RrSigned_calls (T5.out.docAt H2.out) T5.out.noX T5.out.le).mono ?_
                rintro e w7 ⟨rfl, h3, h4⟩
                have T7 : Hid (Two w w7 b1 g X bs (rSigned bs a err).2.1 (rSigned bs a err).2.2) := T5.out.step H1.out H2.out h3 h4 (rSigned_le T5.out.le)
                generalize (rSigned bs a err).2.2 = err' at T7
                generalize (rSigned bs a err).2.1 = a' at T7
                generalize (rSigned bs a err).1 = val at *
                clear h3 h4 H1 H2
                go_wp2_with fail
              case' inr.inr.inr.inl =>
                go_wp2_with fail
                have T5d := Lib.hid (T5.out.more (Ext.refl Non (wr.alloc (.cells #[.int .i64 k.op, .int .i64 k.lo, .int .i64 k.hi] 59))).drew)
                have s1 : (wr.alloc (.cells #[.int .i64 k.op, .int .i64 k.lo, .int .i64 k.hi] 59)).drew.cell? ⟨wr.heap.size, 1, none⟩ = some (.int .i64 k.lo) := E1L.out
                have s2 : (wr.alloc (.cells #[.int .i64 k.op, .int .i64 k.lo, .int .i64 k.hi] 59)).drew.cell? ⟨wr.heap.size, 2, none⟩ = some (.int .i64 k.hi) := E2L.out
                go_region_held3 (fun W => W.cell? ⟨wr.heap.size, 1, none⟩ = some (.int .i64 k.lo) ∧ W.cell? ⟨wr.heap.size, 2, none⟩ = some (.int .i64 k.hi)) (first | assumption | exact ⟨s1, s2⟩ | exact ⟨s3, s4⟩ | exact ⟨s5, s6⟩) (first
                  | (go_at_call 40
                     refine (RText_calls T5d.out.prog T5d.out.noG T5d.out.le k.hi).mono ?_
                     rintro e w6 ⟨rfl, h1, h2⟩
                     have H1 := Lib.hid h1
                     have H2 := Lib.hid h2
                     have s3 := h2.cell s1 HNG.out
                     have s4 := h2.cell s2 HNG.out
                     clear h1 h2)
                  | (go_at_call 48
                     refine (RrText_calls (T5d.out.docAt H2.out) T5d.out.noX T5d.out.le k.hi).mono ?_
                     rintro e w7 ⟨rfl, h3, h4⟩
                     have T7 : Hid (Two w w7 b1 g X bs (rText bs a err k.hi).2.1 (rText bs a err k.hi).2.2) := T5d.out.step H1.out H2.out h3 h4 (rText_le T5d.out.le k.hi)
                     have s5 := h4.cell s3 HNX.out
                     have s6 := h4.cell s4 HNX.out
                     clear h3 h4 H1 H2)
                  | fail)
                generalize (rText bs a err k.hi).2.2 = err' at T7
                generalize (rText bs a err k.hi).2.1 = a' at T7
                go_wp2_with fail
              case' inr.inr.inr.inr =>
                go_wp2_with fail
                refine (RFlag_calls T5.out.prog T5.out.noG T5.out.le).mono ?_
                rintro e w6 ⟨rfl, h1, h2⟩
                have H1 := Lib.hid h1
                have H2 := Lib.hid h2
                clear h1 h2
                go_wp2_with fail
                refine (RrFlag_calls (T5.out.docAt H2.out) T5.out.noX T5.out.le).mono ?_
                rintro e w7 ⟨rfl, h3, h4⟩
                have T7 : Hid (Two w w7 b1 g X bs (rFlag bs a err).2.1 (rFlag bs a err).2.2) := T5.out.step H1.out H2.out h3 h4 (rFlag_le T5.out.le)
                generalize (rFlag bs a err).2.2 = err' at T7
                generalize (rFlag bs a err).2.1 = a' at T7
                generalize (rFlag bs a err).1 = val at *
                clear h3 h4 H1 H2
                go_wp2_with fail
              all_goals
                have T8 := Lib.hid (T7.out.more (Ext.refl Non w7).drew)
                have u0 := T8.out.cellE
                go_region_held3 (fun W => W.cell? ⟨X, 2, none⟩ = some (.int .i64 err')) (first | assumption) (first
                  | (go_at_call 25
                     refine (Left_calls T8.out.prog T8.out.le).mono ?_
                     rintro e w9 ⟨rfl, h⟩
                     have T9 := Lib.hid (T8.out.more h)
                     have u1 := T9.out.cellE
                     clear h)
                  | (go_at_call 50
                     refine (RrLeft_calls T9.out.doc T9.out.le).mono ?_
                     rintro e w10 ⟨rfl, h⟩
                     have T10 := Lib.hid (T9.out.more h)
                     have u2 := T10.out.cellE
                     clear h)
                  | (go_at_call 23
                     refine (Err_calls T10.out.prog).mono ?_
                     rintro e w11 ⟨rfl, rfl⟩)
                  | (go_at_call 43
                     refine (REnd_calls T10.out.prog T10.out.le).mono ?_
                     rintro e w12 ⟨rfl, h⟩
                     have T12 := Lib.hid (T10.out.more h)
                     have u3 := T12.out.cellE
                     clear h)
                  | (go_at_call 51
                     refine (RrEnd_calls T12.out.doc T12.out.le).mono ?_
                     rintro e w13 ⟨rfl, h⟩
                     have T13 := Lib.hid (T12.out.more h)
                     have u4 := T13.out.cellE
                     clear h)
                  | fail)
                go_wp2_with fail
                go_roundw
                case rel => exact ⟨j + 1, a', err', by simp, by omega, T13.out⟩
                case measure => simp [intOf]; omega
            · obtain rfl : j = l.length := by omega
              go_wp2_with fail
              refine (REnd_calls HTW.out.prog HTW.out.le).mono ?_
              rintro e w6 ⟨rfl, h1⟩
              have T6 := Lib.hid (HTW.out.more h1)
              clear h1
              go_wp2_with fail
              refine (RrEnd_calls T6.out.doc T6.out.le).mono ?_
              rintro e w7 ⟨rfl, h1⟩
              have T7 := Lib.hid (T6.out.more h1)
              clear h1
              go_wp2_with fail
              refine (awake_calls (HT.out.ext T7.out.ext)).mono ?_
              rintro e w8 ⟨rfl, he⟩
              have E8 : Hid (Ext Non w w8) := T7.out.ext.trans0 he
              clear he
              go_wp2_with fail
              go_ret
              exact ⟨rfl, E8.out⟩
end Go.Proofs.YtiapjdbeooonjaaDoor
