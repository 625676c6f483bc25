/- FeedExact: who reads, as much at a time as it likes, and acknowledges what it likes of what it has, gets just what passes its filter of all events behind its beginning, in order, as long as it is not let go: for all filters and lists within the law's bounds. -/
import Derived.Test.YtdjfijdnhfmeeaaS9
import Derived.Test.YtdjfijdnhfmeeaaL
namespace Go.Proofs.Ytdjfijdnhfmeeaa
open Go.RowKit Go.TM
set_option maxRecDepth 100000 in
set_option maxHeartbeats 64000000 in
theorem exact_calls {w : World} {n0 n2 : Nat} {x0 : Value} {q0 : Flt} {A1 A2 : Option Addr} {c1 c2 : Nat} {ms : List Int} {l : List Dc} (hx : FV n0 w (fun k => k < w.heap.size) x0 q0) (hq0 : okF (n0 + 1) q0)
    (hr2 : Rd (doK n2) w (fun k => k < w.heap.size) (.slice A2 l.length c2) l) (hv2 : ∀ k ∈ l, DcV n2 k) (hr1 : Rd Kd.i64 w (fun k => k < w.heap.size) (.slice A1 ms.length c1) ms) :
    Calls Try.prog 5 #[x0, .slice A2 l.length c2, .slice A1 ms.length c1] w fun e w' => e = .returned (.bool true) ∧ Ext Non w w' := by
  obtain ⟨n, hn⟩ : ∃ n, max n0 n2 = n := ⟨_, rfl⟩
  have hl1 : (ms.length : Int) ≤ 9223372036854775807 := by
    obtain ⟨_, _, _, _, h⟩ := hr1.slice
    omega
  have hl2 : (l.length : Int) ≤ 9223372036854775807 := by
    obtain ⟨_, _, _, _, h⟩ := hr2.slice
    omega
  obtain ⟨v0, rfl, hv0⟩ := hx.up (m := n) (by omega)
  obtain ⟨op, key, val, kids⟩ := q0
  obtain ⟨A0, m0, c0, rfl, -⟩ := rd_abs hv0
  show Calls Try.prog 5 #[.agg #[.int .i64 op, .string key, .string val, .slice A0 m0 c0], .slice A2 l.length c2, .slice A1 ms.length c1] w _
  have HV0 := Lib.hid hv0
  have HQ0 : Hid (okF (n + 1) (.mk op key val kids)) := okF_le (by omega) hq0
  have R1 := Lib.hid hr1
  have R2 : Hid (Rd (doK n) w (fun k => k < w.heap.size) (.slice A2 l.length c2) l) := dos_up (by omega) hr2
  have V2 : Hid (∀ k ∈ l, DcV n k) := fun k hk => (hv2 k hk).up (by omega)
  have AWW : Hid (∀ w4, Ext Non w w4 → (Calls Try.prog 13 #[] w4 fun e w' => e = .returned (.bool true) ∧ Ext Non w w')) := fun w4 h4 => (awake_calls w4).mono (fun _ _ h => ⟨h.1, h4.trans0 h.2⟩)
  obtain ⟨m1, hm1⟩ : ∃ m, ms.length = m := ⟨_, rfl⟩
  obtain ⟨m2, hm2⟩ : ∃ m, l.length = m := ⟨_, rfl⟩
  rw [hm1] at R1 hl1 ⊢
  rw [hm2] at R2 hl2 ⊢
  have HM1 := Lib.hid hm1
  have HM2 := Lib.hid hm2
  obtain ⟨z, hz⟩ : ∃ z, w.heap.size = z := ⟨_, rfl⟩
  obtain ⟨w1, hw1⟩ : ∃ w1, w.alloc (.cells #[.int .i64 op, .string key, .string val, .slice A0 m0 c0] 24) = w1 := ⟨_, rfl⟩
  have E1 : Hid (Ext Non w w1) := by rw [← hw1]; exact (Ext.refl _ _).alloc _
  have BZ1 : Hid (w1.heap[z]? = some (.cells #[.int .i64 op, .string key, .string val, .slice A0 m0 c0] 24 (0, 0))) := by rw [← hw1, ← hz]; exact blk_new w _
  have HSC : Hid (Calls Try.prog 11 #[.slice A2 m2 c2] w1 (ShortPost n l w1)) := short_calls (R2.out.ext0 E1.out) V2.out
  clear hx hv0 hq0 hr1 hr2 hv2 hm1 hm2 hn
  go_enter Try.func5, Try.ntmps5
  go_wp2_with fail
  (try rw [hz, hw1])
  refine HSC.out.mono ?_
  rintro e w2 ⟨b, rfl, he2, hsh⟩
  have E2 : Hid (Ext Non w w2) := E1.out.trans0 he2
  have BZ2 : Hid (w2.heap[z]? = some (.cells #[.int .i64 op, .string key, .string val, .slice A0 m0 c0] 24 (0, 0))) := he2.obj BZ1.out (fun e => e)
  have HSH := Lib.hid hsh
  have k0 := blk_cell BZ2.out 0
  have k1 := blk_cell BZ2.out 1
  have k2 := blk_cell BZ2.out 2
  have k3 := blk_cell BZ2.out 3
  have hzl := blk_lt BZ2.out
  clear he2 hsh
  cases b with
  | false =>
    go_wp2_with fail
    refine (AWW.out _ E2.out).mono ?_
    rintro e wz ⟨rfl, he⟩
    have EZ := Lib.hid he
    clear he
    go_wp2_with fail
    go_ret
    exact ⟨rfl, EZ.out⟩
  | true =>
    have HCO : Hid (∀ y ∈ l, CallOk n y) := fun y hy => callOk (V2.out y hy) ((HSH.out rfl).2 y hy).1 ((HSH.out rfl).2 y hy).2
    have hm120 : m2 ≤ 120 := by rw [← HM2.out]; exact (HSH.out rfl).1
    go_wp2_with fail
    refine (light_calls (n := n) (f := .mk op key val kids) ⟨_, rfl, HV0.out.ext0 E2.out⟩ HQ0.out).mono ?_
    rintro e w3 ⟨rfl, he3⟩
    have E3 : Hid (Ext Non w w3) := E2.out.trans0 he3
    have BZ3 : Hid (w3.heap[z]? = some (.cells #[.int .i64 op, .string key, .string val, .slice A0 m0 c0] 24 (0, 0))) := he3.obj BZ2.out (fun e => e)
    obtain ⟨lq, hlq⟩ : ∃ lq, lightF (n + 1) (.mk op key val kids) = lq := ⟨_, rfl⟩
    rw [hlq]
    have HLQ := Lib.hid hlq
    clear he3 hlq k0 k1 k2 k3
    cases lq with
    | false =>
      go_wp2_with fail
      refine (AWW.out _ E3.out).mono ?_
      rintro e wz ⟨rfl, he⟩
      have EZ := Lib.hid he
      clear he
      go_wp2_with fail
      go_ret
      exact ⟨rfl, EZ.out⟩
    | true =>
      have HKQ : Hid (okK (n + 1) (.mk op key val kids)) := light_okK HLQ.out
      rcases (show 500 < (m1 : Int) ∨ ¬ 500 < (m1 : Int) by omega) with h3 | h3
      · go_wp2_with fail
        refine (AWW.out _ E3.out).mono ?_
        rintro e wz ⟨rfl, he⟩
        have EZ := Lib.hid he
        clear he
        go_wp2_with fail
        go_ret
        exact ⟨rfl, EZ.out⟩
      · obtain ⟨g, hg⟩ : ∃ g, w3.heap.size = g := ⟨_, rfl⟩
        have hwg : w.heap.size ≤ g := by have := E3.out.size; omega
        have hzg : z < g := by have := blk_lt BZ3.out; omega
        go_wp2_with fail
        refine (New_calls (n := n) (ok := fun j => j ≠ g) (by rw [hg]; exact fun h => h rfl)).mono ?_
        rintro e w4 ⟨rfl, hf4, he4⟩
        rw [hg] at hf4 ⊢
        have F4 := Lib.hid hf4
        have X4 : Hid (Ext (fun k => g ≤ k) w3 w4) := he4.of0
        have hs4 : g < w4.heap.size := by
          obtain ⟨se, ss, hb⟩ := hf4.blk
          exact blk_lt hb
        have BZ4 : Hid (w4.heap[z]? = some (.cells #[.int .i64 op, .string key, .string val, .slice A0 m0 c0] 24 (0, 0))) := he4.obj BZ3.out (fun e => e)
        have E4 : Hid (Ext Non w w4) := E3.out.trans0 he4
        clear hf4 he4
        have k0 := blk_cell BZ4.out 0
        have k1 := blk_cell BZ4.out 1
        have k2 := blk_cell BZ4.out 2
        have k3 := blk_cell BZ4.out 3
        have hz4 := blk_lt BZ4.out
        go_wp2_with fail
        refine (Add_calls (n := n) (f := .mk op key val kids) F4.out (by decide) (by decide) (fun k hk => by show k ≠ g; omega) ⟨_, rfl, HV0.out.ext0 E4.out⟩ HQ0.out HKQ.out).mono ?_
        rintro e w5 ⟨rfl, hf5, he5⟩
        have F5 := Lib.hid hf5
        have X5 : Hid (Ext (fun k => g ≤ k) w3 w5) := X4.out.trans he5 (fun i hi h => by have h' : i = g := h; omega)
        have E5 : Hid (Ext Non w w5) := E3.out.trans X5.out (fun i hi h => by have h' : g ≤ i := h; have := E3.out.size; omega)
        have BZ5 : Hid (w5.heap[z]? = some (.cells #[.int .i64 op, .string key, .string val, .slice A0 m0 c0] 24 (0, 0))) := he5.obj BZ4.out (fun h => by have h' : z = g := h; omega)
        have hs5 : g < w5.heap.size := Nat.lt_of_lt_of_le hs4 he5.size
        clear hf5 he5 k0 k1 k2 k3
        by_cases hck : checkE (n + 1) (.mk op key val kids) = 0
        · have hid : (addR n newD (.mk op key val kids)).1 = (1, 0) := by
            unfold addR
            rw [if_neg (fun hh => hh hck)]
            rfl
          obtain ⟨hex0, hrd0⟩ := ex_start (n := n) hck
          have HEX0 := Lib.hid hex0
          have HRD0 := Lib.hid hrd0
          have G5 : Hid (Good n (addR n newD (.mk op key val kids)).2) := add_good (newD_good n) HQ0.out HKQ.out
          rw [hid]
          obtain ⟨D0, hD0⟩ : ∃ D0, (addR n newD (.mk op key val kids)).2 = D0 := ⟨_, rfl⟩
          rw [hD0] at HEX0 HRD0 G5 F5
          clear hid hex0 hrd0 hck hD0
          go_wp2_with fail
          go_loopw [10, 11, 12, 56] (fun s10 s11 s12 i wr => ∃ (j : Nat) (D : Fdr) (want got : List Ev) (a : Int) (A3 : Option Addr) (n3 c3 : Nat) (A4 : Option Addr) (n4 c4 : Nat), s10 = .slice A3 n3 c3 ∧ s11 = .slice A4 n4 c4 ∧ s12 = .int .i64 a ∧ i = .int .i64 (j : Int) ∧ j ≤ m2 ∧ Hid (Ext (fun k => g ≤ k) w3 wr) ∧ Hid (g < wr.heap.size) ∧ Hid (Fd n (okF3 g (.slice A3 n3 c3) (.slice A4 n4 c4)) wr g D) ∧ Hid (Good n D) ∧ Hid (Ex (.mk op key val kids) D want) ∧ Hid (WOrd want) ∧ Hid (Rdg n (.mk op key val kids) D want got a) ∧ Hid (want.length ≤ j * 32768 ∧ ∀ e ∈ want, e.now.size ≤ 32768) ∧ Hid (Own evK 43 wr g (okO g (.slice A4 n4 c4)) (.slice A3 n3 c3) got) ∧ Hid (Own evK 43 wr g (okO g (.slice A3 n3 c3)) (.slice A4 n4 c4) want)) (fun _ _ _ i _ => m2 - (intOf i).toNat)
          case atStart => exact ⟨0, D0, [], [], 0, none, 0, 0, none, 0, 0, rfl, rfl, rfl, rfl, by omega, X5.out, hs5, F5.out.re (fun j hj _ => ⟨hj, by simp [Value.ownBlock], by simp [Value.ownBlock]⟩) (fun h => h.1 rfl), G5.out, HEX0.out, List.Pairwise.nil, HRD0.out, ⟨Nat.le_refl _, fun e h => (by cases h)⟩, Own.nil _ _ _ _ _, Own.nil _ _ _ _ _⟩
          case round =>
            obtain ⟨j, D, want, got, a, A3, n3, c3, A4, n4, c4, rfl, rfl, rfl, rfl, hj, HE, HGB, HF, HG, HX, HW, HR, HL, OG, OW⟩ := hrel
            have hann : 0 ≤ a ∧ a ≤ 1099511627776 := HR.out.nn
            by_cases hlt : j < m2
            · obtain ⟨x, hx⟩ : ∃ x, l[j]? = some x := ⟨_, List.getElem?_eq_getElem (by have := HM2.out; omega)⟩
              obtain ⟨gx, offx, B, bl, bd, C, ck, cf, rfl, hgx, hgxl, a0, a1, a2, a3, a4, a5, a6, a7, a8, a9, hu, hq⟩ := do_at ((R2.out.ext0 E3.out).ext HE.out (fun k hk _ h => by have h' : g ≤ k := h; omega)) hx
              have HU := Lib.hid hu
              have HQ := Lib.hid hq
              have HCX := Lib.hid (HCO.out x (List.mem_of_getElem? hx))
              have hbl : bl = x.evs.length := by
                obtain ⟨_, _, hs, _, _⟩ := hu.slice
                simp only [Value.slice.injEq] at hs
                exact hs.2.1
              have HBL := Lib.hid hbl
              have hbx : (bl : Int) ≤ 32768 := by have := HCX.out.len; omega
              obtain ⟨p, hp⟩ : ∃ p, wr.heap.size = p := ⟨_, rfl⟩
              obtain ⟨w2, hw2⟩ : ∃ w2, wr.alloc (.cells #[.int .i64 x.op, .int .i64 x.step, .int .i64 x.id, .int .i64 x.pos, .int .i64 x.most, .slice B bl bd, .int .i64 x.q.op, .string x.q.key, .string x.q.val, .slice C ck cf] 36) = w2 := ⟨_, rfl⟩
              have EW2 : Hid (Ext Non wr w2) := by rw [← hw2]; exact (Ext.refl _ _).alloc _
              have BP1 : Hid (w2.heap[p]? = some (.cells #[.int .i64 x.op, .int .i64 x.step, .int .i64 x.id, .int .i64 x.pos, .int .i64 x.most, .slice B bl bd, .int .i64 x.q.op, .string x.q.key, .string x.q.val, .slice C ck cf] 36 (0, 0))) := by rw [← hw2, ← hp]; exact blk_new wr _
              have hgp : g < p := by have := HGB.out; omega
              obtain ⟨t0, t1, t2, t3, t4, t5, t6, t7, t8, t9⟩ := doS BP1.out
              have hpl := blk_lt BP1.out
              have hdef : bits BinOp.and IntKind.i64 x.op 7 = opc x := rfl
              have HFR : Hid (∀ w8, wr.heap.size ≤ w8.heap.size → Fresh (okF3 g (.slice A3 n3 c3) (.slice A4 n4 c4)) w8) := fun w8 h k hk => ⟨by omega, fun h' => by have := (OG.out.base_le k h'.symm).2; omega, fun h' => by have := (OW.out.base_le k h'.symm).2; omega⟩
              have HF2 := Lib.hid (HF.out.ext0 EW2.out)
              have HU2 := Lib.hid (HU.out.ext0 EW2.out)
              have HQ2 := Lib.hid (HQ.out.ext0 EW2.out)
              have hs2 := EW2.out.size
              have HN0 : Hid (D.next ≠ 0) := by have := HG.out.next; show _ ≠ _; omega
              clear hu hq hx hgx hbl
              by_cases b4 : opc x < 4
              · go_wp2_with fail
                refine (next_calls (k := x) HF2.out HG.out ⟨_, _, rfl, HU2.out, HQ2.out⟩).mono ?_
                rintro e w6 ⟨rfl, he6⟩
                have X6 := Lib.hid he6
                have BP6 := Lib.hid (he6.obj BP1.out (fun e => e))
                clear he6 t0 t1 t2 t3 t4 t5 t6 t7 t8 t9
                obtain ⟨t0, t1, t2, t3, t4, t5, t6, t7, t8, t9⟩ := doS BP6.out
                have hpl6 := blk_lt BP6.out
                have hs6 := X6.out.size
                obtain ⟨pos, hpos⟩ : ∃ pos, nextP D x = pos := ⟨_, rfl⟩
                rw [hpos]
                clear hpos
                go_wp2_with fail
                refine (Note_calls (HF2.out.ext0 X6.out) HN0.out (by have := HG.out.evs; omega) (by have := HG.out.subs; omega) (HFR.out _ (by omega)) (HU2.out.ext0 X6.out) (fun h => by have h' : g < w.heap.size := h; omega) (by have := HCX.out.len; omega) pos).mono ?_
                rintro e w7 ⟨rfl, hf7, he7⟩
                have F7 := Lib.hid hf7
                have Y7 : Hid (Ext (Only g) w2 w7) := X6.out.of0.trans he7 (fun _ _ h => h)
                have BP7 := Lib.hid (he7.obj BP6.out (fun h => by have h' : p = g := h; omega))
                have hs7 := Y7.out.size
                have hxn := ex_note HX.out (by have := HG.out.top; omega) pos x.evs
                have hwn := word_note HX.out HW.out pos x.evs
                have hrn := rdg_note HR.out HX.out pos x.evs
                have hgn : Good n (noteR D pos x.evs).2 := note_good HG.out HCX.out.now
                obtain ⟨ev, hev⟩ : ∃ ev, (noteR D pos x.evs).1 = ev := ⟨_, rfl⟩
                obtain ⟨DT, hDT⟩ : ∃ DT, (noteR D pos x.evs).2 = DT := ⟨_, rfl⟩
                rw [hev] at hxn hwn hrn ⊢
                rw [hDT] at hxn hrn hgn F7
                have HXN := Lib.hid hxn
                have HWN := Lib.hid hwn
                have HRN := Lib.hid hrn
                have GT := Lib.hid hgn
                have HU7 := Lib.hid (HU2.out.ext Y7.out (fun k hk _ h => by have h' : k = g := h; omega))
                have OG7 : Hid (Own evK 43 w7 g (okO g (.slice A4 n4 c4)) (.slice A3 n3 c3) got) := (OG.out.ext0 EW2.out).ext Y7.out (fun k hk _ h => hk.2 h)
                have OW7 : Hid (Own evK 43 w7 g (okO g (.slice A3 n3 c3)) (.slice A4 n4 c4) want) := (OW.out.ext0 EW2.out).ext Y7.out (fun k hk _ h => hk.2 h)
                have ET7 : Hid (Ext (fun k => g ≤ k) w3 w7) := (HE.out.trans0 EW2.out).trans Y7.out (fun i hi h => by have h' : i = g := h; omega)
                clear hf7 he7 hxn hwn hrn hgn hev hDT t0 t1 t2 t3 t4 t5 t6 t7 t8 t9
                obtain ⟨t0, t1, t2, t3, t4, t5, t6, t7, t8, t9⟩ := doS BP7.out
                have hpl7 := blk_lt BP7.out
                by_cases h0 : ev = 0
                · subst h0
                  have XT : Hid (Ex (.mk op key val kids) DT (want ++ x.evs.map (toPos pos))) := by have := HXN.out; rwa [if_pos rfl] at this
                  have WT0 : Hid (WOrd (want ++ x.evs.map (toPos pos))) := by have := HWN.out; rwa [if_pos rfl] at this
                  have RT : Hid (Rdg n (.mk op key val kids) DT (want ++ x.evs.map (toPos pos)) got a) := by have := HRN.out; rwa [if_pos rfl] at this
                  go_wp2_with fail
                  go_loopw [11, 79] (fun s11 i wr => ∃ (i2 : Nat) (A5 : Option Addr) (n5 c5 : Nat), s11 = .slice A5 n5 c5 ∧ i = .int .i64 (i2 : Int) ∧ i2 ≤ bl ∧ Hid (Ext (fun k => g < k) w7 wr) ∧ Hid (Fd n (okF3 g (.slice A3 n3 c3) (.slice A5 n5 c5)) wr g DT) ∧ Hid (Own evK 43 wr g (okO g (.slice A5 n5 c5)) (.slice A3 n3 c3) got) ∧ Hid (Own evK 43 wr g (okO g (.slice A3 n3 c3)) (.slice A5 n5 c5) (want ++ (x.evs.take i2).map (toPos pos)))) (fun _ i _ => bl - (intOf i).toNat)
                  case atStart => exact ⟨0, A4, n4, c4, rfl, rfl, by omega, Ext.refl _ _, F7.out, OG7.out, by show Own _ _ _ _ _ _ _; simpa using OW7.out⟩
                  case round =>
                    obtain ⟨i2, A5, n5, c5, rfl, rfl, hi2, HE5, HF5, OG5, OW5⟩ := hrel
                    by_cases hlt2 : i2 < bl
                    · obtain ⟨y, hy⟩ : ∃ y, x.evs[i2]? = some y := ⟨_, List.getElem?_eq_getElem (by have := HBL.out; omega)⟩
                      obtain ⟨gy, offy, rfl, hgy, hgyl, d0, d1, d2, d3, d4, d5⟩ := ev_at (HU7.out.ext HE5.out (fun k hk _ h => by have h' : g < k := h; omega)) hy
                      have HY := Lib.hid hy
                      obtain ⟨w8, hw8⟩ : ∃ w8, wr.alloc (.cells #[.int .i64 pos, .string y.key, .bool y.had, .string y.old, .bool y.has, .string y.now] 43) = w8 := ⟨_, rfl⟩
                      have E8 : Hid (Ext Non wr w8) := by rw [← hw8]; exact (Ext.refl _ _).alloc _
                      obtain ⟨r, hr⟩ : ∃ r, wr.heap.size = r := ⟨_, rfl⟩
                      have B8 : Hid (w8.heap[r]? = some (.cells #[.int .i64 pos, .string y.key, .bool y.had, .string y.old, .bool y.has, .string y.now] 43 (0, 0))) := by rw [← hw8, ← hr]; exact blk_new wr _
                      have e0 := blk_cell B8.out 0
                      have e1 := blk_cell B8.out 1
                      have e2 := blk_cell B8.out 2
                      have e3 := blk_cell B8.out 3
                      have e4 := blk_cell B8.out 4
                      have e5 := blk_cell B8.out 5
                      have hrl := blk_lt B8.out
                      have hs5' := HE5.out.size
                      have OW8 : Hid (Own evK 43 (w8.alloc (.cells (toPos pos y).cells.toArray 43)) g (okO g (.slice A3 n3 c3)) (.slice A5 n5 c5) (want ++ (x.evs.take i2).map (toPos pos))) := (OW5.out.ext0 E8.out).ext0 ((Ext.refl _ _).alloc _)
                      have OG8 : Hid (Own evK 43 (w8.alloc (.cells (toPos pos y).cells.toArray 43)) g (okO g (.slice A5 n5 c5)) (.slice A3 n3 c3) got) := (OG5.out.ext0 E8.out).ext0 ((Ext.refl _ _).alloc _)
                      have HF8 : Hid (Fd n (okF3 g (.slice A3 n3 c3) (.slice A5 n5 c5)) (w8.alloc (.cells (toPos pos y).cells.toArray 43)) g DT) := (HF5.out.ext0 E8.out).ext0 ((Ext.refl _ _).alloc _)
                      have hM3 : ∀ k, some k = (Value.slice A3 n3 c3).ownBlock → k < wr.heap.size := fun k h => (OG5.out.base_le k h.symm).2
                      have hM5 : ∀ k, some k = (Value.slice A5 n5 c5).ownBlock → g ≤ k ∧ k ≠ g ∧ k < wr.heap.size := fun k h => ⟨(OW5.out.base_le k h.symm).1, (OW5.out.1 k h.symm).2, (OW5.out.base_le k h.symm).2⟩
                      have hs8 := E8.out.size
                      have hgwr : g < wr.heap.size := by omega
                      have HLW : Hid ((want ++ (x.evs.take i2).map (toPos pos)).length ≤ 4000000) := by
                        have h1 := HL.out.1
                        have h2 := HCX.out.len
                        have h3 : j * 32768 ≤ 120 * 32768 := Nat.mul_le_mul_right _ (by omega)
                        show _ ≤ _
                        rw [List.length_append, List.length_map, List.length_take]
                        omega
                      clear hy hgy
                      go_wp2_with (first
                        | (at_builtin
                           refine wpList_app evK (ok := okO g (.slice A3 n3 c3)) (v := .slice A5 n5 c5) (vx := .slice (some ⟨w8.heap.size, 0, none⟩) 1 1) (xs := want ++ (x.evs.take i2).map (toPos pos)) (ys := [toPos pos y]) g rfl _ _ 34 43 _ 72 rfl Try.underlying34 info43 rfl (by decide) (by simp [Act.eval]) (by simp [Act.eval]) OW8.out (Rd.lit_at (cs := (toPos pos y).cells) (e := 43) (fr := (0, 0)) (blk_new w8 _) rfl ⟨⟨fun h => by have := hM3 _ h; omega, by omega⟩, fun h => by have := hM5 _ h; omega⟩) (fun k hk => ⟨fun h => by have := hM3 _ h; simp at hk; omega, by simp at hk; omega⟩) (by have := HLW.out; simp only [List.length_singleton]; omega) (by have := HLW.out; simp only [List.length_singleton]; omega) (by simp; omega) ?_
                           intro v' w' hown hext hblk)
                        | fail)
                      obtain ⟨A7, n7, c7, rfl⟩ : ∃ A n c, v' = .slice A n c := by obtain ⟨A6, c6, h6, _, _⟩ := hown.slice; exact ⟨_, _, _, h6⟩
                      obtain ⟨hf', hog'⟩ := keep3 HF8.out.swap3 OG8.out hext (own_ne OW8.out) hblk
                      have HF9 := Lib.hid hf'.swap3
                      have OG9 := Lib.hid hog'
                      have OW9 : Hid (Own evK 43 w' g (okO g (.slice A3 n3 c3)) (.slice A7 n7 c7) (want ++ (x.evs.take (i2 + 1)).map (toPos pos))) := by
                        show Own _ _ _ _ _ _ _
                        rw [List.take_succ_eq_append_getElem (by have := HBL.out; omega), (List.getElem?_eq_some_iff.1 HY.out).2, List.map_append, ← List.append_assoc]
                        exact hown
                      have HE9 : Hid (Ext (fun k => g < k) w7 w') := ((HE5.out.trans0 E8.out).trans0 ((Ext.refl _ _).alloc _)).trans hext (fun i hi h => by have := hM5 _ h; show g < i; omega)
                      clear hown hext hblk hf' hog'
                      go_roundw
                      case rel => exact ⟨i2 + 1, A7, n7, c7, rfl, by go_num, by omega, HE9.out, HF9.out, OG9.out, OW9.out⟩
                      case measure => simp [intOf]; omega
                    · obtain rfl : i2 = bl := by omega
                      have WT : Hid (Own evK 43 wr g (okO g (.slice A3 n3 c3)) (.slice A5 n5 c5) (want ++ x.evs.map (toPos pos))) := by
                        have := OW5.out
                        rwa [List.take_of_length_le (by rw [← HBL.out]; exact Nat.le_refl _)] at this
                      have ET : Hid (Ext (fun k => g ≤ k) w3 wr) := ET7.out.trans HE5.out (fun i hi h => by have h' : g < i := h; show g ≤ i; omega)
                      have LT : Hid ((want ++ x.evs.map (toPos pos)).length ≤ (j + 1) * 32768 ∧ ∀ e ∈ want ++ x.evs.map (toPos pos), e.now.size ≤ 32768) := by
                        refine ⟨?_, fun e he => ?_⟩
                        · have h1 := HL.out.1
                          have h2 := HCX.out.len
                          rw [List.length_append, List.length_map, Nat.succ_mul]
                          omega
                        · rcases List.mem_append.1 he with he | he
                          · exact HL.out.2 e he
                          · obtain ⟨y, hy, rfl⟩ := List.mem_map.1 he
                            exact HCX.out.now y hy
                      have hgt : g < wr.heap.size := by have := HE5.out.size; omega
                      obtain ⟨WN, hWN⟩ : ∃ WN, want ++ x.evs.map (toPos pos) = WN := ⟨_, rfl⟩
                      rw [hWN] at XT WT0 RT WT LT
                      have FT := Lib.hid HF5.out
                      have OGT := Lib.hid OG5.out
                      clear t0 t1 t2 t3 t4 t5 t6 t7 t8 t9 hWN
                      by_cases hmo : j < m1
                      · obtain ⟨mo, hmo'⟩ : ∃ mo, ms[j]? = some mo := ⟨_, List.getElem?_eq_getElem (by have := HM1.out; omega)⟩
                        obtain ⟨gm, offm, rfl, hgm, hgml, r0⟩ := int_at ((R1.out.ext0 E3.out).ext ET.out (fun k hk _ h => by have h' : g ≤ k := h; omega)) hmo'
                        clear hmo' hgm
                        rcases ex_read XT.out WT0.out RT.out (by have := GT.out.top; omega) mo with hr81 | ⟨o, t, hro, hat, htt, hrd, -, hol⟩
                        · have HRR := Lib.hid hr81
                          clear hr81
                          go_wp2_with fail
                          refine (Read_calls FT.out (by have := GT.out.next; omega) GT.out.now (by have := GT.out.evs; omega) (fun s hs => (GT.out.q s hs).1) 1 a mo).mono ?_
                          rintro e y1 ⟨Bx, mx, dx, rfl, hox, hex⟩
                          rw [HRR.out]
                          have EY : Hid (Ext Non w y1) := (E3.out.trans ET.out (fun i hi h => by have h' : g ≤ i := h; have := E3.out.size; omega)).trans0 hex
                          clear hox hex
                          go_wp2_with fail
                          refine (AWW.out _ EY.out).mono ?_
                          rintro e wz ⟨rfl, he⟩
                          have EZ := Lib.hid he
                          clear he
                          go_wp2_with fail
                          go_ret
                          exact ⟨rfl, EZ.out⟩
                        · have HRR := Lib.hid hro
                          have HRD := Lib.hid hrd
                          have HOL := Lib.hid hol
                          have HGWL := Lib.hid RT.out.len
                          have HWL : Hid (WN.length ≤ 4000000) := by have h1 := LT.out.1; have h3 : (j + 1) * 32768 ≤ 120 * 32768 := Nat.mul_le_mul_right _ (by omega); show _ ≤ _; omega
                          have hM3 : ∀ k, some k = (Value.slice A3 n3 c3).ownBlock → g ≤ k ∧ k < wr.heap.size := fun k h => (OGT.out.base_le k h.symm)
                          have hM4 : ∀ k, some k = (Value.slice A5 n5 c5).ownBlock → k < wr.heap.size := fun k h => (WT.out.base_le k h.symm).2
                          have hta : ¬ t < a := by omega
                          clear hro hrd hol
                          go_wp2_with fail
                          refine (Read_calls FT.out (by have := GT.out.next; omega) GT.out.now (by have := GT.out.evs; omega) (fun s hs => (GT.out.q s hs).1) 1 a mo).mono ?_
                          rintro e y1 ⟨Bx, mx, dx, rfl, hox, hex⟩
                          rw [HRR.out] at hox ⊢
                          have OX := Lib.hid hox
                          have EX1 := Lib.hid hex
                          have OG1 := Lib.hid (OGT.out.ext0 hex)
                          have OW1 := Lib.hid (WT.out.ext0 hex)
                          have HF1 := Lib.hid (FT.out.ext0 hex)
                          have hsy := hex.size
                          clear hox hex
                          go_wp2_with (first
                            | (at_builtin
                               refine wpList_app evK (ok := okO g (.slice A5 n5 c5)) (v := .slice A3 n3 c3) (vx := .slice Bx mx dx) (xs := got) (ys := o) g rfl _ _ 34 43 _ 72 rfl Try.underlying34 info43 rfl (by decide) (by simp [Act.eval]) (by simp [Act.eval]) OG1.out (OX.out.rd.mono (fun k hk => ⟨⟨fun h => by have := hM4 _ h; omega, by omega⟩, fun h => by have := hM3 _ h; omega⟩)) (fun k hk => ⟨fun h => by have := hM4 _ h; omega, by omega⟩) (by have := HWL.out; have := HGWL.out; have := HOL.out; omega) (by have := HWL.out; have := HGWL.out; have := HOL.out; omega) (by omega) ?_
                               intro v' w' hown hext hblk)
                            | fail)
                          obtain ⟨A8, n8, c8, rfl⟩ : ∃ A n c, v' = .slice A n c := by obtain ⟨A6, c6, h6, _, _⟩ := hown.slice; exact ⟨_, _, _, h6⟩
                          obtain ⟨hf', how'⟩ := keep3 HF1.out OW1.out hext (own_ne OG1.out) hblk
                          have HF9 := Lib.hid hf'
                          have OW9 := Lib.hid how'
                          have OG9 := Lib.hid hown
                          have HE9 : Hid (Ext (fun k => g ≤ k) w3 w') := (ET.out.trans0 EX1.out).trans hext (fun i hi h => by have := hM3 _ h; show g ≤ i; omega)
                          have hs9 := hext.size
                          clear hown hext hblk hf' how'
                          go_roundw
                          case rel => exact ⟨j + 1, DT, WN, got ++ o, t, A8, n8, c8, _, _, _, rfl, rfl, rfl, by go_num, by omega, HE9.out, by show g < _; omega, HF9.out, GT.out, XT.out, WT0.out, HRD.out, LT.out, OG9.out, OW9.out⟩
                          case measure => simp [intOf]; omega
                      · go_wp2_with fail
                        go_roundw
                        case rel => exact ⟨j + 1, DT, WN, got, a, A3, n3, c3, _, _, _, rfl, rfl, rfl, by go_num, by omega, ET.out, hgt, FT.out, GT.out, XT.out, WT0.out, RT.out, LT.out, OGT.out, WT.out⟩
                        case measure => simp [intOf]; omega
                · have hb0 : (ev == 0) = false := beq_eq_false_iff_ne.2 h0
                  have XT : Hid (Ex (.mk op key val kids) DT want) := by have := HXN.out; rwa [if_neg h0] at this
                  have WT0 : Hid (WOrd want) := HW.out
                  have RT : Hid (Rdg n (.mk op key val kids) DT want got a) := by have := HRN.out; rwa [if_neg h0] at this
                  have LT : Hid (want.length ≤ (j + 1) * 32768 ∧ ∀ e ∈ want, e.now.size ≤ 32768) := ⟨by have := HL.out.1; rw [Nat.succ_mul]; omega, HL.out.2⟩
                  have FT := Lib.hid F7.out
                  have OGT := Lib.hid OG7.out
                  have WT := Lib.hid OW7.out
                  have ET := Lib.hid ET7.out
                  have hgt : g < w7.heap.size := by omega
                  clear HXN HWN HRN
                  by_cases hmo : j < m1
                  · obtain ⟨mo, hmo'⟩ : ∃ mo, ms[j]? = some mo := ⟨_, List.getElem?_eq_getElem (by have := HM1.out; omega)⟩
                    obtain ⟨gm, offm, rfl, hgm, hgml, r0⟩ := int_at ((R1.out.ext0 E3.out).ext ET.out (fun k hk _ h => by have h' : g ≤ k := h; omega)) hmo'
                    clear hmo' hgm
                    rcases ex_read XT.out WT0.out RT.out (by have := GT.out.top; omega) mo with hr81 | ⟨o, t, hro, hat, htt, hrd, -, hol⟩
                    · have HRR := Lib.hid hr81
                      clear hr81
                      go_wp2_with fail
                      refine (Read_calls FT.out (by have := GT.out.next; omega) GT.out.now (by have := GT.out.evs; omega) (fun s hs => (GT.out.q s hs).1) 1 a mo).mono ?_
                      rintro e y1 ⟨Bx, mx, dx, rfl, hox, hex⟩
                      rw [HRR.out]
                      have EY : Hid (Ext Non w y1) := (E3.out.trans ET.out (fun i hi h => by have h' : g ≤ i := h; have := E3.out.size; omega)).trans0 hex
                      clear hox hex
                      go_wp2_with fail
                      refine (AWW.out _ EY.out).mono ?_
                      rintro e wz ⟨rfl, he⟩
                      have EZ := Lib.hid he
                      clear he
                      go_wp2_with fail
                      go_ret
                      exact ⟨rfl, EZ.out⟩
                    · have HRR := Lib.hid hro
                      have HRD := Lib.hid hrd
                      have HOL := Lib.hid hol
                      have HGWL := Lib.hid RT.out.len
                      have HWL : Hid (want.length ≤ 4000000) := by have h1 := LT.out.1; have h3 : (j + 1) * 32768 ≤ 120 * 32768 := Nat.mul_le_mul_right _ (by omega); show _ ≤ _; omega
                      have hM3 : ∀ k, some k = (Value.slice A3 n3 c3).ownBlock → g ≤ k ∧ k < w7.heap.size := fun k h => (OGT.out.base_le k h.symm)
                      have hM4 : ∀ k, some k = (Value.slice A4 n4 c4).ownBlock → k < w7.heap.size := fun k h => (WT.out.base_le k h.symm).2
                      have hta : ¬ t < a := by omega
                      clear hro hrd hol
                      go_wp2_with fail
                      refine (Read_calls FT.out (by have := GT.out.next; omega) GT.out.now (by have := GT.out.evs; omega) (fun s hs => (GT.out.q s hs).1) 1 a mo).mono ?_
                      rintro e y1 ⟨Bx, mx, dx, rfl, hox, hex⟩
                      rw [HRR.out] at hox ⊢
                      have OX := Lib.hid hox
                      have EX1 := Lib.hid hex
                      have OG1 := Lib.hid (OGT.out.ext0 hex)
                      have OW1 := Lib.hid (WT.out.ext0 hex)
                      have HF1 := Lib.hid (FT.out.ext0 hex)
                      have hsy := hex.size
                      clear hox hex
                      go_wp2_with (first
                        | (at_builtin
                           refine wpList_app evK (ok := okO g (.slice A4 n4 c4)) (v := .slice A3 n3 c3) (vx := .slice Bx mx dx) (xs := got) (ys := o) g rfl _ _ 34 43 _ 72 rfl Try.underlying34 info43 rfl (by decide) (by simp [Act.eval]) (by simp [Act.eval]) OG1.out (OX.out.rd.mono (fun k hk => ⟨⟨fun h => by have := hM4 _ h; omega, by omega⟩, fun h => by have := hM3 _ h; omega⟩)) (fun k hk => ⟨fun h => by have := hM4 _ h; omega, by omega⟩) (by have := HWL.out; have := HGWL.out; have := HOL.out; omega) (by have := HWL.out; have := HGWL.out; have := HOL.out; omega) (by omega) ?_
                           intro v' w' hown hext hblk)
                        | fail)
                      obtain ⟨A8, n8, c8, rfl⟩ : ∃ A n c, v' = .slice A n c := by obtain ⟨A6, c6, h6, _, _⟩ := hown.slice; exact ⟨_, _, _, h6⟩
                      obtain ⟨hf', how'⟩ := keep3 HF1.out OW1.out hext (own_ne OG1.out) hblk
                      have HF9 := Lib.hid hf'
                      have OW9 := Lib.hid how'
                      have OG9 := Lib.hid hown
                      have HE9 : Hid (Ext (fun k => g ≤ k) w3 w') := (ET.out.trans0 EX1.out).trans hext (fun i hi h => by have := hM3 _ h; show g ≤ i; omega)
                      have hs9 := hext.size
                      clear hown hext hblk hf' how'
                      go_roundw
                      case rel => exact ⟨j + 1, DT, want, got ++ o, t, A8, n8, c8, _, _, _, rfl, rfl, rfl, by go_num, by omega, HE9.out, by show g < _; omega, HF9.out, GT.out, XT.out, WT0.out, HRD.out, LT.out, OG9.out, OW9.out⟩
                      case measure => simp [intOf]; omega
                  · go_wp2_with fail
                    go_roundw
                    case rel => exact ⟨j + 1, DT, want, got, a, A3, n3, c3, _, _, _, rfl, rfl, rfl, by go_num, by omega, ET.out, hgt, FT.out, GT.out, XT.out, WT0.out, RT.out, LT.out, OGT.out, WT.out⟩
                    case measure => simp [intOf]; omega
              · by_cases b6 : opc x = 6
                · have hb6 : (opc x == 6) = true := by rw [b6]; rfl
                  have htm := tmod_le (x := x.pos) hann.1
                  have hwr1 : IntKind.i64.wrap (a + 1) = a + 1 := IntWalk.i64_in _ (by omega)
                  have hnz : ((a + 1) == 0) = false := beq_eq_false_iff_ne.2 (by omega)
                  rcases (show x.pos.tmod (a + 1) < 0 ∨ ¬ x.pos.tmod (a + 1) < 0 by omega) with c0' | c0'
                  · obtain ⟨DT, hDT⟩ : ∃ DT, (ackR D 1 0).2 = DT := ⟨_, rfl⟩
                    have hxa := ex_ack HX.out (0)
                    have hra := rdg_ack (pos := 0) HR.out HX.out (by omega)
                    have hga : Good n (ackR D 1 (0)).2 := ack_good HG.out
                    rw [hDT] at hxa hra hga
                    have XT := Lib.hid hxa
                    have RT := Lib.hid hra
                    have GT := Lib.hid hga
                    have HDT := Lib.hid hDT
                    have WT0 := Lib.hid HW.out
                    have LT : Hid (want.length ≤ (j + 1) * 32768 ∧ ∀ e ∈ want, e.now.size ≤ 32768) := ⟨by have := HL.out.1; rw [Nat.succ_mul]; omega, HL.out.2⟩
                    clear hxa hra hga hDT
                    go_wp2_with fail
                    refine (Ack_calls HF2.out HN0.out (by have := HG.out.evs; omega) (by have := HG.out.subs; omega) (HFR.out _ hs2) 1 0).mono ?_
                    rintro e w7 ⟨rfl, hf7, he7⟩
                    rw [HDT.out] at hf7
                    have FT : Hid (Fd n (okF3 g (.slice A3 n3 c3) (.slice A4 n4 c4)) w7 g DT) := hf7
                    have OGT : Hid (Own evK 43 w7 g (okO g (.slice A4 n4 c4)) (.slice A3 n3 c3) got) := (OG.out.ext0 EW2.out).ext he7 (fun k hk _ h => hk.2 h)
                    have WT : Hid (Own evK 43 w7 g (okO g (.slice A3 n3 c3)) (.slice A4 n4 c4) want) := (OW.out.ext0 EW2.out).ext he7 (fun k hk _ h => hk.2 h)
                    have ET : Hid (Ext (fun k => g ≤ k) w3 w7) := (HE.out.trans0 EW2.out).trans he7 (fun i hi h => by have h' : i = g := h; omega)
                    have hgt : g < w7.heap.size := by have := he7.size; omega
                    clear hf7 he7
                    by_cases hmo : j < m1
                    · obtain ⟨mo, hmo'⟩ : ∃ mo, ms[j]? = some mo := ⟨_, List.getElem?_eq_getElem (by have := HM1.out; omega)⟩
                      obtain ⟨gm, offm, rfl, hgm, hgml, r0⟩ := int_at ((R1.out.ext0 E3.out).ext ET.out (fun k hk _ h => by have h' : g ≤ k := h; omega)) hmo'
                      clear hmo' hgm
                      rcases ex_read XT.out WT0.out RT.out (by have := GT.out.top; omega) mo with hr81 | ⟨o, t, hro, hat, htt, hrd, -, hol⟩
                      · have HRR := Lib.hid hr81
                        clear hr81
                        go_wp2_with fail
                        refine (Read_calls FT.out (by have := GT.out.next; omega) GT.out.now (by have := GT.out.evs; omega) (fun s hs => (GT.out.q s hs).1) 1 a mo).mono ?_
                        rintro e y1 ⟨Bx, mx, dx, rfl, hox, hex⟩
                        rw [HRR.out]
                        have EY : Hid (Ext Non w y1) := (E3.out.trans ET.out (fun i hi h => by have h' : g ≤ i := h; have := E3.out.size; omega)).trans0 hex
                        clear hox hex
                        go_wp2_with fail
                        refine (AWW.out _ EY.out).mono ?_
                        rintro e wz ⟨rfl, he⟩
                        have EZ := Lib.hid he
                        clear he
                        go_wp2_with fail
                        go_ret
                        exact ⟨rfl, EZ.out⟩
                      · have HRR := Lib.hid hro
                        have HRD := Lib.hid hrd
                        have HOL := Lib.hid hol
                        have HGWL := Lib.hid RT.out.len
                        have HWL : Hid (want.length ≤ 4000000) := by have h1 := LT.out.1; have h3 : (j + 1) * 32768 ≤ 120 * 32768 := Nat.mul_le_mul_right _ (by omega); show _ ≤ _; omega
                        have hM3 : ∀ k, some k = (Value.slice A3 n3 c3).ownBlock → g ≤ k ∧ k < w7.heap.size := fun k h => (OGT.out.base_le k h.symm)
                        have hM4 : ∀ k, some k = (Value.slice A4 n4 c4).ownBlock → k < w7.heap.size := fun k h => (WT.out.base_le k h.symm).2
                        have hta : ¬ t < a := by omega
                        clear hro hrd hol
                        go_wp2_with fail
                        refine (Read_calls FT.out (by have := GT.out.next; omega) GT.out.now (by have := GT.out.evs; omega) (fun s hs => (GT.out.q s hs).1) 1 a mo).mono ?_
                        rintro e y1 ⟨Bx, mx, dx, rfl, hox, hex⟩
                        rw [HRR.out] at hox ⊢
                        have OX := Lib.hid hox
                        have EX1 := Lib.hid hex
                        have OG1 := Lib.hid (OGT.out.ext0 hex)
                        have OW1 := Lib.hid (WT.out.ext0 hex)
                        have HF1 := Lib.hid (FT.out.ext0 hex)
                        have hsy := hex.size
                        clear hox hex
                        go_wp2_with (first
                          | (at_builtin
                             refine wpList_app evK (ok := okO g (.slice A4 n4 c4)) (v := .slice A3 n3 c3) (vx := .slice Bx mx dx) (xs := got) (ys := o) g rfl _ _ 34 43 _ 72 rfl Try.underlying34 info43 rfl (by decide) (by simp [Act.eval]) (by simp [Act.eval]) OG1.out (OX.out.rd.mono (fun k hk => ⟨⟨fun h => by have := hM4 _ h; omega, by omega⟩, fun h => by have := hM3 _ h; omega⟩)) (fun k hk => ⟨fun h => by have := hM4 _ h; omega, by omega⟩) (by have := HWL.out; have := HGWL.out; have := HOL.out; omega) (by have := HWL.out; have := HGWL.out; have := HOL.out; omega) (by omega) ?_
                             intro v' w' hown hext hblk)
                          | fail)
                        obtain ⟨A8, n8, c8, rfl⟩ : ∃ A n c, v' = .slice A n c := by obtain ⟨A6, c6, h6, _, _⟩ := hown.slice; exact ⟨_, _, _, h6⟩
                        obtain ⟨hf', how'⟩ := keep3 HF1.out OW1.out hext (own_ne OG1.out) hblk
                        have HF9 := Lib.hid hf'
                        have OW9 := Lib.hid how'
                        have OG9 := Lib.hid hown
                        have HE9 : Hid (Ext (fun k => g ≤ k) w3 w') := (ET.out.trans0 EX1.out).trans hext (fun i hi h => by have := hM3 _ h; show g ≤ i; omega)
                        have hs9 := hext.size
                        clear hown hext hblk hf' how'
                        go_roundw
                        case rel => exact ⟨j + 1, DT, want, got ++ o, t, A8, n8, c8, _, _, _, rfl, rfl, rfl, by go_num, by omega, HE9.out, by show g < _; omega, HF9.out, GT.out, XT.out, WT0.out, HRD.out, LT.out, OG9.out, OW9.out⟩
                        case measure => simp [intOf]; omega
                    · go_wp2_with fail
                      go_roundw
                      case rel => exact ⟨j + 1, DT, want, got, a, A3, n3, c3, _, _, _, rfl, rfl, rfl, by go_num, by omega, ET.out, hgt, FT.out, GT.out, XT.out, WT0.out, RT.out, LT.out, OGT.out, WT.out⟩
                      case measure => simp [intOf]; omega
                  · obtain ⟨DT, hDT⟩ : ∃ DT, (ackR D 1 (x.pos.tmod (a + 1))).2 = DT := ⟨_, rfl⟩
                    have hxa := ex_ack HX.out ((x.pos.tmod (a + 1)))
                    have hra := rdg_ack (pos := (x.pos.tmod (a + 1))) HR.out HX.out (by omega)
                    have hga : Good n (ackR D 1 ((x.pos.tmod (a + 1)))).2 := ack_good HG.out
                    rw [hDT] at hxa hra hga
                    have XT := Lib.hid hxa
                    have RT := Lib.hid hra
                    have GT := Lib.hid hga
                    have HDT := Lib.hid hDT
                    have WT0 := Lib.hid HW.out
                    have LT : Hid (want.length ≤ (j + 1) * 32768 ∧ ∀ e ∈ want, e.now.size ≤ 32768) := ⟨by have := HL.out.1; rw [Nat.succ_mul]; omega, HL.out.2⟩
                    clear hxa hra hga hDT
                    go_wp2_with fail
                    refine (Ack_calls HF2.out HN0.out (by have := HG.out.evs; omega) (by have := HG.out.subs; omega) (HFR.out _ hs2) 1 (x.pos.tmod (a + 1))).mono ?_
                    rintro e w7 ⟨rfl, hf7, he7⟩
                    rw [HDT.out] at hf7
                    have FT : Hid (Fd n (okF3 g (.slice A3 n3 c3) (.slice A4 n4 c4)) w7 g DT) := hf7
                    have OGT : Hid (Own evK 43 w7 g (okO g (.slice A4 n4 c4)) (.slice A3 n3 c3) got) := (OG.out.ext0 EW2.out).ext he7 (fun k hk _ h => hk.2 h)
                    have WT : Hid (Own evK 43 w7 g (okO g (.slice A3 n3 c3)) (.slice A4 n4 c4) want) := (OW.out.ext0 EW2.out).ext he7 (fun k hk _ h => hk.2 h)
                    have ET : Hid (Ext (fun k => g ≤ k) w3 w7) := (HE.out.trans0 EW2.out).trans he7 (fun i hi h => by have h' : i = g := h; omega)
                    have hgt : g < w7.heap.size := by have := he7.size; omega
                    clear hf7 he7
                    by_cases hmo : j < m1
                    · obtain ⟨mo, hmo'⟩ : ∃ mo, ms[j]? = some mo := ⟨_, List.getElem?_eq_getElem (by have := HM1.out; omega)⟩
                      obtain ⟨gm, offm, rfl, hgm, hgml, r0⟩ := int_at ((R1.out.ext0 E3.out).ext ET.out (fun k hk _ h => by have h' : g ≤ k := h; omega)) hmo'
                      clear hmo' hgm
                      rcases ex_read XT.out WT0.out RT.out (by have := GT.out.top; omega) mo with hr81 | ⟨o, t, hro, hat, htt, hrd, -, hol⟩
                      · have HRR := Lib.hid hr81
                        clear hr81
                        go_wp2_with fail
                        refine (Read_calls FT.out (by have := GT.out.next; omega) GT.out.now (by have := GT.out.evs; omega) (fun s hs => (GT.out.q s hs).1) 1 a mo).mono ?_
                        rintro e y1 ⟨Bx, mx, dx, rfl, hox, hex⟩
                        rw [HRR.out]
                        have EY : Hid (Ext Non w y1) := (E3.out.trans ET.out (fun i hi h => by have h' : g ≤ i := h; have := E3.out.size; omega)).trans0 hex
                        clear hox hex
                        go_wp2_with fail
                        refine (AWW.out _ EY.out).mono ?_
                        rintro e wz ⟨rfl, he⟩
                        have EZ := Lib.hid he
                        clear he
                        go_wp2_with fail
                        go_ret
                        exact ⟨rfl, EZ.out⟩
                      · have HRR := Lib.hid hro
                        have HRD := Lib.hid hrd
                        have HOL := Lib.hid hol
                        have HGWL := Lib.hid RT.out.len
                        have HWL : Hid (want.length ≤ 4000000) := by have h1 := LT.out.1; have h3 : (j + 1) * 32768 ≤ 120 * 32768 := Nat.mul_le_mul_right _ (by omega); show _ ≤ _; omega
                        have hM3 : ∀ k, some k = (Value.slice A3 n3 c3).ownBlock → g ≤ k ∧ k < w7.heap.size := fun k h => (OGT.out.base_le k h.symm)
                        have hM4 : ∀ k, some k = (Value.slice A4 n4 c4).ownBlock → k < w7.heap.size := fun k h => (WT.out.base_le k h.symm).2
                        have hta : ¬ t < a := by omega
                        clear hro hrd hol
                        go_wp2_with fail
                        refine (Read_calls FT.out (by have := GT.out.next; omega) GT.out.now (by have := GT.out.evs; omega) (fun s hs => (GT.out.q s hs).1) 1 a mo).mono ?_
                        rintro e y1 ⟨Bx, mx, dx, rfl, hox, hex⟩
                        rw [HRR.out] at hox ⊢
                        have OX := Lib.hid hox
                        have EX1 := Lib.hid hex
                        have OG1 := Lib.hid (OGT.out.ext0 hex)
                        have OW1 := Lib.hid (WT.out.ext0 hex)
                        have HF1 := Lib.hid (FT.out.ext0 hex)
                        have hsy := hex.size
                        clear hox hex
                        go_wp2_with (first
                          | (at_builtin
                             refine wpList_app evK (ok := okO g (.slice A4 n4 c4)) (v := .slice A3 n3 c3) (vx := .slice Bx mx dx) (xs := got) (ys := o) g rfl _ _ 34 43 _ 72 rfl Try.underlying34 info43 rfl (by decide) (by simp [Act.eval]) (by simp [Act.eval]) OG1.out (OX.out.rd.mono (fun k hk => ⟨⟨fun h => by have := hM4 _ h; omega, by omega⟩, fun h => by have := hM3 _ h; omega⟩)) (fun k hk => ⟨fun h => by have := hM4 _ h; omega, by omega⟩) (by have := HWL.out; have := HGWL.out; have := HOL.out; omega) (by have := HWL.out; have := HGWL.out; have := HOL.out; omega) (by omega) ?_
                             intro v' w' hown hext hblk)
                          | fail)
                        obtain ⟨A8, n8, c8, rfl⟩ : ∃ A n c, v' = .slice A n c := by obtain ⟨A6, c6, h6, _, _⟩ := hown.slice; exact ⟨_, _, _, h6⟩
                        obtain ⟨hf', how'⟩ := keep3 HF1.out OW1.out hext (own_ne OG1.out) hblk
                        have HF9 := Lib.hid hf'
                        have OW9 := Lib.hid how'
                        have OG9 := Lib.hid hown
                        have HE9 : Hid (Ext (fun k => g ≤ k) w3 w') := (ET.out.trans0 EX1.out).trans hext (fun i hi h => by have := hM3 _ h; show g ≤ i; omega)
                        have hs9 := hext.size
                        clear hown hext hblk hf' how'
                        go_roundw
                        case rel => exact ⟨j + 1, DT, want, got ++ o, t, A8, n8, c8, _, _, _, rfl, rfl, rfl, by go_num, by omega, HE9.out, by show g < _; omega, HF9.out, GT.out, XT.out, WT0.out, HRD.out, LT.out, OG9.out, OW9.out⟩
                        case measure => simp [intOf]; omega
                    · go_wp2_with fail
                      go_roundw
                      case rel => exact ⟨j + 1, DT, want, got, a, A3, n3, c3, _, _, _, rfl, rfl, rfl, by go_num, by omega, ET.out, hgt, FT.out, GT.out, XT.out, WT0.out, RT.out, LT.out, OGT.out, WT.out⟩
                      case measure => simp [intOf]; omega
                · have hb6 : (opc x == 6) = false := beq_eq_false_iff_ne.2 b6
                  by_cases b5 : opc x = 5 ∧ x.id = 1
                  · obtain ⟨b5, b1⟩ := b5
                    have hb5 : (opc x != 5) = false := by rw [b5]; rfl
                    have hb1 : (x.id != 1) = false := by rw [b1]; rfl
                    have XT := Lib.hid HX.out
                    have WT0 := Lib.hid HW.out
                    have RT := Lib.hid HR.out
                    have GT := Lib.hid HG.out
                    have LT : Hid (want.length ≤ (j + 1) * 32768 ∧ ∀ e ∈ want, e.now.size ≤ 32768) := ⟨by have := HL.out.1; rw [Nat.succ_mul]; omega, HL.out.2⟩
                    have FT := Lib.hid HF2.out
                    have OGT := Lib.hid (OG.out.ext0 EW2.out)
                    have WT := Lib.hid (OW.out.ext0 EW2.out)
                    have ET : Hid (Ext (fun k => g ≤ k) w3 w2) := HE.out.trans0 EW2.out
                    have hgt : g < w2.heap.size := by omega
                    clear b5 b1
                    by_cases hmo : j < m1
                    · obtain ⟨mo, hmo'⟩ : ∃ mo, ms[j]? = some mo := ⟨_, List.getElem?_eq_getElem (by have := HM1.out; omega)⟩
                      obtain ⟨gm, offm, rfl, hgm, hgml, r0⟩ := int_at ((R1.out.ext0 E3.out).ext ET.out (fun k hk _ h => by have h' : g ≤ k := h; omega)) hmo'
                      clear hmo' hgm
                      rcases ex_read XT.out WT0.out RT.out (by have := GT.out.top; omega) mo with hr81 | ⟨o, t, hro, hat, htt, hrd, -, hol⟩
                      · have HRR := Lib.hid hr81
                        clear hr81
                        go_wp2_with fail
                        refine (Read_calls FT.out (by have := GT.out.next; omega) GT.out.now (by have := GT.out.evs; omega) (fun s hs => (GT.out.q s hs).1) 1 a mo).mono ?_
                        rintro e y1 ⟨Bx, mx, dx, rfl, hox, hex⟩
                        rw [HRR.out]
                        have EY : Hid (Ext Non w y1) := (E3.out.trans ET.out (fun i hi h => by have h' : g ≤ i := h; have := E3.out.size; omega)).trans0 hex
                        clear hox hex
                        go_wp2_with fail
                        refine (AWW.out _ EY.out).mono ?_
                        rintro e wz ⟨rfl, he⟩
                        have EZ := Lib.hid he
                        clear he
                        go_wp2_with fail
                        go_ret
                        exact ⟨rfl, EZ.out⟩
                      · have HRR := Lib.hid hro
                        have HRD := Lib.hid hrd
                        have HOL := Lib.hid hol
                        have HGWL := Lib.hid RT.out.len
                        have HWL : Hid (want.length ≤ 4000000) := by have h1 := LT.out.1; have h3 : (j + 1) * 32768 ≤ 120 * 32768 := Nat.mul_le_mul_right _ (by omega); show _ ≤ _; omega
                        have hM3 : ∀ k, some k = (Value.slice A3 n3 c3).ownBlock → g ≤ k ∧ k < w2.heap.size := fun k h => (OGT.out.base_le k h.symm)
                        have hM4 : ∀ k, some k = (Value.slice A4 n4 c4).ownBlock → k < w2.heap.size := fun k h => (WT.out.base_le k h.symm).2
                        have hta : ¬ t < a := by omega
                        clear hro hrd hol
                        go_wp2_with fail
                        refine (Read_calls FT.out (by have := GT.out.next; omega) GT.out.now (by have := GT.out.evs; omega) (fun s hs => (GT.out.q s hs).1) 1 a mo).mono ?_
                        rintro e y1 ⟨Bx, mx, dx, rfl, hox, hex⟩
                        rw [HRR.out] at hox ⊢
                        have OX := Lib.hid hox
                        have EX1 := Lib.hid hex
                        have OG1 := Lib.hid (OGT.out.ext0 hex)
                        have OW1 := Lib.hid (WT.out.ext0 hex)
                        have HF1 := Lib.hid (FT.out.ext0 hex)
                        have hsy := hex.size
                        clear hox hex
                        go_wp2_with (first
                          | (at_builtin
                             refine wpList_app evK (ok := okO g (.slice A4 n4 c4)) (v := .slice A3 n3 c3) (vx := .slice Bx mx dx) (xs := got) (ys := o) g rfl _ _ 34 43 _ 72 rfl Try.underlying34 info43 rfl (by decide) (by simp [Act.eval]) (by simp [Act.eval]) OG1.out (OX.out.rd.mono (fun k hk => ⟨⟨fun h => by have := hM4 _ h; omega, by omega⟩, fun h => by have := hM3 _ h; omega⟩)) (fun k hk => ⟨fun h => by have := hM4 _ h; omega, by omega⟩) (by have := HWL.out; have := HGWL.out; have := HOL.out; omega) (by have := HWL.out; have := HGWL.out; have := HOL.out; omega) (by omega) ?_
                             intro v' w' hown hext hblk)
                          | fail)
                        obtain ⟨A8, n8, c8, rfl⟩ : ∃ A n c, v' = .slice A n c := by obtain ⟨A6, c6, h6, _, _⟩ := hown.slice; exact ⟨_, _, _, h6⟩
                        obtain ⟨hf', how'⟩ := keep3 HF1.out OW1.out hext (own_ne OG1.out) hblk
                        have HF9 := Lib.hid hf'
                        have OW9 := Lib.hid how'
                        have OG9 := Lib.hid hown
                        have HE9 : Hid (Ext (fun k => g ≤ k) w3 w') := (ET.out.trans0 EX1.out).trans hext (fun i hi h => by have := hM3 _ h; show g ≤ i; omega)
                        have hs9 := hext.size
                        clear hown hext hblk hf' how'
                        go_roundw
                        case rel => exact ⟨j + 1, D, want, got ++ o, t, A8, n8, c8, _, _, _, rfl, rfl, rfl, by go_num, by omega, HE9.out, by show g < _; omega, HF9.out, GT.out, XT.out, WT0.out, HRD.out, LT.out, OG9.out, OW9.out⟩
                        case measure => simp [intOf]; omega
                    · go_wp2_with fail
                      go_roundw
                      case rel => exact ⟨j + 1, D, want, got, a, A3, n3, c3, _, _, _, rfl, rfl, rfl, by go_num, by omega, ET.out, hgt, FT.out, GT.out, XT.out, WT0.out, RT.out, LT.out, OGT.out, WT.out⟩
                      case measure => simp [intOf]; omega
                  · have hbr : (opc x != 5) = true ∨ ((opc x != 5) = false ∧ (x.id != 1) = true) := by
                      by_cases hh : opc x = 5
                      · exact .inr ⟨by rw [hh]; rfl, by simpa using fun h => b5 ⟨hh, h⟩⟩
                      · exact .inl (by simpa using hh)
                    have hxs := ex_step (n := n) (k := x) b4 b6 (Decidable.byCases (fun hh : opc x = 5 => .inr (fun h => b5 ⟨hh, h⟩)) (fun hh => .inl hh)) HX.out HR.out
                    have hgs := step_good HG.out HCX.out
                    have hdo := does_calls (n := n) (k := x) HF2.out HG.out (HFR.out _ hs2) ⟨_, _, rfl, HU2.out, HQ2.out⟩ (fun h => by have h' : g < w.heap.size := h; omega) HCX.out
                    obtain ⟨DT, hDT⟩ : ∃ DT, (stepR n D x).2 = DT := ⟨_, rfl⟩
                    rw [hDT] at hxs hgs hdo
                    have XT := Lib.hid hxs.1
                    have RT := Lib.hid hxs.2
                    have GT := Lib.hid hgs
                    have HDO := Lib.hid hdo
                    have WT0 := Lib.hid HW.out
                    have LT : Hid (want.length ≤ (j + 1) * 32768 ∧ ∀ e ∈ want, e.now.size ≤ 32768) := ⟨by have := HL.out.1; rw [Nat.succ_mul]; omega, HL.out.2⟩
                    clear hxs hgs hdo hDT
                    rcases hbr with hb5 | ⟨hb5, hb1⟩
                    · go_wp2_with fail
                      refine (HDO.out).mono ?_
                      rintro e w7 ⟨rfl, hf7, he7⟩
                      have FT : Hid (Fd n (okF3 g (.slice A3 n3 c3) (.slice A4 n4 c4)) w7 g DT) := hf7
                      have OGT : Hid (Own evK 43 w7 g (okO g (.slice A4 n4 c4)) (.slice A3 n3 c3) got) := (OG.out.ext0 EW2.out).ext he7 (fun k hk _ h => hk.2 h)
                      have WT : Hid (Own evK 43 w7 g (okO g (.slice A3 n3 c3)) (.slice A4 n4 c4) want) := (OW.out.ext0 EW2.out).ext he7 (fun k hk _ h => hk.2 h)
                      have ET : Hid (Ext (fun k => g ≤ k) w3 w7) := (HE.out.trans0 EW2.out).trans he7 (fun i hi h => by have h' : i = g := h; omega)
                      have hgt : g < w7.heap.size := by have := he7.size; omega
                      clear hf7 he7
                      by_cases hmo : j < m1
                      · obtain ⟨mo, hmo'⟩ : ∃ mo, ms[j]? = some mo := ⟨_, List.getElem?_eq_getElem (by have := HM1.out; omega)⟩
                        obtain ⟨gm, offm, rfl, hgm, hgml, r0⟩ := int_at ((R1.out.ext0 E3.out).ext ET.out (fun k hk _ h => by have h' : g ≤ k := h; omega)) hmo'
                        clear hmo' hgm
                        rcases ex_read XT.out WT0.out RT.out (by have := GT.out.top; omega) mo with hr81 | ⟨o, t, hro, hat, htt, hrd, -, hol⟩
                        · have HRR := Lib.hid hr81
                          clear hr81
                          go_wp2_with fail
                          refine (Read_calls FT.out (by have := GT.out.next; omega) GT.out.now (by have := GT.out.evs; omega) (fun s hs => (GT.out.q s hs).1) 1 a mo).mono ?_
                          rintro e y1 ⟨Bx, mx, dx, rfl, hox, hex⟩
                          rw [HRR.out]
                          have EY : Hid (Ext Non w y1) := (E3.out.trans ET.out (fun i hi h => by have h' : g ≤ i := h; have := E3.out.size; omega)).trans0 hex
                          clear hox hex
                          go_wp2_with fail
                          refine (AWW.out _ EY.out).mono ?_
                          rintro e wz ⟨rfl, he⟩
                          have EZ := Lib.hid he
                          clear he
                          go_wp2_with fail
                          go_ret
                          exact ⟨rfl, EZ.out⟩
                        · have HRR := Lib.hid hro
                          have HRD := Lib.hid hrd
                          have HOL := Lib.hid hol
                          have HGWL := Lib.hid RT.out.len
                          have HWL : Hid (want.length ≤ 4000000) := by have h1 := LT.out.1; have h3 : (j + 1) * 32768 ≤ 120 * 32768 := Nat.mul_le_mul_right _ (by omega); show _ ≤ _; omega
                          have hM3 : ∀ k, some k = (Value.slice A3 n3 c3).ownBlock → g ≤ k ∧ k < w7.heap.size := fun k h => (OGT.out.base_le k h.symm)
                          have hM4 : ∀ k, some k = (Value.slice A4 n4 c4).ownBlock → k < w7.heap.size := fun k h => (WT.out.base_le k h.symm).2
                          have hta : ¬ t < a := by omega
                          clear hro hrd hol
                          go_wp2_with fail
                          refine (Read_calls FT.out (by have := GT.out.next; omega) GT.out.now (by have := GT.out.evs; omega) (fun s hs => (GT.out.q s hs).1) 1 a mo).mono ?_
                          rintro e y1 ⟨Bx, mx, dx, rfl, hox, hex⟩
                          rw [HRR.out] at hox ⊢
                          have OX := Lib.hid hox
                          have EX1 := Lib.hid hex
                          have OG1 := Lib.hid (OGT.out.ext0 hex)
                          have OW1 := Lib.hid (WT.out.ext0 hex)
                          have HF1 := Lib.hid (FT.out.ext0 hex)
                          have hsy := hex.size
                          clear hox hex
                          go_wp2_with (first
                            | (at_builtin
                               refine wpList_app evK (ok := okO g (.slice A4 n4 c4)) (v := .slice A3 n3 c3) (vx := .slice Bx mx dx) (xs := got) (ys := o) g rfl _ _ 34 43 _ 72 rfl Try.underlying34 info43 rfl (by decide) (by simp [Act.eval]) (by simp [Act.eval]) OG1.out (OX.out.rd.mono (fun k hk => ⟨⟨fun h => by have := hM4 _ h; omega, by omega⟩, fun h => by have := hM3 _ h; omega⟩)) (fun k hk => ⟨fun h => by have := hM4 _ h; omega, by omega⟩) (by have := HWL.out; have := HGWL.out; have := HOL.out; omega) (by have := HWL.out; have := HGWL.out; have := HOL.out; omega) (by omega) ?_
                               intro v' w' hown hext hblk)
                            | fail)
                          obtain ⟨A8, n8, c8, rfl⟩ : ∃ A n c, v' = .slice A n c := by obtain ⟨A6, c6, h6, _, _⟩ := hown.slice; exact ⟨_, _, _, h6⟩
                          obtain ⟨hf', how'⟩ := keep3 HF1.out OW1.out hext (own_ne OG1.out) hblk
                          have HF9 := Lib.hid hf'
                          have OW9 := Lib.hid how'
                          have OG9 := Lib.hid hown
                          have HE9 : Hid (Ext (fun k => g ≤ k) w3 w') := (ET.out.trans0 EX1.out).trans hext (fun i hi h => by have := hM3 _ h; show g ≤ i; omega)
                          have hs9 := hext.size
                          clear hown hext hblk hf' how'
                          go_roundw
                          case rel => exact ⟨j + 1, DT, want, got ++ o, t, A8, n8, c8, _, _, _, rfl, rfl, rfl, by go_num, by omega, HE9.out, by show g < _; omega, HF9.out, GT.out, XT.out, WT0.out, HRD.out, LT.out, OG9.out, OW9.out⟩
                          case measure => simp [intOf]; omega
                      · go_wp2_with fail
                        go_roundw
                        case rel => exact ⟨j + 1, DT, want, got, a, A3, n3, c3, _, _, _, rfl, rfl, rfl, by go_num, by omega, ET.out, hgt, FT.out, GT.out, XT.out, WT0.out, RT.out, LT.out, OGT.out, WT.out⟩
                        case measure => simp [intOf]; omega
                    · go_wp2_with fail
                      refine (HDO.out).mono ?_
                      rintro e w7 ⟨rfl, hf7, he7⟩
                      have FT : Hid (Fd n (okF3 g (.slice A3 n3 c3) (.slice A4 n4 c4)) w7 g DT) := hf7
                      have OGT : Hid (Own evK 43 w7 g (okO g (.slice A4 n4 c4)) (.slice A3 n3 c3) got) := (OG.out.ext0 EW2.out).ext he7 (fun k hk _ h => hk.2 h)
                      have WT : Hid (Own evK 43 w7 g (okO g (.slice A3 n3 c3)) (.slice A4 n4 c4) want) := (OW.out.ext0 EW2.out).ext he7 (fun k hk _ h => hk.2 h)
                      have ET : Hid (Ext (fun k => g ≤ k) w3 w7) := (HE.out.trans0 EW2.out).trans he7 (fun i hi h => by have h' : i = g := h; omega)
                      have hgt : g < w7.heap.size := by have := he7.size; omega
                      clear hf7 he7
                      by_cases hmo : j < m1
                      · obtain ⟨mo, hmo'⟩ : ∃ mo, ms[j]? = some mo := ⟨_, List.getElem?_eq_getElem (by have := HM1.out; omega)⟩
                        obtain ⟨gm, offm, rfl, hgm, hgml, r0⟩ := int_at ((R1.out.ext0 E3.out).ext ET.out (fun k hk _ h => by have h' : g ≤ k := h; omega)) hmo'
                        clear hmo' hgm
                        rcases ex_read XT.out WT0.out RT.out (by have := GT.out.top; omega) mo with hr81 | ⟨o, t, hro, hat, htt, hrd, -, hol⟩
                        · have HRR := Lib.hid hr81
                          clear hr81
                          go_wp2_with fail
                          refine (Read_calls FT.out (by have := GT.out.next; omega) GT.out.now (by have := GT.out.evs; omega) (fun s hs => (GT.out.q s hs).1) 1 a mo).mono ?_
                          rintro e y1 ⟨Bx, mx, dx, rfl, hox, hex⟩
                          rw [HRR.out]
                          have EY : Hid (Ext Non w y1) := (E3.out.trans ET.out (fun i hi h => by have h' : g ≤ i := h; have := E3.out.size; omega)).trans0 hex
                          clear hox hex
                          go_wp2_with fail
                          refine (AWW.out _ EY.out).mono ?_
                          rintro e wz ⟨rfl, he⟩
                          have EZ := Lib.hid he
                          clear he
                          go_wp2_with fail
                          go_ret
                          exact ⟨rfl, EZ.out⟩
                        · have HRR := Lib.hid hro
                          have HRD := Lib.hid hrd
                          have HOL := Lib.hid hol
                          have HGWL := Lib.hid RT.out.len
                          have HWL : Hid (want.length ≤ 4000000) := by have h1 := LT.out.1; have h3 : (j + 1) * 32768 ≤ 120 * 32768 := Nat.mul_le_mul_right _ (by omega); show _ ≤ _; omega
                          have hM3 : ∀ k, some k = (Value.slice A3 n3 c3).ownBlock → g ≤ k ∧ k < w7.heap.size := fun k h => (OGT.out.base_le k h.symm)
                          have hM4 : ∀ k, some k = (Value.slice A4 n4 c4).ownBlock → k < w7.heap.size := fun k h => (WT.out.base_le k h.symm).2
                          have hta : ¬ t < a := by omega
                          clear hro hrd hol
                          go_wp2_with fail
                          refine (Read_calls FT.out (by have := GT.out.next; omega) GT.out.now (by have := GT.out.evs; omega) (fun s hs => (GT.out.q s hs).1) 1 a mo).mono ?_
                          rintro e y1 ⟨Bx, mx, dx, rfl, hox, hex⟩
                          rw [HRR.out] at hox ⊢
                          have OX := Lib.hid hox
                          have EX1 := Lib.hid hex
                          have OG1 := Lib.hid (OGT.out.ext0 hex)
                          have OW1 := Lib.hid (WT.out.ext0 hex)
                          have HF1 := Lib.hid (FT.out.ext0 hex)
                          have hsy := hex.size
                          clear hox hex
                          go_wp2_with (first
                            | (at_builtin
                               refine wpList_app evK (ok := okO g (.slice A4 n4 c4)) (v := .slice A3 n3 c3) (vx := .slice Bx mx dx) (xs := got) (ys := o) g rfl _ _ 34 43 _ 72 rfl Try.underlying34 info43 rfl (by decide) (by simp [Act.eval]) (by simp [Act.eval]) OG1.out (OX.out.rd.mono (fun k hk => ⟨⟨fun h => by have := hM4 _ h; omega, by omega⟩, fun h => by have := hM3 _ h; omega⟩)) (fun k hk => ⟨fun h => by have := hM4 _ h; omega, by omega⟩) (by have := HWL.out; have := HGWL.out; have := HOL.out; omega) (by have := HWL.out; have := HGWL.out; have := HOL.out; omega) (by omega) ?_
                               intro v' w' hown hext hblk)
                            | fail)
                          obtain ⟨A8, n8, c8, rfl⟩ : ∃ A n c, v' = .slice A n c := by obtain ⟨A6, c6, h6, _, _⟩ := hown.slice; exact ⟨_, _, _, h6⟩
                          obtain ⟨hf', how'⟩ := keep3 HF1.out OW1.out hext (own_ne OG1.out) hblk
                          have HF9 := Lib.hid hf'
                          have OW9 := Lib.hid how'
                          have OG9 := Lib.hid hown
                          have HE9 : Hid (Ext (fun k => g ≤ k) w3 w') := (ET.out.trans0 EX1.out).trans hext (fun i hi h => by have := hM3 _ h; show g ≤ i; omega)
                          have hs9 := hext.size
                          clear hown hext hblk hf' how'
                          go_roundw
                          case rel => exact ⟨j + 1, DT, want, got ++ o, t, A8, n8, c8, _, _, _, rfl, rfl, rfl, by go_num, by omega, HE9.out, by show g < _; omega, HF9.out, GT.out, XT.out, WT0.out, HRD.out, LT.out, OG9.out, OW9.out⟩
                          case measure => simp [intOf]; omega
                      · go_wp2_with fail
                        go_roundw
                        case rel => exact ⟨j + 1, DT, want, got, a, A3, n3, c3, _, _, _, rfl, rfl, rfl, by go_num, by omega, ET.out, hgt, FT.out, GT.out, XT.out, WT0.out, RT.out, LT.out, OGT.out, WT.out⟩
                        case measure => simp [intOf]; omega
            · obtain rfl : j = m2 := by omega
              go_wp2_with fail
              go_loopw [10, 12, 145] (fun s10 s12 i wr => ∃ (k : Nat) (got : List Ev) (a : Int) (A3 : Option Addr) (n3 c3 : Nat), s10 = .slice A3 n3 c3 ∧ s12 = .int .i64 a ∧ i = .int .i64 (k : Int) ∧ k ≤ 100 ∧ Hid (Ext (fun k => g ≤ k) w3 wr) ∧ Hid (g < wr.heap.size) ∧ Hid (Fd n (okF3 g (.slice A3 n3 c3) (.slice A4 n4 c4)) wr g D) ∧ Hid (Rdg n (.mk op key val kids) D want got a) ∧ Hid (Own evK 43 wr g (okO g (.slice A4 n4 c4)) (.slice A3 n3 c3) got) ∧ Hid (Own evK 43 wr g (okO g (.slice A3 n3 c3)) (.slice A4 n4 c4) want) ∧ Hid (0 < k → ∀ s rest, D.subs = s :: rest → s.gone = false) ∧ Hid (a = D.top ∨ (beyond a D.evs).length + k ≤ 32)) (fun _ _ i _ => 100 - (intOf i).toNat)
              case atStart => exact ⟨0, got, a, A3, n3, c3, rfl, rfl, rfl, by omega, HE.out, HGB.out, HF.out, HR.out, OG.out, OW.out, fun h => absurd h (Nat.lt_irrefl 0), .inr (by have h1 := HG.out.evs; have h2 : (beyond a D.evs).length ≤ D.evs.length := List.length_filter_le _ _; omega)⟩
              case round =>
                obtain ⟨k, got, a, A3, n3, c3, rfl, rfl, rfl, hk, HE, HGB, HF, HR, OG, OW, HLV, HPR⟩ := hrel
                by_cases hlt2 : k < 100
                · have q0 : (k : Int) < 100 := by omega
                  rcases ex_read HX.out HW.out HR.out (by have := HG.out.top; omega) 5 with hr81 | ⟨o, t, hro, hat, htt, hrd, hprog, hol⟩
                  · have HRR := Lib.hid hr81
                    clear hr81
                    go_wp2_with fail
                    refine (Read_calls HF.out (by have := HG.out.next; omega) HG.out.now (by have := HG.out.evs; omega) (fun s hs => (HG.out.q s hs).1) 1 a 5).mono ?_
                    rintro e y1 ⟨Bx, mx, dx, rfl, hox, hex⟩
                    rw [HRR.out]
                    have EY : Hid (Ext Non w y1) := (E3.out.trans HE.out (fun i hi h => by have h' : g ≤ i := h; have := E3.out.size; omega)).trans0 hex
                    clear hox hex
                    go_wp2_with fail
                    refine (AWW.out _ EY.out).mono ?_
                    rintro e wz ⟨rfl, he⟩
                    have EZ := Lib.hid he
                    clear he
                    go_wp2_with fail
                    go_ret
                    exact ⟨rfl, EZ.out⟩
                  · have HRR := Lib.hid hro
                    have HRD := Lib.hid hrd
                    have HPG := Lib.hid hprog
                    have hlv := ex_live HX.out hro
                    have HLV2 := Lib.hid hlv
                    have HOL := Lib.hid hol
                    have hgw := HR.out.len
                    have HWL : Hid (want.length ≤ 4000000) := by have h1 := HL.out.1; have h3 : j * 32768 ≤ 120 * 32768 := Nat.mul_le_mul_right _ (by omega); show _ ≤ _; omega
                    have HGWL := Lib.hid hgw
                    have hM3 : ∀ k, some k = (Value.slice A3 n3 c3).ownBlock → g ≤ k ∧ k < wr.heap.size := fun k h => (OG.out.base_le k h.symm)
                    have hM4 : ∀ k, some k = (Value.slice A4 n4 c4).ownBlock → k < wr.heap.size := fun k h => (OW.out.base_le k h.symm).2
                    have hgw' := HGB.out
                    clear hro hrd hprog hlv hol hgw
                    go_wp2_with fail
                    refine (Read_calls HF.out (by have := HG.out.next; omega) HG.out.now (by have := HG.out.evs; omega) (fun s hs => (HG.out.q s hs).1) 1 a 5).mono ?_
                    rintro e y1 ⟨Bx, mx, dx, rfl, hox, hex⟩
                    rw [HRR.out] at hox ⊢
                    have OX := Lib.hid hox
                    have EX1 := Lib.hid hex
                    have OG1 := Lib.hid (OG.out.ext0 hex)
                    have OW1 := Lib.hid (OW.out.ext0 hex)
                    have HF1 := Lib.hid (HF.out.ext0 hex)
                    have hsy := hex.size
                    clear hox hex
                    go_wp2_with (first
                      | (at_builtin
                         refine wpList_app evK (ok := okO g (.slice A4 n4 c4)) (v := .slice A3 n3 c3) (vx := .slice Bx mx dx) (xs := got) (ys := o) g rfl _ _ 34 43 _ 72 rfl Try.underlying34 info43 rfl (by decide) (by simp [Act.eval]) (by simp [Act.eval]) OG1.out (OX.out.rd.mono (fun k hk => ⟨⟨fun h => by have := hM4 _ h; omega, by omega⟩, fun h => by have := hM3 _ h; omega⟩)) (fun k hk => ⟨fun h => by have := hM4 _ h; omega, by omega⟩) (by have := HWL.out; have := HGWL.out; have := HOL.out; omega) (by have := HWL.out; have := HGWL.out; have := HOL.out; omega) (by omega) ?_
                         intro v' w' hown hext hblk)
                      | fail)
                    obtain ⟨A7, n7, c7, rfl⟩ : ∃ A n c, v' = .slice A n c := by obtain ⟨A6, c6, h6, _, _⟩ := hown.slice; exact ⟨_, _, _, h6⟩
                    obtain ⟨hf', how'⟩ := keep3 HF1.out OW1.out hext (own_ne OG1.out) hblk
                    have HF9 := Lib.hid hf'
                    have OW9 := Lib.hid how'
                    have OG9 := Lib.hid hown
                    have HE9 : Hid (Ext (fun k => g ≤ k) w3 w') := (HE.out.trans0 EX1.out).trans hext (fun i hi h => by have := hM3 _ h; show g ≤ i; omega)
                    have hs9 := hext.size
                    clear hown hext hblk hf' how'
                    go_roundw
                    case rel => exact ⟨k + 1, got ++ o, t, A7, n7, c7, rfl, rfl, by go_num, by omega, HE9.out, by show g < _; omega, HF9.out, HRD.out, OG9.out, OW9.out, fun _ => HLV2.out, by
                      rcases HPG.out with h | h
                      · exact .inl h
                      · rcases HPR.out with h2 | h2
                        · exact .inl (by omega)
                        · exact .inr (by omega)⟩
                    case measure => simp [intOf]; omega
                · obtain rfl : k = 100 := by omega
                  have hatop : a = D.top := by
                    rcases HPR.out with h | h
                    · exact h
                    · omega
                  subst hatop
                  have hfin : Hid (got = passQ n (.mk op key val kids) want) := ex_done HX.out HR.out (HLV.out (by omega))
                  obtain ⟨se, ss, hbf⟩ := HF.out.blk
                  have HBF := Lib.hid hbf
                  have BZr : Hid (wr.heap[z]? = some (.cells #[.int .i64 op, .string key, .string val, .slice A0 m0 c0] 24 (0, 0))) := HE.out.obj BZ3.out (fun h => by have h' : g ≤ z := h; omega)
                  have k0 := blk_cell BZr.out 0
                  have k1 := blk_cell BZr.out 1
                  have k2 := blk_cell BZr.out 2
                  have k3 := blk_cell BZr.out 3
                  have hzr := blk_lt BZr.out
                  have EWR : Hid (Ext Non w wr) := E3.out.trans HE.out (fun i hi h => by have h' : g ≤ i := h; have := E3.out.size; omega)
                  clear hbf
                  go_wp2_with fail
                  refine (Top_live HBF.out (by have := HG.out.next; omega)).mono ?_
                  rintro e y1 ⟨rfl, rfl⟩
                  go_wp2_with fail
                  refine (Pass_calls (fp := fieldF) (n := n) (f := .mk op key val kids) ⟨_, rfl, HV0.out.ext0 EWR.out⟩ HQ0.out (.inr Field_calls) OW.out.rd (fun e he => by have := HL.out.2 e he; omega) (by have h1 := HL.out.1; have h3 : j * 32768 ≤ 120 * 32768 := Nat.mul_le_mul_right _ (by omega); omega)).mono ?_
                  rintro e y2 ⟨Ap, np, cp, rfl, HOP, HEP⟩
                  have OP : Hid (Own evK 43 y2 wr.heap.size (fun k => wr.heap.size ≤ k) (.slice Ap np cp) got) := by rw [hfin.out]; exact HOP.out
                  have OG2 := Lib.hid (OG.out.rd.ext0 HEP.out)
                  have EY2 : Hid (Ext Non w y2) := EWR.out.trans0 HEP.out
                  go_wp2_with fail
                  refine (EqualE_calls OG2.out OP.out.rd).mono ?_
                  rintro e y3 ⟨rfl, he⟩
                  have EY : Hid (Ext Non w y3) := EY2.out.trans0 he
                  clear he
                  go_wp2_with fail
                  refine (AWW.out _ EY.out).mono ?_
                  rintro e wz ⟨rfl, he⟩
                  have EZ := Lib.hid he
                  clear he
                  go_wp2_with fail
                  go_ret
                  exact ⟨rfl, EZ.out⟩
        · have hne : (addR n newD (.mk op key val kids)).1.2 = checkE (n + 1) (.mk op key val kids) := by
            unfold addR
            rw [if_pos hck]
          have HC : Hid (Calls Try.prog 35 #[.agg #[.int .i64 op, .string key, .string val, .slice A0 m0 c0]] w5 fun e w' => e = .returned (.int .i64 (checkE (n + 1) (.mk op key val kids))) ∧ Ext Non w5 w') := Check_calls ⟨_, rfl, HV0.out.ext0 E5.out⟩ HQ0.out
          rw [hne]
          obtain ⟨cv, hcv⟩ : ∃ cv, checkE (n + 1) (.mk op key val kids) = cv := ⟨_, rfl⟩
          rw [hcv] at HC hck ⊢
          have ev : (cv == 0) = false := beq_eq_false_iff_ne.2 hck
          have k0 := blk_cell BZ5.out 0
          have k1 := blk_cell BZ5.out 1
          have k2 := blk_cell BZ5.out 2
          have k3 := blk_cell BZ5.out 3
          have hz5 := blk_lt BZ5.out
          clear hcv hne
          go_wp2_with fail
          refine HC.out.mono ?_
          rintro e y1 ⟨rfl, he⟩
          have EY : Hid (Ext Non w y1) := E5.out.trans0 he
          clear he
          go_wp2_with fail
          refine (AWW.out _ EY.out).mono ?_
          rintro e wz ⟨rfl, he⟩
          have EZ := Lib.hid he
          clear he
          go_wp2_with fail
          go_ret
          exact ⟨rfl, EZ.out⟩
end Go.Proofs.Ytdjfijdnhfmeeaa
