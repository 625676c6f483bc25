/- FeedApart: what a subscriber reads hangs on its own filter and cursor, not on which others there are, as long as none is let go: for all filters and lists within the law's bounds. -/
import Derived.Test.YtdjfijdnhfmeeaaS2
import Derived.Test.YtdjfijdnhfmeeaaS6
import Derived.Test.YtdjfijdnhfmeeaaL
namespace Go.Proofs.Ytdjfijdnhfmeeaa
open Go.RowKit Go.TM
set_option maxRecDepth 100000 in
set_option maxHeartbeats 32000000 in
theorem apart_calls {w : World} {n0 n1 n2 : Nat} {x0 : Value} {q0 : Flt} {A1 A2 : Option Addr} {c1 c2 : Nat} {ls : List Flt} {l : List Dc} {most : Int} (hx : FV n0 w (fun k => k < w.heap.size) x0 q0) (hq0 : okF (n0 + 1) q0)
    (hr1 : Rd (fltK n1) w (fun k => k < w.heap.size) (.slice A1 ls.length c1) ls) (ho1 : ∀ y ∈ ls, okF n1 y) (hr2 : Rd (doK n2) w (fun k => k < w.heap.size) (.slice A2 l.length c2) l) (hv2 : ∀ k ∈ l, DcV n2 k) :
    Calls Try.prog 3 #[x0, .slice A1 ls.length c1, .slice A2 l.length c2, .int .i64 most] w fun e w' => e = .returned (.bool true) ∧ Ext Non w w' := by
  obtain ⟨n, hn⟩ : ∃ n, max n0 (max n1 n2) = n := ⟨_, rfl⟩
  have hl1 : (ls.length : Int) ≤ 9223372036854775807 := by
    obtain ⟨_, _, _, _, h⟩ := hr1.slice
    omega
  have hl2 : (l.length : Int) ≤ 9223372036854775807 := by
    obtain ⟨_, _, _, _, h⟩ := hr2.slice
    omega
  obtain ⟨v0, rfl, hv0⟩ := hx.up (m := n) (by omega)
  obtain ⟨op, key, val, kids⟩ := q0
  obtain ⟨A0, m0, c0, rfl, -⟩ := rd_abs hv0
  show Calls Try.prog 3 #[.agg #[.int .i64 op, .string key, .string val, .slice A0 m0 c0], .slice A1 ls.length c1, .slice A2 l.length c2, .int .i64 most] w _
  have HV0 := Lib.hid hv0
  have HQ0 : Hid (okF (n + 1) (.mk op key val kids)) := okF_le (by omega) hq0
  have R1 : Hid (Rd (fltK (n + 1)) w (fun k => k < w.heap.size) (.slice A1 ls.length c1) ls) := rd_up (by omega) hr1
  have O1 : Hid (∀ y ∈ ls, okF (n + 1) y) := fun y hy => okF_le (by omega) (ho1 y hy)
  have R2 : Hid (Rd (doK n) w (fun k => k < w.heap.size) (.slice A2 l.length c2) l) := dos_up (by omega) hr2
  have V2 : Hid (∀ k ∈ l, DcV n k) := fun k hk => (hv2 k hk).up (by omega)
  have AWW : Hid (∀ w4, Ext Non w w4 → (Calls Try.prog 13 #[] w4 fun e w' => e = .returned (.bool true) ∧ Ext Non w w')) := fun w4 h4 => (awake_calls w4).mono (fun _ _ h => ⟨h.1, h4.trans0 h.2⟩)
  obtain ⟨m1, hm1⟩ : ∃ m, ls.length = m := ⟨_, rfl⟩
  obtain ⟨m2, hm2⟩ : ∃ m, l.length = m := ⟨_, rfl⟩
  rw [hm1] at R1 hl1 ⊢
  rw [hm2] at R2 hl2 ⊢
  have HM1 := Lib.hid hm1
  have HM2 := Lib.hid hm2
  obtain ⟨z, hz⟩ : ∃ z, w.heap.size = z := ⟨_, rfl⟩
  obtain ⟨w1, hw1⟩ : ∃ w1, w.alloc (.cells #[.int .i64 op, .string key, .string val, .slice A0 m0 c0] 24) = w1 := ⟨_, rfl⟩
  have E1 : Hid (Ext Non w w1) := by rw [← hw1]; exact (Ext.refl _ _).alloc _
  have BZ1 : Hid (w1.heap[z]? = some (.cells #[.int .i64 op, .string key, .string val, .slice A0 m0 c0] 24 (0, 0))) := by rw [← hw1, ← hz]; exact blk_new w _
  have HSC : Hid (Calls Try.prog 11 #[.slice A2 m2 c2] w1 (ShortPost n l w1)) := short_calls (R2.out.ext0 E1.out) V2.out
  clear hx hv0 hq0 hr1 ho1 hr2 hv2 hm1 hm2 hn
  go_enter Try.func3, Try.ntmps3
  go_wp2_with fail
  (try rw [hz, hw1])
  refine HSC.out.mono ?_
  rintro e w2 ⟨b, rfl, he2, hsh⟩
  have E2 : Hid (Ext Non w w2) := E1.out.trans0 he2
  have BZ2 : Hid (w2.heap[z]? = some (.cells #[.int .i64 op, .string key, .string val, .slice A0 m0 c0] 24 (0, 0))) := he2.obj BZ1.out (fun e => e)
  have HSH := Lib.hid hsh
  have k0 := blk_cell BZ2.out 0
  have k1 := blk_cell BZ2.out 1
  have k2 := blk_cell BZ2.out 2
  have k3 := blk_cell BZ2.out 3
  have hzl := blk_lt BZ2.out
  clear he2 hsh
  cases b with
  | false =>
    go_wp2_with fail
    refine (AWW.out _ E2.out).mono ?_
    rintro e wz ⟨rfl, he⟩
    have EZ := Lib.hid he
    clear he
    go_wp2_with fail
    go_ret
    exact ⟨rfl, EZ.out⟩
  | true =>
    have HCO : Hid (∀ y ∈ l, CallOk n y) := fun y hy => callOk (V2.out y hy) ((HSH.out rfl).2 y hy).1 ((HSH.out rfl).2 y hy).2
    go_wp2_with fail
    refine (light_calls (n := n) (f := .mk op key val kids) ⟨_, rfl, HV0.out.ext0 E2.out⟩ HQ0.out).mono ?_
    rintro e w3 ⟨rfl, he3⟩
    have E3 : Hid (Ext Non w w3) := E2.out.trans0 he3
    have BZ3 : Hid (w3.heap[z]? = some (.cells #[.int .i64 op, .string key, .string val, .slice A0 m0 c0] 24 (0, 0))) := he3.obj BZ2.out (fun e => e)
    obtain ⟨lq, hlq⟩ : ∃ lq, lightF (n + 1) (.mk op key val kids) = lq := ⟨_, rfl⟩
    rw [hlq]
    have HLQ := Lib.hid hlq
    clear he3 hlq k0 k1 k2 k3
    have k0 := blk_cell BZ3.out 0
    have k1 := blk_cell BZ3.out 1
    have k2 := blk_cell BZ3.out 2
    have k3 := blk_cell BZ3.out 3
    cases lq with
    | false =>
      go_wp2_with fail
      refine (AWW.out _ E3.out).mono ?_
      rintro e wz ⟨rfl, he⟩
      have EZ := Lib.hid he
      clear he
      go_wp2_with fail
      go_ret
      exact ⟨rfl, EZ.out⟩
    | true =>
      have HKQ : Hid (okK (n + 1) (.mk op key val kids)) := light_okK HLQ.out
      rcases (show 3 < (m1 : Int) ∨ ¬ 3 < (m1 : Int) by omega) with h3 | h3
      · go_wp2_with fail
        refine (AWW.out _ E3.out).mono ?_
        rintro e wz ⟨rfl, he⟩
        have EZ := Lib.hid he
        clear he
        go_wp2_with fail
        go_ret
        exact ⟨rfl, EZ.out⟩
      · obtain ⟨ga, hga⟩ : ∃ g, w3.heap.size = g := ⟨_, rfl⟩
        have hwa : w.heap.size ≤ ga := by have := E3.out.size; omega
        have hza : z < ga := by have := blk_lt BZ3.out; omega
        go_wp2_with fail
        refine (New_calls (n := n) (ok := fun j => j ≠ ga) (by rw [hga]; exact fun h => h rfl)).mono ?_
        rintro e w4 ⟨rfl, hf4, he4⟩
        rw [hga] at hf4 ⊢
        obtain ⟨gb, hgb⟩ : ∃ g, w4.heap.size = g := ⟨_, rfl⟩
        have hab : ga < gb := by
          obtain ⟨se, ss, hb⟩ := hf4.blk
          have := blk_lt hb
          omega
        have FA4 := Lib.hid hf4
        have E4 : Hid (Ext Non w w4) := E3.out.trans0 he4
        have X4 := Lib.hid he4
        clear hf4 he4
        go_wp2_with fail
        refine (New_calls (n := n) (ok := fun j => j ≠ ga ∧ j ≠ gb) (by rw [hgb]; exact fun h => h.2 rfl)).mono ?_
        rintro e w5 ⟨rfl, hf5, he5⟩
        rw [hgb] at hf5 ⊢
        have FB5 : Hid (Fd n (fun j => j ≠ ga ∧ j ≠ gb) w5 gb newD) := hf5
        have FA5 : Hid (Fd n (fun j => j ≠ ga ∧ j ≠ gb) w5 ga newD) := (FA4.out.re (ok' := fun j => j ≠ ga ∧ j ≠ gb) (fun j hj hl => ⟨hj, by omega⟩) (fun h => h.1 rfl)).ext0 he5
        have E5 : Hid (Ext Non w w5) := E4.out.trans0 he5
        have hs5 : gb < w5.heap.size := by
          obtain ⟨se, ss, hb⟩ := hf5.blk
          exact blk_lt hb
        have BZ5 : Hid (w5.heap[z]? = some (.cells #[.int .i64 op, .string key, .string val, .slice A0 m0 c0] 24 (0, 0))) := he5.obj (X4.out.obj BZ3.out (fun e => e)) (fun e => e)
        have HFR : Hid (∀ w8, gb < w8.heap.size → Fresh (fun j => j ≠ ga ∧ j ≠ gb) w8) := fun w8 h j hj => ⟨by omega, by omega⟩
        clear hf5 he5 k0 k1 k2 k3
        have k0 := blk_cell BZ5.out 0
        have k1 := blk_cell BZ5.out 1
        have k2 := blk_cell BZ5.out 2
        have k3 := blk_cell BZ5.out 3
        have hz5 := blk_lt BZ5.out
        go_wp2_with fail
        refine (Add_calls (n := n) (f := .mk op key val kids) FA5.out (by decide) (by decide) (HFR.out _ hs5) ⟨_, rfl, HV0.out.ext0 E5.out⟩ HQ0.out HKQ.out).mono ?_
        rintro e w6 ⟨rfl, hf6, he6⟩
        have FA6 := Lib.hid hf6
        have FB6 : Hid (Fd n (fun j => j ≠ ga ∧ j ≠ gb) w6 gb newD) := FB5.out.ext he6 (fun j hj h => hj.1 h) (fun h => by have h' : gb = ga := h; omega)
        have E6 : Hid (Ext Non w w6) := E5.out.trans he6 (fun i hi h => by have h' : i = ga := h; omega)
        have hs6 : gb < w6.heap.size := Nat.lt_of_lt_of_le hs5 he6.size
        have BZ6 : Hid (w6.heap[z]? = some (.cells #[.int .i64 op, .string key, .string val, .slice A0 m0 c0] 24 (0, 0))) := he6.obj BZ5.out (fun h => by have h' : z = ga := h; omega)
        clear hf6 he6 k0 k1 k2 k3
        have k0 := blk_cell BZ6.out 0
        have k1 := blk_cell BZ6.out 1
        have k2 := blk_cell BZ6.out 2
        have k3 := blk_cell BZ6.out 3
        have hz6 := blk_lt BZ6.out
        go_wp2_with fail
        refine (Add_calls (n := n) (f := .mk op key val kids) FB6.out (by decide) (by decide) (HFR.out _ hs6) ⟨_, rfl, HV0.out.ext0 E6.out⟩ HQ0.out HKQ.out).mono ?_
        rintro e w7 ⟨rfl, hf7, he7⟩
        obtain ⟨S0, hS0⟩ : ∃ S0, addR n newD (.mk op key val kids) = S0 := ⟨_, rfl⟩
        have HS0 := Lib.hid hS0
        have FB7 : Hid (Fd n (fun j => j ≠ ga ∧ j ≠ gb) w7 gb S0.2) := by rw [← hS0]; exact hf7
        have FA7 : Hid (Fd n (fun j => j ≠ ga ∧ j ≠ gb) w7 ga S0.2) := by rw [← hS0]; exact FA6.out.ext he7 (fun j hj h => hj.2 h) (fun h => by have h' : ga = gb := h; omega)
        have GS : Hid (Good n S0.2) := by rw [← hS0]; exact add_good (newD_good n) HQ0.out HKQ.out
        have IN0 : Hid (ApInv n (.mk op key val kids) S0.2 S0.2) := by rw [← hS0]; exact ap_start
        have E7 : Hid (Ext Non w w7) := E6.out.trans he7 (fun i hi h => by have h' : i = gb := h; omega)
        have hs7 : gb < w7.heap.size := Nat.lt_of_lt_of_le hs6 he7.size
        have BZ7 : Hid (w7.heap[z]? = some (.cells #[.int .i64 op, .string key, .string val, .slice A0 m0 c0] 24 (0, 0))) := he7.obj BZ6.out (fun h => by have h' : z = gb := h; omega)
        rw [hS0]
        clear hf7 he7 hS0 k0 k1 k2 k3
        go_wp2_with fail
        go_loopw [55] (fun i wr => ∃ (j : Nat) (Bd : Fdr), i = .int .i64 (j : Int) ∧ j ≤ m1 ∧ Hid (Ext Non w wr) ∧ Hid (gb < wr.heap.size) ∧ Hid (wr.heap[z]? = some (.cells #[.int .i64 op, .string key, .string val, .slice A0 m0 c0] 24 (0, 0))) ∧ Hid (Fd n (fun j => j ≠ ga ∧ j ≠ gb) wr ga S0.2) ∧ Hid (Fd n (fun j => j ≠ ga ∧ j ≠ gb) wr gb Bd) ∧ Hid (Good n Bd) ∧ Hid (ApInv n (.mk op key val kids) S0.2 Bd)) (fun i _ => m1 - (intOf i).toNat)
        case atStart => exact ⟨0, S0.2, rfl, by omega, E7.out, hs7, BZ7.out, FA7.out, FB7.out, GS.out, IN0.out⟩
        case round =>
          obtain ⟨j, Bd, rfl, hj, HE, HGB, BZ, FAo, FB, GB, INo⟩ := hrel
          by_cases hlt : j < m1
          · obtain ⟨f, hf⟩ : ∃ f, ls[j]? = some f := ⟨_, List.getElem?_eq_getElem (by have := HM1.out; omega)⟩
            obtain ⟨gk, offk, v, mm, hnm, rfl, hgk, hgl, d0, d1, d2, d3, hrk⟩ := kid_at (R1.out.ext0 HE.out) hf
            obtain rfl : mm = n := by omega
            obtain ⟨Ak, lk, ck', rfl, -⟩ := rd_abs hrk
            have HOF := Lib.hid (O1.out f (List.mem_of_getElem? hf))
            have HRK := Lib.hid hrk
            obtain ⟨p, hp⟩ : ∃ p, wr.heap.size = p := ⟨_, rfl⟩
            obtain ⟨w2, hw2⟩ : ∃ w2, wr.alloc (.cells #[.int .i64 f.op, .string f.key, .string f.val, .slice Ak lk ck'] 24) = w2 := ⟨_, rfl⟩
            have X2 : Hid (Ext Non wr w2) := by rw [← hw2]; exact (Ext.refl _ _).alloc _
            have BP2 : Hid (w2.heap[p]? = some (.cells #[.int .i64 f.op, .string f.key, .string f.val, .slice Ak lk ck'] 24 (0, 0))) := by rw [← hw2, ← hp]; exact blk_new wr _
            have hpb : gb < p := by have := HGB.out; omega
            have k0 := blk_cell BP2.out 0
            have k1 := blk_cell BP2.out 1
            have k2 := blk_cell BP2.out 2
            have k3 := blk_cell BP2.out 3
            have hpl := blk_lt BP2.out
            clear hrk hf hgk hnm
            go_wp2_with fail
            (try rw [hp, hw2])
            refine (light_calls (n := mm) (f := f) ⟨_, rfl, HRK.out.ext0 X2.out⟩ HOF.out).mono ?_
            rintro e w8 ⟨rfl, he8⟩
            have X8 : Hid (Ext Non wr w8) := X2.out.trans0 he8
            have BP8 : Hid (w8.heap[p]? = some (.cells #[.int .i64 f.op, .string f.key, .string f.val, .slice Ak lk ck'] 24 (0, 0))) := he8.obj BP2.out (fun e => e)
            obtain ⟨lf, hlf⟩ : ∃ lf, lightF (mm + 1) f = lf := ⟨_, rfl⟩
            rw [hlf]
            have HLF := Lib.hid hlf
            clear he8 hlf k0 k1 k2 k3 d0 d1 d2 d3
            have k0 := blk_cell BP8.out 0
            have k1 := blk_cell BP8.out 1
            have k2 := blk_cell BP8.out 2
            have k3 := blk_cell BP8.out 3
            have hpl8 := blk_lt BP8.out
            have hs8 := X8.out.size
            cases lf with
            | false =>
              go_wp2_with fail
              refine (AWW.out _ (HE.out.trans0 X8.out)).mono ?_
              rintro e wz ⟨rfl, he⟩
              have EZ := Lib.hid he
              clear he
              go_wp2_with fail
              go_ret
              exact ⟨rfl, EZ.out⟩
            | true =>
              go_wp2_with fail
              refine (Add_calls (n := mm) (f := f) (FB.out.ext0 X8.out) (by have := GB.out.next; omega) (by have := GB.out.subs; omega) (HFR.out _ (by have := HGB.out; omega)) ⟨_, rfl, HRK.out.ext0 X8.out⟩ HOF.out (light_okK HLF.out)).mono ?_
              rintro e w9 ⟨rfl, hf9, he9⟩
              have FB9 := Lib.hid hf9
              have X9 := Lib.hid he9
              clear hf9 he9
              go_wp2_with fail
              go_roundw
              case rel =>
                refine ⟨j + 1, (addR mm Bd f).2, by go_num, by omega, (HE.out.trans0 X8.out).trans X9.out (fun i hi h => by have h' : i = gb := h; omega), Nat.lt_of_lt_of_le (Nat.lt_of_lt_of_le HGB.out hs8) X9.out.size, ?_, ?_, FB9.out, add_good GB.out HOF.out (light_okK HLF.out), ap_add INo.out (by rw [HS0.out]) GB.out.next.1 f⟩
                · exact X9.out.obj (X8.out.obj BZ.out (fun e => e)) (fun h => by have h' : z = gb := h; omega)
                · exact (FAo.out.ext0 X8.out).ext X9.out (fun j hj h => hj.2 h) (fun h => by have h' : ga = gb := h; omega)
              case measure => simp [intOf]; omega
          · obtain rfl : j = m1 := by omega
            go_wp2_with fail
            go_loopw [69] (fun i wr => ∃ (j : Nat) (A Bd : Fdr), i = .int .i64 (j : Int) ∧ j ≤ m2 ∧ Hid (Ext Non w wr) ∧ Hid (gb < wr.heap.size) ∧ Hid (wr.heap[z]? = some (.cells #[.int .i64 op, .string key, .string val, .slice A0 m0 c0] 24 (0, 0))) ∧ Hid (Fd n (fun j => j ≠ ga ∧ j ≠ gb) wr ga A) ∧ Hid (Fd n (fun j => j ≠ ga ∧ j ≠ gb) wr gb Bd) ∧ Hid (Good n A) ∧ Hid (Good n Bd) ∧ Hid (ApInv n (.mk op key val kids) A Bd)) (fun i _ => m2 - (intOf i).toNat)
            case atStart => exact ⟨0, S0.2, Bd, rfl, by omega, HE.out, HGB.out, BZ.out, FAo.out, FB.out, GS.out, GB.out, INo.out⟩
            case round =>
              obtain ⟨i, A, Bd, rfl, hi, HE, HGB, BZ, FA, FB, GA, GBd, IN⟩ := hrel
              by_cases hlt2 : i < m2
              · obtain ⟨x, hx⟩ : ∃ x, l[i]? = some x := ⟨_, List.getElem?_eq_getElem (by have := HM2.out; omega)⟩
                obtain ⟨gx, offx, B, bl, bd, C, ck, cf, rfl, hgx, hgxl, a0, a1, a2, a3, a4, a5, a6, a7, a8, a9, hu, hq⟩ := do_at (R2.out.ext0 HE.out) hx
                have HU := Lib.hid hu
                have HQ := Lib.hid hq
                have HCX := Lib.hid (HCO.out x (List.mem_of_getElem? hx))
                obtain ⟨p, hp⟩ : ∃ p, wr.heap.size = p := ⟨_, rfl⟩
                obtain ⟨w2, hw2⟩ : ∃ w2, wr.alloc (.cells #[.int .i64 x.op, .int .i64 x.step, .int .i64 x.id, .int .i64 x.pos, .int .i64 x.most, .slice B bl bd, .int .i64 x.q.op, .string x.q.key, .string x.q.val, .slice C ck cf] 36) = w2 := ⟨_, rfl⟩
                have EW2 : Hid (Ext Non wr w2) := by rw [← hw2]; exact (Ext.refl _ _).alloc _
                have BP1 : Hid (w2.heap[p]? = some (.cells #[.int .i64 x.op, .int .i64 x.step, .int .i64 x.id, .int .i64 x.pos, .int .i64 x.most, .slice B bl bd, .int .i64 x.q.op, .string x.q.key, .string x.q.val, .slice C ck cf] 36 (0, 0))) := by rw [← hw2, ← hp]; exact blk_new wr _
                have hpb : gb < p := by have := HGB.out; omega
                obtain ⟨t0, t1, t2, t3, t4, t5, t6, t7, t8, t9⟩ := doS BP1.out
                have hpl := blk_lt BP1.out
                have hdef : bits BinOp.and IntKind.i64 x.op 7 = opc x := rfl
                clear hu hq hx hgx
                by_cases c4 : opc x < 4
                · have F1 := Lib.hid (FA.out.ext0 EW2.out)
                  have HU1 := Lib.hid (HU.out.ext0 EW2.out)
                  have HQ1 := Lib.hid (HQ.out.ext0 EW2.out)
                  go_wp2_with fail
                  refine Last.start_ (S := fun W => W.cell? ⟨p, 0, none⟩ = some (.int .i64 x.op) ∧ W.cell? ⟨p, 1, none⟩ = some (.int .i64 x.step) ∧ W.cell? ⟨p, 2, none⟩ = some (.int .i64 x.id) ∧ W.cell? ⟨p, 3, none⟩ = some (.int .i64 x.pos) ∧ W.cell? ⟨p, 4, none⟩ = some (.int .i64 x.most) ∧ W.cell? ⟨p, 5, none⟩ = some (.slice B bl bd) ∧ W.cell? ⟨p, 6, none⟩ = some (.int .i64 x.q.op) ∧ W.cell? ⟨p, 7, none⟩ = some (.string x.q.key) ∧ W.cell? ⟨p, 8, none⟩ = some (.string x.q.val) ∧ W.cell? ⟨p, 9, none⟩ = some (.slice C ck cf)) (ds := []) #[false, false, false, false, false, false, false] (by kernel_rfl) (by rfl) (by rfl) (doS BP1.out) (fun hS => ?_)
                  refine Last.take_ (i := 0) (N := some 77) (v := .pointer (some ⟨ga, 0, none⟩)) #[true, false, false, false, false, false, false] (by simp only [List.getElem?_toArray, List.getElem?_cons_zero]; rfl) rfl (by kernel_rfl) (by exact fun _ _ _ h => h) (Or.inl ⟨by rfl, fun W hW => by first | rfl | (try dsimp only at hW); go_simp⟩) hS rfl ?_
                  simp only [Act.put, List.setIfInBounds_toArray, List.set_cons_zero, List.set_cons_succ]
                  refine Last.take_ (i := 1) (N := some 78) (v := .pointer (some ⟨ga, 0, none⟩)) #[true, true, false, false, false, false, false] (by simp only [List.getElem?_toArray, List.getElem?_cons_zero, List.getElem?_cons_succ]; rfl) rfl (by kernel_rfl) (by exact fun _ _ _ h => h) (Or.inl ⟨by rfl, fun W hW => by first | rfl | (try dsimp only at hW); go_simp⟩) hS rfl ?_
                  simp only [Act.put, List.setIfInBounds_toArray, List.set_cons_zero, List.set_cons_succ]
                  refine Last.take_ (i := 2) (N := some 79) (v := .agg #[.int .i64 x.op, .int .i64 x.step, .int .i64 x.id, .int .i64 x.pos, .int .i64 x.most, .slice B bl bd, .int .i64 x.q.op, .string x.q.key, .string x.q.val, .slice C ck cf]) #[true, true, true, false, false, false, false] (by simp only [List.getElem?_toArray, List.getElem?_cons_zero, List.getElem?_cons_succ]; rfl) rfl (by kernel_rfl) (by exact fun _ _ _ h => h) (Or.inl ⟨by rfl, fun W hW => by first | rfl | (try dsimp only at hW); go_simp⟩) hS rfl ?_
                  simp only [Act.put, List.setIfInBounds_toArray, List.set_cons_zero, List.set_cons_succ]
                  refine Last.take_ (i := 4) (N := some 81) (v := .pointer (some ⟨p, 5, none⟩)) #[true, true, true, false, true, false, false] (by simp only [List.getElem?_toArray, List.getElem?_cons_zero, List.getElem?_cons_succ]; rfl) rfl (by kernel_rfl) (by exact fun _ _ _ h => h) (Or.inl ⟨by rfl, fun W hW => by first | rfl | (try dsimp only at hW); go_simp⟩) hS rfl ?_
                  simp only [Act.put, List.setIfInBounds_toArray, List.set_cons_zero, List.set_cons_succ]
                  refine Last.take_ (i := 5) (N := some 82) (v := .slice B bl bd) #[true, true, true, false, true, true, false] (by simp only [List.getElem?_toArray, List.getElem?_cons_zero, List.getElem?_cons_succ]; rfl) rfl (by kernel_rfl) (by exact fun _ _ _ h => h) (Or.inl ⟨by rfl, fun W hW => by first | rfl | (try dsimp only at hW); go_simp⟩) hS rfl ?_
                  simp only [Act.put, List.setIfInBounds_toArray, List.set_cons_zero, List.set_cons_succ]
                  refine Last.one_ (i := 3) (N := some 80) #[true, true, true, true, true, true, false] (by simp only [List.getElem?_toArray, List.getElem?_cons_zero, List.getElem?_cons_succ]; rfl) rfl (by kernel_rfl) (by decide) (fun K hK => ?_)
                  refine Last.goes_ Try.func17 (by kernel_rfl) rfl #[.pointer (some ⟨ga, 0, none⟩), .agg #[.int .i64 x.op, .int .i64 x.step, .int .i64 x.id, .int .i64 x.pos, .int .i64 x.most, .slice B bl bd, .int .i64 x.q.op, .string x.q.key, .string x.q.val, .slice C ck cf]] (by rfl) rfl rfl (by simp [Act.eval]) ?_
                  refine (next_calls (k := x) (F1.out.ext0 (Ext.refl Non w2).drew) GA.out ⟨_, _, rfl, HU1.out.ext0 (Ext.refl Non _).drew, HQ1.out.ext0 (Ext.refl Non _).drew⟩).mono ?_
                  rintro e v1a ⟨rfl, he⟩
                  have Y1 : Hid (Ext Non w2 v1a) := (Ext.refl Non w2).drew.trans0 he
                  have BQ1 := Lib.hid (Y1.out.obj (g := p) BP1.out (fun e => e))
                  clear he
                  refine ⟨_, rfl, ?_⟩
                  refine hK.out _ _ (doS BQ1.out) (fun hS => ?_)
                  try simp only [Act.put, List.setIfInBounds_toArray, List.set_cons_zero, List.set_cons_succ]
                  refine Last.one_ (i := 6) (N := some 83) #[true, true, true, true, true, true, true] (by simp only [List.getElem?_toArray, List.getElem?_cons_zero, List.getElem?_cons_succ]; rfl) rfl (by kernel_rfl) (by decide) (fun K hK => ?_)
                  refine Last.goes_ Try.func16 (by kernel_rfl) rfl #[.pointer (some ⟨ga, 0, none⟩), .int .i64 (nextP A x), .slice B bl bd] (by rfl) rfl rfl (by simp [Act.eval]) ?_
                  refine (Note_calls (F1.out.ext0 Y1.out) (by have := GA.out.next; omega) (by have := GA.out.evs; omega) (by have := GA.out.subs; omega) (HFR.out _ (by have := Y1.out.size; omega)) (HU1.out.ext0 Y1.out) (fun h => by have h' : ga < w.heap.size := h; omega) (by have := HCX.out.len; omega) (nextP A x)).mono ?_
                  rintro e v1b ⟨rfl, hfN, heN⟩
                  have FN1 := Lib.hid hfN
                  have Z1 : Hid (Ext (Only ga) w2 v1b) := Y1.out.of0.trans heN (fun _ _ h => h)
                  have BR1 := Lib.hid (heN.obj BQ1.out (fun h => by have h' : p = ga := h; omega))
                  clear hfN heN
                  refine ⟨_, rfl, ?_⟩
                  refine hK.out _ _ (doS BR1.out) (fun hS => ?_)
                  try simp only [Act.put, List.setIfInBounds_toArray, List.set_cons_zero, List.set_cons_succ]
                  refine Last.done_ (by kernel_rfl) ?_
                  have EV1 : Hid (Ext Non w v1b) := (HE.out.trans0 EW2.out).trans Z1.out (fun i hi h => by have h' : i = ga := h; omega)
                  have HU2 := Lib.hid (HU1.out.ext Z1.out (fun k hk _ h => by have h' : k = ga := h; omega))
                  have HQ2 := Lib.hid (HQ1.out.ext Z1.out (fun k hk _ h => by have h' : k = ga := h; omega))
                  have F2 : Hid (Fd n (fun j => j ≠ ga ∧ j ≠ gb) v1b gb Bd) := (FB.out.ext0 EW2.out).ext Z1.out (fun j hj h => hj.1 h) (fun h => by have h' : gb = ga := h; omega)
                  have hv1 := Z1.out.size
                  have BP2 := Lib.hid BR1.out
                  clear t0 t1 t2 t3 t4 t5 t6 t7 t8 t9
                  obtain ⟨t0, t1, t2, t3, t4, t5, t6, t7, t8, t9⟩ := doS BP2.out
                  have hpl2 := blk_lt BP2.out
                  go_wp2_with fail
                  refine Last.start_ (S := fun W => W.cell? ⟨p, 0, none⟩ = some (.int .i64 x.op) ∧ W.cell? ⟨p, 1, none⟩ = some (.int .i64 x.step) ∧ W.cell? ⟨p, 2, none⟩ = some (.int .i64 x.id) ∧ W.cell? ⟨p, 3, none⟩ = some (.int .i64 x.pos) ∧ W.cell? ⟨p, 4, none⟩ = some (.int .i64 x.most) ∧ W.cell? ⟨p, 5, none⟩ = some (.slice B bl bd) ∧ W.cell? ⟨p, 6, none⟩ = some (.int .i64 x.q.op) ∧ W.cell? ⟨p, 7, none⟩ = some (.string x.q.key) ∧ W.cell? ⟨p, 8, none⟩ = some (.string x.q.val) ∧ W.cell? ⟨p, 9, none⟩ = some (.slice C ck cf)) (ds := []) #[false, false, false, false, false, false, false] (by kernel_rfl) (by rfl) (by rfl) (doS BP2.out) (fun hS => ?_)
                  refine Last.take_ (i := 0) (N := some 84) (v := .pointer (some ⟨gb, 0, none⟩)) #[true, false, false, false, false, false, false] (by simp only [List.getElem?_toArray, List.getElem?_cons_zero]; rfl) rfl (by kernel_rfl) (by exact fun _ _ _ h => h) (Or.inl ⟨by rfl, fun W hW => by first | rfl | (try dsimp only at hW); go_simp⟩) hS rfl ?_
                  simp only [Act.put, List.setIfInBounds_toArray, List.set_cons_zero, List.set_cons_succ]
                  refine Last.take_ (i := 1) (N := some 85) (v := .pointer (some ⟨gb, 0, none⟩)) #[true, true, false, false, false, false, false] (by simp only [List.getElem?_toArray, List.getElem?_cons_zero, List.getElem?_cons_succ]; rfl) rfl (by kernel_rfl) (by exact fun _ _ _ h => h) (Or.inl ⟨by rfl, fun W hW => by first | rfl | (try dsimp only at hW); go_simp⟩) hS rfl ?_
                  simp only [Act.put, List.setIfInBounds_toArray, List.set_cons_zero, List.set_cons_succ]
                  refine Last.take_ (i := 2) (N := some 86) (v := .agg #[.int .i64 x.op, .int .i64 x.step, .int .i64 x.id, .int .i64 x.pos, .int .i64 x.most, .slice B bl bd, .int .i64 x.q.op, .string x.q.key, .string x.q.val, .slice C ck cf]) #[true, true, true, false, false, false, false] (by simp only [List.getElem?_toArray, List.getElem?_cons_zero, List.getElem?_cons_succ]; rfl) rfl (by kernel_rfl) (by exact fun _ _ _ h => h) (Or.inl ⟨by rfl, fun W hW => by first | rfl | (try dsimp only at hW); go_simp⟩) hS rfl ?_
                  simp only [Act.put, List.setIfInBounds_toArray, List.set_cons_zero, List.set_cons_succ]
                  refine Last.take_ (i := 4) (N := some 88) (v := .pointer (some ⟨p, 5, none⟩)) #[true, true, true, false, true, false, false] (by simp only [List.getElem?_toArray, List.getElem?_cons_zero, List.getElem?_cons_succ]; rfl) rfl (by kernel_rfl) (by exact fun _ _ _ h => h) (Or.inl ⟨by rfl, fun W hW => by first | rfl | (try dsimp only at hW); go_simp⟩) hS rfl ?_
                  simp only [Act.put, List.setIfInBounds_toArray, List.set_cons_zero, List.set_cons_succ]
                  refine Last.take_ (i := 5) (N := some 89) (v := .slice B bl bd) #[true, true, true, false, true, true, false] (by simp only [List.getElem?_toArray, List.getElem?_cons_zero, List.getElem?_cons_succ]; rfl) rfl (by kernel_rfl) (by exact fun _ _ _ h => h) (Or.inl ⟨by rfl, fun W hW => by first | rfl | (try dsimp only at hW); go_simp⟩) hS rfl ?_
                  simp only [Act.put, List.setIfInBounds_toArray, List.set_cons_zero, List.set_cons_succ]
                  refine Last.one_ (i := 3) (N := some 87) #[true, true, true, true, true, true, false] (by simp only [List.getElem?_toArray, List.getElem?_cons_zero, List.getElem?_cons_succ]; rfl) rfl (by kernel_rfl) (by decide) (fun K hK => ?_)
                  refine Last.goes_ Try.func17 (by kernel_rfl) rfl #[.pointer (some ⟨gb, 0, none⟩), .agg #[.int .i64 x.op, .int .i64 x.step, .int .i64 x.id, .int .i64 x.pos, .int .i64 x.most, .slice B bl bd, .int .i64 x.q.op, .string x.q.key, .string x.q.val, .slice C ck cf]] (by rfl) rfl rfl (by simp [Act.eval]) ?_
                  refine (next_calls (k := x) (F2.out.ext0 (Ext.refl Non v1b).drew) GBd.out ⟨_, _, rfl, HU2.out.ext0 (Ext.refl Non _).drew, HQ2.out.ext0 (Ext.refl Non _).drew⟩).mono ?_
                  rintro e v2a ⟨rfl, he⟩
                  have Y2 : Hid (Ext Non v1b v2a) := (Ext.refl Non v1b).drew.trans0 he
                  have BQ2 := Lib.hid (Y2.out.obj (g := p) BP2.out (fun e => e))
                  clear he
                  refine ⟨_, rfl, ?_⟩
                  refine hK.out _ _ (doS BQ2.out) (fun hS => ?_)
                  try simp only [Act.put, List.setIfInBounds_toArray, List.set_cons_zero, List.set_cons_succ]
                  refine Last.one_ (i := 6) (N := some 90) #[true, true, true, true, true, true, true] (by simp only [List.getElem?_toArray, List.getElem?_cons_zero, List.getElem?_cons_succ]; rfl) rfl (by kernel_rfl) (by decide) (fun K hK => ?_)
                  refine Last.goes_ Try.func16 (by kernel_rfl) rfl #[.pointer (some ⟨gb, 0, none⟩), .int .i64 (nextP Bd x), .slice B bl bd] (by rfl) rfl rfl (by simp [Act.eval]) ?_
                  refine (Note_calls (F2.out.ext0 Y2.out) (by have := GBd.out.next; omega) (by have := GBd.out.evs; omega) (by have := GBd.out.subs; omega) (HFR.out _ (by have := Y2.out.size; omega)) (HU2.out.ext0 Y2.out) (fun h => by have h' : gb < w.heap.size := h; omega) (by have := HCX.out.len; omega) (nextP Bd x)).mono ?_
                  rintro e v2b ⟨rfl, hfN, heN⟩
                  have FN2 := Lib.hid hfN
                  have Z2 : Hid (Ext (Only gb) v1b v2b) := Y2.out.of0.trans heN (fun _ _ h => h)
                  have BR2 := Lib.hid (heN.obj BQ2.out (fun h => by have h' : p = gb := h; omega))
                  clear hfN heN
                  refine ⟨_, rfl, ?_⟩
                  refine hK.out _ _ (doS BR2.out) (fun hS => ?_)
                  try simp only [Act.put, List.setIfInBounds_toArray, List.set_cons_zero, List.set_cons_succ]
                  refine Last.done_ (by kernel_rfl) ?_
                  have hpos : nextP Bd x = nextP A x := by unfold nextP; rw [IN.out.1]
                  have FN : Hid (Fd n (fun j => j ≠ ga ∧ j ≠ gb) v2b gb (noteR Bd (nextP A x) x.evs).2) := by rw [← hpos]; exact FN2.out
                  have FM : Hid (Fd n (fun j => j ≠ ga ∧ j ≠ gb) v2b ga (noteR A (nextP A x) x.evs).2) := FN1.out.ext Z2.out (fun j hj h => hj.2 h) (fun h => by have h' : ga = gb := h; omega)
                  have EV2 : Hid (Ext Non w v2b) := EV1.out.trans Z2.out (fun i hi h => by have h' : i = gb := h; omega)
                  have hv2 := Z2.out.size
                  have BZ9 : Hid (v2b.heap[z]? = some (.cells #[.int .i64 op, .string key, .string val, .slice A0 m0 c0] 24 (0, 0))) := Z2.out.obj (Z1.out.obj (EW2.out.obj BZ.out (fun e => e)) (fun h => by have h' : z = ga := h; omega)) (fun h => by have h' : z = gb := h; omega)
                  clear hpos
                  go_wp2_with fail
                  go_roundw
                  case rel => exact ⟨i + 1, _, _, by go_num, by omega, EV2.out, by show gb < _; omega, BZ9.out, FM.out, FN.out, note_good GA.out HCX.out.now, note_good GBd.out HCX.out.now, ap_note IN.out _ _⟩
                  case measure => simp [intOf]; omega
                · go_wp2_with fail
                  go_roundw
                  case rel => exact ⟨i + 1, A, Bd, by go_num, by omega, HE.out.trans0 EW2.out, by have := HGB.out; show gb < _; omega, EW2.out.obj BZ.out (fun e => e), FA.out.ext0 EW2.out, FB.out.ext0 EW2.out, GA.out, GBd.out, IN.out⟩
                  case measure => simp [intOf]; omega
              · obtain rfl : i = m2 := by omega
                obtain ⟨hre, hre0⟩ := ap_read IN.out most
                rw [HS0.out] at hre hre0
                obtain ⟨rr, hrr⟩ : ∃ rr, readR n A S0.1.1 0 most = rr := ⟨_, rfl⟩
                have HRA : Hid (readR n A S0.1.1 0 most = rr) := hrr
                have HRB : Hid (readR n Bd S0.1.1 0 most = rr) := hre.symm.trans hrr
                have HR0 : Hid (rr.2.2 = 0 → checkE (n + 1) (.mk op key val kids) = 0) := by rw [← hrr]; exact hre0
                obtain ⟨⟨s1, s2⟩, s3⟩ := S0
                obtain ⟨ro, ru, re⟩ := rr
                clear hre hre0 hrr
                go_wp2_with fail
                refine (Read_calls FA.out (by have := GA.out.next; omega) GA.out.now (by have := GA.out.evs; omega) (fun s hs => (GA.out.q s hs).1) s1 0 most).mono ?_
                rintro e y1 ⟨Bx, mx, dx, rfl, hox, hex⟩
                rw [HRA.out] at hox ⊢
                have OX := Lib.hid hox.rd
                have EY1 := Lib.hid hex
                clear hox hex
                go_wp2_with fail
                refine (Read_calls (FB.out.ext0 EY1.out) (by have := GBd.out.next; omega) GBd.out.now (by have := GBd.out.evs; omega) (fun s hs => (GBd.out.q s hs).1) s1 0 most).mono ?_
                rintro e y2 ⟨By, my, dy, rfl, hoy, hey⟩
                rw [HRB.out] at hoy ⊢
                have OY := Lib.hid hoy.rd
                have EY2 : Hid (Ext Non w y2) := (HE.out.trans0 EY1.out).trans0 hey
                have OX2 := Lib.hid (OX.out.ext0 hey)
                have BZY : Hid (y2.heap[z]? = some (.cells #[.int .i64 op, .string key, .string val, .slice A0 m0 c0] 24 (0, 0))) := hey.obj (EY1.out.obj BZ.out (fun e => e)) (fun e => e)
                clear hoy hey
                go_wp2_with fail
                refine (EqualE_calls OX2.out OY.out).mono ?_
                rintro e y3 ⟨rfl, he⟩
                have EY3 : Hid (Ext Non w y3) := EY2.out.trans0 he
                have BZ3' : Hid (y3.heap[z]? = some (.cells #[.int .i64 op, .string key, .string val, .slice A0 m0 c0] 24 (0, 0))) := he.obj BZY.out (fun e => e)
                have k0 := blk_cell BZ3'.out 0
                have k1 := blk_cell BZ3'.out 1
                have k2 := blk_cell BZ3'.out 2
                have k3 := blk_cell BZ3'.out 3
                have hzy := blk_lt BZ3'.out
                clear he
                by_cases h0 : re = 0
                · subst h0
                  have hck := HR0.out rfl
                  have HRC : Hid (Calls Try.prog 20 #[.agg #[.int .i64 op, .string key, .string val, .slice A0 m0 c0]] y3 fun e w' => e = .returned (.int .i64 0) ∧ Ext Non y3 w') := by
                    have := RCheck_calls (n := n) (f := .mk op key val kids) ⟨_, rfl, HV0.out.ext0 EY3.out⟩ (chk_okL _ _ _ _ hck HQ0.out HKQ.out)
                    rw [hck] at this
                    exact this
                  clear hck
                  go_wp2_with fail
                  refine HRC.out.mono ?_
                  rintro e y4 ⟨rfl, he⟩
                  have EY4 : Hid (Ext Non w y4) := EY3.out.trans0 he
                  clear he
                  go_wp2_with fail
                  refine (AWW.out _ EY4.out).mono ?_
                  rintro e wz ⟨rfl, he⟩
                  have EZ := Lib.hid he
                  clear he
                  go_wp2_with fail
                  go_ret
                  exact ⟨rfl, EZ.out⟩
                · have hb0 : (re == 0) = false := beq_eq_false_iff_ne.2 h0
                  go_wp2_with fail
                  refine (AWW.out _ EY3.out).mono ?_
                  rintro e wz ⟨rfl, he⟩
                  have EZ := Lib.hid he
                  clear he
                  go_wp2_with fail
                  go_ret
                  exact ⟨rfl, EZ.out⟩
end Go.Proofs.Ytdjfijdnhfmeeaa
