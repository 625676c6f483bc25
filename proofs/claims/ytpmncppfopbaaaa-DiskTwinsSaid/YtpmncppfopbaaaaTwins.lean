/- DiskTwins. -/
import Derived.Test.YtpmncppfopbaaaaD1
namespace Go.Proofs.Ytpmncppfopbaaaa
open Go.RowKit Go.TM

set_option maxHeartbeats 4000000 in
set_option maxRecDepth 100000 in
theorem twins_calls {w : World} {ok ok1 ok2 : Nat → Prop} {A A1 A2 : Option Addr} {n n1 n2 c c1 c2 : Nat} {l one two : List TM.Call} (R : Rd callK w ok (.slice A n c) l) (hok : ∀ k ∈ l, k.Ok)
    (R1 : Rd callK w ok1 (.slice A1 n1 c1) one) (hok1 : ∀ k ∈ one, k.Ok) (R2 : Rd callK w ok2 (.slice A2 n2 c2) two) (hok2 : ∀ k ∈ two, k.Ok) :
    Calls Try.prog 10 #[.slice A n c, .slice A1 n1 c1, .slice A2 n2 c2] w fun e w' => e = .returned (.bool true) ∧ Ext Non w w' := by
  have HR := Lib.hid R
  have HR1 := Lib.hid R1
  have HR2 := Lib.hid R2
  have HO := Lib.hid hok
  have HO1 := Lib.hid hok1
  have HO2 := Lib.hid hok2
  obtain ⟨hn1, -⟩ := rd_len R1
  obtain ⟨hn2, -⟩ := rd_len R2
  have HN1 := Lib.hid hn1
  have HN2 := Lib.hid hn2
  clear R R1 R2 hok hok1 hok2 hn1 hn2
  go_enter Try.func10, Try.ntmps10
  go_wp2_with fail
  refine (short_calls HR.out).mono ?_
  rintro e w1 ⟨s, rfl, rfl, hb⟩
  cases s with
  | false =>
    clear hb
    go_wp2_with fail
    refine (awake_calls _).mono ?_
    rintro e w2 ⟨rfl, he⟩
    have E2 := Lib.hid he
    clear he
    go_wp2_with fail
    go_ret
    exact ⟨rfl, E2.out⟩
  | true =>
    have HS := Lib.hid (hb rfl)
    clear hb
    go_wp2_with fail
    refine (short_calls HR1.out).mono ?_
    rintro e w1 ⟨s, rfl, rfl, hb⟩
    cases s with
    | false =>
      clear hb
      go_wp2_with fail
      refine (awake_calls _).mono ?_
      rintro e w2 ⟨rfl, he⟩
      have E2 := Lib.hid he
      clear he
      go_wp2_with fail
      go_ret
      exact ⟨rfl, E2.out⟩
    | true =>
      have HS1 := Lib.hid (hb rfl)
      clear hb
      go_wp2_with fail
      refine (short_calls HR2.out).mono ?_
      rintro e w1 ⟨s, rfl, rfl, hb⟩
      cases s with
      | false =>
        clear hb
        go_wp2_with fail
        refine (awake_calls _).mono ?_
        rintro e w2 ⟨rfl, he⟩
        have E2 := Lib.hid he
        clear he
        go_wp2_with fail
        go_ret
        exact ⟨rfl, E2.out⟩
      | true =>
        have HS2 := Lib.hid (hb rfl)
        clear hb
        have q1 : (n1 : Int) ≤ 1000 := by have := HS1.out.1; have := HN1.out; omega
        have q2 : (n2 : Int) ≤ 1000 := by have := HS2.out.1; have := HN2.out; omega
        obtain ⟨DA, hDA⟩ : ∃ DA, DA = (Dk.new 16777216).run l := ⟨_, rfl⟩
        have HDA := Lib.hid hDA
        have HGA : Hid DA.Good := by rw [hDA]; exact fine_good (fine_of HS.out HO.out)
        have HWA : Hid (DA.wait.length ≤ 1000) := by rw [hDA]; exact made_wait _ l (by have := HS.out.1; omega)
        clear hDA
        go_wp2_with fail
        refine (made_calls HR.out (fine_of HS.out HO.out) 16777216 (by omega) (by omega)).mono ?_
        rintro e w1 ⟨ga, rfl, hg0, hg1, hl, he⟩
        rw [← HDA.out] at hl
        have HA0 := Lib.hid (hl.at_.sub (ok' := fun k => k ≠ ga ∧ k < w1.heap.size) (fun k hk h => ⟨hk.2, h⟩))
        have E1 := Lib.hid he
        have HGA0 := Lib.hid hg0
        have GA1 := Lib.hid hg1
        clear hg0 hg1 hl he
        go_wp2_with fail
        refine (Clone_calls HA0.out).mono ?_
        rintro e w2 ⟨rfl, hd, he, hz⟩
        obtain ⟨gb, hgb⟩ : ∃ gb, gb = w1.heap.size := ⟨_, rfl⟩
        rw [← hgb] at hd ⊢
        have HB0 := Lib.hid hd
        have HA1 := Lib.hid (HA0.out.ext he)
        have E2 := Lib.hid (E1.out.trans0 he)
        have GB1 : Hid (gb < w2.heap.size) := by show _ < _; omega
        have GAB : Hid (ga < gb) := by have := GA1.out; show _ < _; omega
        have HGBe := Lib.hid hgb
        clear hd he hz hgb
        go_wp2_with fail
        refine (cloneD_calls (HR.out.ext0 E2.out) (by have := HS.out.1; omega)).mono ?_
        rintro e w3 ⟨AcX, ncX, ccX, rfl, ho, he⟩
        have ECX := he
        have OCX := ho
        clear ho he
        go_wp2_with (at_builtin; refine app_dos (w0 := w2) (xs := l) rfl _ _ rfl rfl rfl OCX.out ECX.out (HR1.out.ext0 E2.out) (by have := HS.out.1; have := HS1.out.1; omega) ?_; intro AlX nlX clX w4 hlX OLX ELX)
        have EMX := Lib.hid (E2.out.trans0 ELX.out)
        refine (made_calls OLX.out.rd (fine_append HS.out HS1.out HO.out HO1.out) 16777216 (by omega) (by omega)).mono ?_
        rintro e w5 ⟨gX, rfl, hg0, hg1, hl, he⟩
        rw [Dk.run_append, ← HDA.out] at hl
        have HGDX := Lib.hid hl.good
        have HWDX := Lib.hid hl.wl
        have HX0 := Lib.hid (hl.at_.sub (ok' := fun k => w4.heap.size ≤ k ∧ k ≠ gX ∧ k < w5.heap.size) (fun k hk h => ⟨hk.1, hk.2, h⟩))
        have ETX := Lib.hid (ELX.out.trans0 he)
        have EX := Lib.hid (EMX.out.trans0 he)
        have GX0 := Lib.hid hg0
        have GX1 := Lib.hid hg1
        have ZX := Lib.hid ELX.out.size
        clear hg0 hg1 hl he hlX OCX ECX ELX EMX OLX
        go_wp2_with fail
        refine (cloneD_calls (HR.out.ext0 EX.out) (by have := HS.out.1; omega)).mono ?_
        rintro e w6 ⟨AcY, ncY, ccY, rfl, ho, he⟩
        have ECY := he
        have OCY := ho
        clear ho he
        go_wp2_with (at_builtin; refine app_dos (w0 := w5) (xs := l) rfl _ _ rfl rfl rfl OCY.out ECY.out (HR2.out.ext0 EX.out) (by have := HS.out.1; have := HS2.out.1; omega) ?_; intro AlY nlY clY w7 hlY OLY ELY)
        have EMY := Lib.hid (EX.out.trans0 ELY.out)
        refine (made_calls OLY.out.rd (fine_append HS.out HS2.out HO.out HO2.out) 16777216 (by omega) (by omega)).mono ?_
        rintro e w8 ⟨gY, rfl, hg0, hg1, hl, he⟩
        rw [Dk.run_append, ← HDA.out] at hl
        have HGDY := Lib.hid hl.good
        have HWDY := Lib.hid hl.wl
        have HY0 := Lib.hid (hl.at_.sub (ok' := fun k => w7.heap.size ≤ k ∧ k ≠ gY ∧ k < w8.heap.size) (fun k hk h => ⟨hk.1, hk.2, h⟩))
        have ETY := Lib.hid (ELY.out.trans0 he)
        have EY := Lib.hid (EMY.out.trans0 he)
        have GY0 := Lib.hid hg0
        have GY1 := Lib.hid hg1
        have ZY := Lib.hid ELY.out.size
        clear hg0 hg1 hl he hlY OCY ECY ELY EMY OLY
        have GAX : Hid (gb < gX) := by have := GB1.out; have := ZX.out; have := GX0.out; show _ < _; omega
        have GXY : Hid (gX < gY) := by have := GX1.out; have := ZY.out; have := GY0.out; show _ < _; omega
        have HNE : Hid (w.heap.size ≤ ga ∧ w.heap.size ≤ gb ∧ w.heap.size ≤ gX ∧ w.heap.size ≤ gY) := by have := HGA0.out; have := GAB.out; have := GAX.out; have := GXY.out; exact ⟨by omega, by omega, by omega, by omega⟩
        have hda : Hid (DiskAt w8 (fun k => k ≠ ga ∧ k < w1.heap.size) ga DA) := (HA1.out.ext ETX.out).ext ETY.out
        have hdb : Hid (DiskAt w8 (fun k => k ≠ ga ∧ k < gb) gb DA) := (HB0.out.ext ETX.out).ext ETY.out
        have hdx : Hid (DiskAt w8 (fun k => w4.heap.size ≤ k ∧ k ≠ gX ∧ k < w5.heap.size) gX (DA.run one)) := HX0.out.ext ETY.out
        have LA0 : Hid (Live w8 (Free ga gb gX gY) ga DA) := Live.of hda.out HGA.out (by have := HWA.out; omega) (fun k hk _ => by have := GAB.out; have := GAX.out; have := GXY.out; have := HGBe.out; exact ⟨by omega, by omega, by omega, by omega⟩) (fun k hk => by have := GAB.out; have := GAX.out; have := GXY.out; have := GY1.out; exact ⟨by omega, by omega, by omega, by omega⟩) (fun h => h.1 rfl)
        have LB0 : Hid (Live w8 (Free ga gb gX gY) gb DA) := Live.of hdb.out HGA.out (by have := HWA.out; omega) (fun k hk _ => by have := GAB.out; have := GAX.out; have := GXY.out; have := HGBe.out; exact ⟨by omega, by omega, by omega, by omega⟩) (fun k hk => by have := GAB.out; have := GAX.out; have := GXY.out; have := GY1.out; exact ⟨by omega, by omega, by omega, by omega⟩) (fun h => h.2.1 rfl)
        have LX0 : Hid (Live w8 (Free ga gb gX gY) gX (DA.run one)) := Live.of hdx.out HGDX.out HWDX.out (fun k hk _ => by have := GAB.out; have := GB1.out; have := GXY.out; have := ZX.out; have := GX0.out; have := ZY.out; have := GY0.out; exact ⟨by omega, by omega, by omega, by omega⟩) (fun k hk => by have := GAB.out; have := GAX.out; have := GXY.out; have := GY1.out; exact ⟨by omega, by omega, by omega, by omega⟩) (fun h => h.2.2.1 rfl)
        have LY0 : Hid (Live w8 (Free ga gb gX gY) gY (DA.run two)) := Live.of HY0.out HGDY.out HWDY.out (fun k hk _ => by have := GAB.out; have := GAX.out; have := GX1.out; have := ZY.out; have := GY0.out; exact ⟨by omega, by omega, by omega, by omega⟩) (fun k hk => by have := GAB.out; have := GAX.out; have := GXY.out; have := GY1.out; exact ⟨by omega, by omega, by omega, by omega⟩) (fun h => h.2.2.2 rfl)
        have NAB : Hid (gb ≠ ga ∧ ¬ Free ga gb gX gY ga) := by have := GAB.out; exact ⟨by omega, fun h => h.1 rfl⟩
        have NAX : Hid (gX ≠ ga ∧ ¬ Free ga gb gX gY ga) := by have := GAB.out; have := GAX.out; exact ⟨by omega, fun h => h.1 rfl⟩
        have NAY : Hid (gY ≠ ga ∧ ¬ Free ga gb gX gY ga) := by have := GAB.out; have := GAX.out; have := GXY.out; exact ⟨by omega, fun h => h.1 rfl⟩
        have NBA : Hid (ga ≠ gb ∧ ¬ Free ga gb gX gY gb) := by have := GAB.out; exact ⟨by omega, fun h => h.2.1 rfl⟩
        have NBX : Hid (gX ≠ gb ∧ ¬ Free ga gb gX gY gb) := by have := GAX.out; exact ⟨by omega, fun h => h.2.1 rfl⟩
        have NBY : Hid (gY ≠ gb ∧ ¬ Free ga gb gX gY gb) := by have := GAX.out; have := GXY.out; exact ⟨by omega, fun h => h.2.1 rfl⟩
        have HGa : Hid (w.heap.size ≤ ga) := HNE.out.1
        have HGb : Hid (w.heap.size ≤ gb) := HNE.out.2.1
        have HGX : Hid (w.heap.size ≤ gX) := HNE.out.2.2.1
        have HGY : Hid (w.heap.size ≤ gY) := HNE.out.2.2.2
        clear hda hdb hdx HA1 HB0 HX0 HY0 HA0
        go_upto_region 7 with fail
        go_cut [52, 53] (fun s52 s53 wx => ∃ m : Nat, s52 = .int .i64 (m : Int) ∧ s53 = .int .i64 0 ∧ m = max n1 n2 ∧ w8 = wx)
        case first =>
          go_wp2_with fail
          all_goals
            go_meet
            first
              | exact ⟨n1, rfl, rfl, by omega, rfl⟩
              | exact ⟨n2, rfl, rfl, by omega, rfl⟩
        obtain ⟨m, rfl, rfl, hm, rfl⟩ := hcut
        have HM := Lib.hid hm
        have q3 : (m : Int) ≤ 1000 := by omega
        clear hm
        go_wp2_with fail
        go_loopw [53] (fun i wr => ∃ j : Nat, i = .int .i64 j ∧ j ≤ m ∧ Hid (Live wr (Free ga gb gX gY) ga (DA.run (one.take j))) ∧ Hid (Live wr (Free ga gb gX gY) gb (DA.run (two.take j))) ∧ Hid (Live wr (Free ga gb gX gY) gX (DA.run one)) ∧ Hid (Live wr (Free ga gb gX gY) gY (DA.run two)) ∧ Hid (Ext Non w wr)) (fun i _ => m - (intOf i).toNat)
        case atStart => exact ⟨0, rfl, by omega, LA0.out, LB0.out, LX0.out, LY0.out, EY.out⟩
        case round =>
          obtain ⟨j, rfl, hj, LA, LB, LX, LY, HEr⟩ := hrel
          by_cases hlt : j < m
          case neg =>
            obtain rfl : j = m := by omega
            have LA : Hid (Live wr (Free ga gb gX gY) ga (DA.run one)) := by
              have := LA.out
              rw [List.take_of_length_le (by have := HM.out; have := HN1.out; omega)] at this
              exact this
            have LB : Hid (Live wr (Free ga gb gX gY) gb (DA.run two)) := by
              have := LB.out
              rw [List.take_of_length_le (by have := HM.out; have := HN2.out; omega)] at this
              exact this
            obtain ⟨P, fp, hF⟩ : ∃ P fp, (DA.run one).face = (P, fp) := ⟨_, _, rfl⟩
            obtain ⟨Q, fq, hQ⟩ : ∃ P fp, (DA.run two).face = (P, fp) := ⟨_, _, rfl⟩
            have FP := Lib.hid hF
            have FQ := Lib.hid hQ
            generalize DA.run one = D1 at LA LX FP
            generalize DA.run two = D2 at LB LY FQ
            clear hF hQ hlt
            go_wp2_with fail
            have HGF0a := Lib.hid LA.out.lt
            have HGF0b := Lib.hid LB.out.lt
            have HGF0X := Lib.hid LX.out.lt
            have HGF0Y := Lib.hid LY.out.lt
            refine (face_go LA.out FP.out).mono ?_
            rintro e w21 ⟨A0_0, n0_0, c0_0, A1_0, n1_0, c1_0, A2_0, n2_0, c2_0, rfl, hr, he⟩
            have E21 := Lib.hid (HEr.out.trans0 he.out)
            have HLa21 := Lib.hid (LA.out.ext he.out)
            have HLb21 := Lib.hid (LB.out.ext he.out)
            have HLX21 := Lib.hid (LX.out.ext he.out)
            have HLY21 := Lib.hid (LY.out.ext he.out)
            have hzf := he.out.size
            obtain ⟨VF0, hV⟩ : ∃ V, w21.alloc (.cells #[.slice A0_0 n0_0 c0_0, .slice A1_0 n1_0 c1_0, .slice A2_0 n2_0 c2_0] 31) = V := ⟨_, rfl⟩
            have eV : Ext Non w21 VF0 := by rw [← hV]; exact (Ext.refl Non w21).alloc _
            have BVF0 := Lib.hid (heap_alloc_new w21 (.cells #[.slice A0_0 n0_0 c0_0, .slice A1_0 n1_0 c1_0, .slice A2_0 n2_0 c2_0] 31))
            rw [hV] at BVF0
            have HVF0 := Lib.hid hV
            have EVF0 := Lib.hid eV
            clear hV eV
            have HGLF0a := Lib.hid HLa21.out.lt
            have HGLF0b := Lib.hid HLb21.out.lt
            have HGLF0X := Lib.hid HLX21.out.lt
            have HGLF0Y := Lib.hid HLY21.out.lt
            have P0 := Lib.hid (And.intro (hr.out.1.ext0 EVF0.out) (And.intro (hr.out.2.1.ext0 EVF0.out) (hr.out.2.2.ext0 EVF0.out)))
            clear hr he hzf
            go_wp2_with fail
            rw [HVF0.out]
            have E22 := Lib.hid (E21.out.trans0 EVF0.out)
            have HLa22 := Lib.hid (HLa21.out.ext EVF0.out)
            have HLb22 := Lib.hid (HLb21.out.ext EVF0.out)
            have HLX22 := Lib.hid (HLX21.out.ext EVF0.out)
            have HLY22 := Lib.hid (HLY21.out.ext EVF0.out)
            have XF0_22 : Hid (Ext (Four ga gb gX gY) VF0 VF0) := Ext.refl _ _
            have HGF1a := Lib.hid HLa22.out.lt
            have HGF1b := Lib.hid HLb22.out.lt
            have HGF1X := Lib.hid HLX22.out.lt
            have HGF1Y := Lib.hid HLY22.out.lt
            refine (face_go HLX22.out FP.out).mono ?_
            rintro e w23 ⟨A0_1, n0_1, c0_1, A1_1, n1_1, c1_1, A2_1, n2_1, c2_1, rfl, hr, he⟩
            have E23 := Lib.hid (E22.out.trans0 he.out)
            have HLa23 := Lib.hid (HLa22.out.ext he.out)
            have HLb23 := Lib.hid (HLb22.out.ext he.out)
            have HLX23 := Lib.hid (HLX22.out.ext he.out)
            have HLY23 := Lib.hid (HLY22.out.ext he.out)
            have XF0_23 := Lib.hid (XF0_22.out.trans0 he.out)
            have hzf := he.out.size
            obtain ⟨VF1, hV⟩ : ∃ V, w23.alloc (.cells #[.slice A0_1 n0_1 c0_1, .slice A1_1 n1_1 c1_1, .slice A2_1 n2_1 c2_1] 31) = V := ⟨_, rfl⟩
            have eV : Ext Non w23 VF1 := by rw [← hV]; exact (Ext.refl Non w23).alloc _
            have BVF1 := Lib.hid (heap_alloc_new w23 (.cells #[.slice A0_1 n0_1 c0_1, .slice A1_1 n1_1 c1_1, .slice A2_1 n2_1 c2_1] 31))
            rw [hV] at BVF1
            have HVF1 := Lib.hid hV
            have EVF1 := Lib.hid eV
            clear hV eV
            have HGLF1a := Lib.hid HLa23.out.lt
            have HGLF1b := Lib.hid HLb23.out.lt
            have HGLF1X := Lib.hid HLX23.out.lt
            have HGLF1Y := Lib.hid HLY23.out.lt
            have P1 := Lib.hid (And.intro (hr.out.1.ext0 EVF1.out) (And.intro (hr.out.2.1.ext0 EVF1.out) (hr.out.2.2.ext0 EVF1.out)))
            clear hr he hzf
            go_wp2_with fail
            rw [HVF1.out]
            have E24 := Lib.hid (E23.out.trans0 EVF1.out)
            have HLa24 := Lib.hid (HLa23.out.ext EVF1.out)
            have HLb24 := Lib.hid (HLb23.out.ext EVF1.out)
            have HLX24 := Lib.hid (HLX23.out.ext EVF1.out)
            have HLY24 := Lib.hid (HLY23.out.ext EVF1.out)
            have XF0_24 := Lib.hid (XF0_23.out.trans0 EVF1.out)
            have XF1_24 : Hid (Ext (Four ga gb gX gY) VF1 VF1) := Ext.refl _ _
            have HGF2a := Lib.hid HLa24.out.lt
            have HGF2b := Lib.hid HLb24.out.lt
            have HGF2X := Lib.hid HLX24.out.lt
            have HGF2Y := Lib.hid HLY24.out.lt
            refine (face_go HLb24.out FQ.out).mono ?_
            rintro e w25 ⟨A0_2, n0_2, c0_2, A1_2, n1_2, c1_2, A2_2, n2_2, c2_2, rfl, hr, he⟩
            have E25 := Lib.hid (E24.out.trans0 he.out)
            have HLa25 := Lib.hid (HLa24.out.ext he.out)
            have HLb25 := Lib.hid (HLb24.out.ext he.out)
            have HLX25 := Lib.hid (HLX24.out.ext he.out)
            have HLY25 := Lib.hid (HLY24.out.ext he.out)
            have XF0_25 := Lib.hid (XF0_24.out.trans0 he.out)
            have XF1_25 := Lib.hid (XF1_24.out.trans0 he.out)
            have hzf := he.out.size
            obtain ⟨VF2, hV⟩ : ∃ V, w25.alloc (.cells #[.slice A0_2 n0_2 c0_2, .slice A1_2 n1_2 c1_2, .slice A2_2 n2_2 c2_2] 31) = V := ⟨_, rfl⟩
            have eV : Ext Non w25 VF2 := by rw [← hV]; exact (Ext.refl Non w25).alloc _
            have BVF2 := Lib.hid (heap_alloc_new w25 (.cells #[.slice A0_2 n0_2 c0_2, .slice A1_2 n1_2 c1_2, .slice A2_2 n2_2 c2_2] 31))
            rw [hV] at BVF2
            have HVF2 := Lib.hid hV
            have EVF2 := Lib.hid eV
            clear hV eV
            have HGLF2a := Lib.hid HLa25.out.lt
            have HGLF2b := Lib.hid HLb25.out.lt
            have HGLF2X := Lib.hid HLX25.out.lt
            have HGLF2Y := Lib.hid HLY25.out.lt
            have P2 := Lib.hid (And.intro (hr.out.1.ext0 EVF2.out) (And.intro (hr.out.2.1.ext0 EVF2.out) (hr.out.2.2.ext0 EVF2.out)))
            clear hr he hzf
            go_wp2_with fail
            rw [HVF2.out]
            have E26 := Lib.hid (E25.out.trans0 EVF2.out)
            have HLa26 := Lib.hid (HLa25.out.ext EVF2.out)
            have HLb26 := Lib.hid (HLb25.out.ext EVF2.out)
            have HLX26 := Lib.hid (HLX25.out.ext EVF2.out)
            have HLY26 := Lib.hid (HLY25.out.ext EVF2.out)
            have XF0_26 := Lib.hid (XF0_25.out.trans0 EVF2.out)
            have XF1_26 := Lib.hid (XF1_25.out.trans0 EVF2.out)
            have XF2_26 : Hid (Ext (Four ga gb gX gY) VF2 VF2) := Ext.refl _ _
            have HGF3a := Lib.hid HLa26.out.lt
            have HGF3b := Lib.hid HLb26.out.lt
            have HGF3X := Lib.hid HLX26.out.lt
            have HGF3Y := Lib.hid HLY26.out.lt
            refine (face_go HLY26.out FQ.out).mono ?_
            rintro e w27 ⟨A0_3, n0_3, c0_3, A1_3, n1_3, c1_3, A2_3, n2_3, c2_3, rfl, hr, he⟩
            have E27 := Lib.hid (E26.out.trans0 he.out)
            have HLa27 := Lib.hid (HLa26.out.ext he.out)
            have HLb27 := Lib.hid (HLb26.out.ext he.out)
            have HLX27 := Lib.hid (HLX26.out.ext he.out)
            have HLY27 := Lib.hid (HLY26.out.ext he.out)
            have XF0_27 := Lib.hid (XF0_26.out.trans0 he.out)
            have XF1_27 := Lib.hid (XF1_26.out.trans0 he.out)
            have XF2_27 := Lib.hid (XF2_26.out.trans0 he.out)
            have hzf := he.out.size
            obtain ⟨VF3, hV⟩ : ∃ V, w27.alloc (.cells #[.slice A0_3 n0_3 c0_3, .slice A1_3 n1_3 c1_3, .slice A2_3 n2_3 c2_3] 31) = V := ⟨_, rfl⟩
            have eV : Ext Non w27 VF3 := by rw [← hV]; exact (Ext.refl Non w27).alloc _
            have BVF3 := Lib.hid (heap_alloc_new w27 (.cells #[.slice A0_3 n0_3 c0_3, .slice A1_3 n1_3 c1_3, .slice A2_3 n2_3 c2_3] 31))
            rw [hV] at BVF3
            have HVF3 := Lib.hid hV
            have EVF3 := Lib.hid eV
            clear hV eV
            have HGLF3a := Lib.hid HLa27.out.lt
            have HGLF3b := Lib.hid HLb27.out.lt
            have HGLF3X := Lib.hid HLX27.out.lt
            have HGLF3Y := Lib.hid HLY27.out.lt
            have P3 := Lib.hid (And.intro (hr.out.1.ext0 EVF3.out) (And.intro (hr.out.2.1.ext0 EVF3.out) (hr.out.2.2.ext0 EVF3.out)))
            clear hr he hzf
            have bF0 := XF0_27.out.obj BVF0.out (fun e => by have e1 : w21.heap.size = ga ∨ w21.heap.size = gb ∨ w21.heap.size = gX ∨ w21.heap.size = gY := e; have := HGLF0a.out; have := HGLF0b.out; have := HGLF0X.out; have := HGLF0Y.out; omega)
            have fF0_0 : w27.cell? ⟨w21.heap.size, 0, none⟩ = some (.slice A0_0 n0_0 c0_0) := blk_cell bF0 0
            have fF0_1 : w27.cell? ⟨w21.heap.size, 1, none⟩ = some (.slice A1_0 n1_0 c1_0) := blk_cell bF0 1
            have fF0_2 : w27.cell? ⟨w21.heap.size, 2, none⟩ = some (.slice A2_0 n2_0 c2_0) := blk_cell bF0 2
            have hltF0 := blk_lt bF0
            clear bF0
            have bF1 := XF1_27.out.obj BVF1.out (fun e => by have e1 : w23.heap.size = ga ∨ w23.heap.size = gb ∨ w23.heap.size = gX ∨ w23.heap.size = gY := e; have := HGLF1a.out; have := HGLF1b.out; have := HGLF1X.out; have := HGLF1Y.out; omega)
            have fF1_0 : w27.cell? ⟨w23.heap.size, 0, none⟩ = some (.slice A0_1 n0_1 c0_1) := blk_cell bF1 0
            have fF1_1 : w27.cell? ⟨w23.heap.size, 1, none⟩ = some (.slice A1_1 n1_1 c1_1) := blk_cell bF1 1
            have fF1_2 : w27.cell? ⟨w23.heap.size, 2, none⟩ = some (.slice A2_1 n2_1 c2_1) := blk_cell bF1 2
            have hltF1 := blk_lt bF1
            clear bF1
            go_wp2_with fail
            rw [HVF3.out]
            have E28 := Lib.hid (E27.out.trans0 EVF3.out)
            have HLa28 := Lib.hid (HLa27.out.ext EVF3.out)
            have HLb28 := Lib.hid (HLb27.out.ext EVF3.out)
            have HLX28 := Lib.hid (HLX27.out.ext EVF3.out)
            have HLY28 := Lib.hid (HLY27.out.ext EVF3.out)
            have XF0_28 := Lib.hid (XF0_27.out.trans0 EVF3.out)
            have XF1_28 := Lib.hid (XF1_27.out.trans0 EVF3.out)
            have XF2_28 := Lib.hid (XF2_27.out.trans0 EVF3.out)
            have XF3_28 : Hid (Ext (Four ga gb gX gY) VF3 VF3) := Ext.refl _ _
            clear fF0_0 fF0_1 fF0_2 hltF0 fF1_0 fF1_1 fF1_2 hltF1
            refine (same_calls (p := P) (q := P) ⟨P0.out.1.ext XF0_28.out (fun k hk _ e => by have e1 : k = ga ∨ k = gb ∨ k = gX ∨ k = gY := e; have := HGF0a.out; have := HGF0b.out; have := HGF0X.out; have := HGF0Y.out; have e3 := hk.1; omega), P0.out.2.1.ext XF0_28.out (fun k hk _ e => by have e1 : k = ga ∨ k = gb ∨ k = gX ∨ k = gY := e; have := HGF0a.out; have := HGF0b.out; have := HGF0X.out; have := HGF0Y.out; have e3 := hk.1; omega), P0.out.2.2.ext XF0_28.out (fun k hk _ e => by have e1 : k = ga ∨ k = gb ∨ k = gX ∨ k = gY := e; have := HGF0a.out; have := HGF0b.out; have := HGF0X.out; have := HGF0Y.out; have e3 := hk.1; omega)⟩ ⟨P1.out.1.ext XF1_28.out (fun k hk _ e => by have e1 : k = ga ∨ k = gb ∨ k = gX ∨ k = gY := e; have := HGF1a.out; have := HGF1b.out; have := HGF1X.out; have := HGF1Y.out; have e3 := hk.1; omega), P1.out.2.1.ext XF1_28.out (fun k hk _ e => by have e1 : k = ga ∨ k = gb ∨ k = gX ∨ k = gY := e; have := HGF1a.out; have := HGF1b.out; have := HGF1X.out; have := HGF1Y.out; have e3 := hk.1; omega), P1.out.2.2.ext XF1_28.out (fun k hk _ e => by have e1 : k = ga ∨ k = gb ∨ k = gX ∨ k = gY := e; have := HGF1a.out; have := HGF1b.out; have := HGF1X.out; have := HGF1Y.out; have e3 := hk.1; omega)⟩).mono ?_
            rintro e w29 ⟨rfl, he⟩
            rw [Plate.same_self]
            have E29 := Lib.hid (E28.out.trans0 he)
            have HLa29 := Lib.hid (HLa28.out.ext he)
            have HLb29 := Lib.hid (HLb28.out.ext he)
            have HLX29 := Lib.hid (HLX28.out.ext he)
            have HLY29 := Lib.hid (HLY28.out.ext he)
            have XF0_29 := Lib.hid (XF0_28.out.trans0 he)
            have XF1_29 := Lib.hid (XF1_28.out.trans0 he)
            have XF2_29 := Lib.hid (XF2_28.out.trans0 he)
            have XF3_29 := Lib.hid (XF3_28.out.trans0 he)
            clear he
            have bF2 := XF2_29.out.obj BVF2.out (fun e => by have e1 : w25.heap.size = ga ∨ w25.heap.size = gb ∨ w25.heap.size = gX ∨ w25.heap.size = gY := e; have := HGLF2a.out; have := HGLF2b.out; have := HGLF2X.out; have := HGLF2Y.out; omega)
            have fF2_0 : w29.cell? ⟨w25.heap.size, 0, none⟩ = some (.slice A0_2 n0_2 c0_2) := blk_cell bF2 0
            have fF2_1 : w29.cell? ⟨w25.heap.size, 1, none⟩ = some (.slice A1_2 n1_2 c1_2) := blk_cell bF2 1
            have fF2_2 : w29.cell? ⟨w25.heap.size, 2, none⟩ = some (.slice A2_2 n2_2 c2_2) := blk_cell bF2 2
            have hltF2 := blk_lt bF2
            clear bF2
            have bF3 := XF3_29.out.obj BVF3.out (fun e => by have e1 : w27.heap.size = ga ∨ w27.heap.size = gb ∨ w27.heap.size = gX ∨ w27.heap.size = gY := e; have := HGLF3a.out; have := HGLF3b.out; have := HGLF3X.out; have := HGLF3Y.out; omega)
            have fF3_0 : w29.cell? ⟨w27.heap.size, 0, none⟩ = some (.slice A0_3 n0_3 c0_3) := blk_cell bF3 0
            have fF3_1 : w29.cell? ⟨w27.heap.size, 1, none⟩ = some (.slice A1_3 n1_3 c1_3) := blk_cell bF3 1
            have fF3_2 : w29.cell? ⟨w27.heap.size, 2, none⟩ = some (.slice A2_3 n2_3 c2_3) := blk_cell bF3 2
            have hltF3 := blk_lt bF3
            clear bF3
            go_wp2_with fail
            clear fF2_0 fF2_1 fF2_2 hltF2 fF3_0 fF3_1 fF3_2 hltF3
            refine (same_calls (p := Q) (q := Q) ⟨P2.out.1.ext XF2_29.out (fun k hk _ e => by have e1 : k = ga ∨ k = gb ∨ k = gX ∨ k = gY := e; have := HGF2a.out; have := HGF2b.out; have := HGF2X.out; have := HGF2Y.out; have e3 := hk.1; omega), P2.out.2.1.ext XF2_29.out (fun k hk _ e => by have e1 : k = ga ∨ k = gb ∨ k = gX ∨ k = gY := e; have := HGF2a.out; have := HGF2b.out; have := HGF2X.out; have := HGF2Y.out; have e3 := hk.1; omega), P2.out.2.2.ext XF2_29.out (fun k hk _ e => by have e1 : k = ga ∨ k = gb ∨ k = gX ∨ k = gY := e; have := HGF2a.out; have := HGF2b.out; have := HGF2X.out; have := HGF2Y.out; have e3 := hk.1; omega)⟩ ⟨P3.out.1.ext XF3_29.out (fun k hk _ e => by have e1 : k = ga ∨ k = gb ∨ k = gX ∨ k = gY := e; have := HGF3a.out; have := HGF3b.out; have := HGF3X.out; have := HGF3Y.out; have e3 := hk.1; omega), P3.out.2.1.ext XF3_29.out (fun k hk _ e => by have e1 : k = ga ∨ k = gb ∨ k = gX ∨ k = gY := e; have := HGF3a.out; have := HGF3b.out; have := HGF3X.out; have := HGF3Y.out; have e3 := hk.1; omega), P3.out.2.2.ext XF3_29.out (fun k hk _ e => by have e1 : k = ga ∨ k = gb ∨ k = gX ∨ k = gY := e; have := HGF3a.out; have := HGF3b.out; have := HGF3X.out; have := HGF3Y.out; have e3 := hk.1; omega)⟩).mono ?_
            rintro e w30 ⟨rfl, he⟩
            rw [Plate.same_self]
            have E30 := Lib.hid (E29.out.trans0 he)
            have HLa30 := Lib.hid (HLa29.out.ext he)
            have HLb30 := Lib.hid (HLb29.out.ext he)
            have HLX30 := Lib.hid (HLX29.out.ext he)
            have HLY30 := Lib.hid (HLY29.out.ext he)
            have XF0_30 := Lib.hid (XF0_29.out.trans0 he)
            have XF1_30 := Lib.hid (XF1_29.out.trans0 he)
            have XF2_30 := Lib.hid (XF2_29.out.trans0 he)
            have XF3_30 := Lib.hid (XF3_29.out.trans0 he)
            clear he
            go_wp2_with fail
            refine (awake_calls _).mono ?_
            rintro e w31 ⟨rfl, he⟩
            have E31 := Lib.hid (E30.out.trans0 he)
            have HLa31 := Lib.hid (HLa30.out.ext he)
            have HLb31 := Lib.hid (HLb30.out.ext he)
            have HLX31 := Lib.hid (HLX30.out.ext he)
            have HLY31 := Lib.hid (HLY30.out.ext he)
            have XF0_31 := Lib.hid (XF0_30.out.trans0 he)
            have XF1_31 := Lib.hid (XF1_30.out.trans0 he)
            have XF2_31 := Lib.hid (XF2_30.out.trans0 he)
            have XF3_31 := Lib.hid (XF3_30.out.trans0 he)
            clear he
            go_wp2_with fail
            go_ret
            exact ⟨rfl, E31.out⟩
          by_cases p1 : j < n1
          · by_cases p2 : j < n2
            · obtain ⟨k1, hx⟩ : ∃ k, one[j]? = some k := ⟨_, List.getElem?_eq_getElem (by have := HN1.out; omega)⟩
              obtain ⟨gl1, off1, B1, mb1, db1, rfl, hgl1, e10, e11, e12, e13, e14, hv⟩ := call_at (HR1.out.ext0 HEr.out) hx
              have HV1 := Lib.hid hv
              have HBY1 := Lib.hid (HS1.out.2 k1 (List.mem_of_getElem? hx))
              have HRT1 := Lib.hid (run_take (d := DA) hx)
              have hgo1 : Goes ((DA.run (one.take j)).call k1) ((DA.run (one.take j)).call k1).1 (DA.run (one.take (j + 1))) := ⟨rfl, HRT1.out.symm, HGA.out.run (fun c hc => HO1.out c (List.mem_of_mem_take hc)), by
                have h1 := Dk.run_wait DA (one.take (j + 1))
                have h2 : (one.take (j + 1)).length ≤ one.length := by rw [List.length_take]; omega
                have h3 := HWA.out
                have h4 := HS1.out.1
                omega⟩
              have HGO1 := Lib.hid hgo1
              clear hx hv hgo1
              go_wp2_with fail
              clear e10 e11 e12 e13 e14 hgl1
              refine (does_go LA.out (k := k1) HV1.out (by have := HBY1.out; omega) HGO1.out).mono ?_
              rintro e w21 ⟨rfl, hl, he⟩
              have HLa21 := Lib.hid hl
              have E21 := Lib.hid (HEr.out.only_new he HGa.out)
              have HLb21 := Lib.hid (LB.out.other he NAB.out)
              have HLX21 := Lib.hid (LX.out.other he NAX.out)
              have HLY21 := Lib.hid (LY.out.other he NAY.out)
              clear hl he
              obtain ⟨k2, hx⟩ : ∃ k, two[j]? = some k := ⟨_, List.getElem?_eq_getElem (by have := HN2.out; omega)⟩
              obtain ⟨gl2, off2, B2, mb2, db2, rfl, hgl2, e20, e21, e22, e23, e24, hv⟩ := call_at (HR2.out.ext0 E21.out) hx
              have HV2 := Lib.hid hv
              have HBY2 := Lib.hid (HS2.out.2 k2 (List.mem_of_getElem? hx))
              have HRT2 := Lib.hid (run_take (d := DA) hx)
              have hgo2 : Goes ((DA.run (two.take j)).call k2) ((DA.run (two.take j)).call k2).1 (DA.run (two.take (j + 1))) := ⟨rfl, HRT2.out.symm, HGA.out.run (fun c hc => HO2.out c (List.mem_of_mem_take hc)), by
                have h1 := Dk.run_wait DA (two.take (j + 1))
                have h2 : (two.take (j + 1)).length ≤ two.length := by rw [List.length_take]; omega
                have h3 := HWA.out
                have h4 := HS2.out.1
                omega⟩
              have HGO2 := Lib.hid hgo2
              clear hx hv hgo2
              go_wp2_with fail
              clear e20 e21 e22 e23 e24 hgl2
              refine (does_go HLb21.out (k := k2) HV2.out (by have := HBY2.out; omega) HGO2.out).mono ?_
              rintro e w22 ⟨rfl, hl, he⟩
              have HLb22 := Lib.hid hl
              have E22 := Lib.hid (E21.out.only_new he HGb.out)
              have HLa22 := Lib.hid (HLa21.out.other he NBA.out)
              have HLX22 := Lib.hid (HLX21.out.other he NBX.out)
              have HLY22 := Lib.hid (HLY21.out.other he NBY.out)
              clear hl he
              go_wp2_with fail
              go_roundw
              case rel => exact ⟨j + 1, by go_num, by omega, HLa22.out, HLb22.out, HLX22.out, HLY22.out, E22.out⟩
              case measure => simp [intOf]; omega
            · obtain ⟨k1, hx⟩ : ∃ k, one[j]? = some k := ⟨_, List.getElem?_eq_getElem (by have := HN1.out; omega)⟩
              obtain ⟨gl1, off1, B1, mb1, db1, rfl, hgl1, e10, e11, e12, e13, e14, hv⟩ := call_at (HR1.out.ext0 HEr.out) hx
              have HV1 := Lib.hid hv
              have HBY1 := Lib.hid (HS1.out.2 k1 (List.mem_of_getElem? hx))
              have HRT1 := Lib.hid (run_take (d := DA) hx)
              have hgo1 : Goes ((DA.run (one.take j)).call k1) ((DA.run (one.take j)).call k1).1 (DA.run (one.take (j + 1))) := ⟨rfl, HRT1.out.symm, HGA.out.run (fun c hc => HO1.out c (List.mem_of_mem_take hc)), by
                have h1 := Dk.run_wait DA (one.take (j + 1))
                have h2 : (one.take (j + 1)).length ≤ one.length := by rw [List.length_take]; omega
                have h3 := HWA.out
                have h4 := HS1.out.1
                omega⟩
              have HGO1 := Lib.hid hgo1
              clear hx hv hgo1
              go_wp2_with fail
              clear e10 e11 e12 e13 e14 hgl1
              refine (does_go LA.out (k := k1) HV1.out (by have := HBY1.out; omega) HGO1.out).mono ?_
              rintro e w21 ⟨rfl, hl, he⟩
              have HLa21 := Lib.hid hl
              have E21 := Lib.hid (HEr.out.only_new he HGa.out)
              have HLb21 := Lib.hid (LB.out.other he NAB.out)
              have HLX21 := Lib.hid (LX.out.other he NAX.out)
              have HLY21 := Lib.hid (LY.out.other he NAY.out)
              clear hl he
              go_wp2_with fail
              go_roundw
              case rel => exact ⟨j + 1, by go_num, by omega, HLa21.out, (by rw [List.take_of_length_le (by have := HN2.out; omega)]; have h := HLb21.out; rw [List.take_of_length_le (by have := HN2.out; omega)] at h; exact h), HLX21.out, HLY21.out, E21.out⟩
              case measure => simp [intOf]; omega
          · have p2 : j < n2 := by have := HM.out; omega
            obtain ⟨k2, hx⟩ : ∃ k, two[j]? = some k := ⟨_, List.getElem?_eq_getElem (by have := HN2.out; omega)⟩
            obtain ⟨gl2, off2, B2, mb2, db2, rfl, hgl2, e20, e21, e22, e23, e24, hv⟩ := call_at (HR2.out.ext0 HEr.out) hx
            have HV2 := Lib.hid hv
            have HBY2 := Lib.hid (HS2.out.2 k2 (List.mem_of_getElem? hx))
            have HRT2 := Lib.hid (run_take (d := DA) hx)
            have hgo2 : Goes ((DA.run (two.take j)).call k2) ((DA.run (two.take j)).call k2).1 (DA.run (two.take (j + 1))) := ⟨rfl, HRT2.out.symm, HGA.out.run (fun c hc => HO2.out c (List.mem_of_mem_take hc)), by
              have h1 := Dk.run_wait DA (two.take (j + 1))
              have h2 : (two.take (j + 1)).length ≤ two.length := by rw [List.length_take]; omega
              have h3 := HWA.out
              have h4 := HS2.out.1
              omega⟩
            have HGO2 := Lib.hid hgo2
            clear hx hv hgo2
            go_wp2_with fail
            clear e20 e21 e22 e23 e24 hgl2
            refine (does_go LB.out (k := k2) HV2.out (by have := HBY2.out; omega) HGO2.out).mono ?_
            rintro e w21 ⟨rfl, hl, he⟩
            have HLb21 := Lib.hid hl
            have E21 := Lib.hid (HEr.out.only_new he HGb.out)
            have HLa21 := Lib.hid (LA.out.other he NBA.out)
            have HLX21 := Lib.hid (LX.out.other he NBX.out)
            have HLY21 := Lib.hid (LY.out.other he NBY.out)
            clear hl he
            go_wp2_with fail
            go_roundw
            case rel => exact ⟨j + 1, by go_num, by omega, (by rw [List.take_of_length_le (by have := HN1.out; omega)]; have h := HLa21.out; rw [List.take_of_length_le (by have := HN1.out; omega)] at h; exact h), HLb21.out, HLX21.out, HLY21.out, E21.out⟩
            case measure => simp [intOf]; omega
end Go.Proofs.Ytpmncppfopbaaaa
