/- DiskBegins. -/
import Derived.Test.YtpmncppfopbaaaaD4
namespace Go.Proofs.Ytpmncppfopbaaaa
open Go.RowKit Go.TM

set_option maxHeartbeats 8000000 in
set_option maxRecDepth 100000 in
theorem begins_calls {w : World} {ok ok1 : Nat → Prop} {A A1 : Option Addr} {n n1 c c1 : Nat} {l : List TM.Call} {parts : List (List UInt8)} (R : Rd callK w ok (.slice A n c) l) (hok : ∀ k ∈ l, k.Ok)
    (R1 : Rd bytesK w ok1 (.slice A1 n1 c1) parts) (keep tear : Int) :
    Calls Try.prog 11 #[.slice A n c, .slice A1 n1 c1, .int .i64 keep, .int .i64 tear] w fun e w' => e = .returned (.bool true) ∧ Ext Non w w' := by
  have HR := Lib.hid R
  have HR1 := Lib.hid R1
  have HO := Lib.hid hok
  obtain ⟨hn1, hm1⟩ := rd_len R1
  have HN1 := Lib.hid hn1
  have q0 : (n1 : Int) ≤ 9223372036854775807 := by omega
  clear R R1 hok hn1 hm1
  go_enter Try.func11, Try.ntmps11
  go_wp2_with fail
  go_loop [9, 10] (fun t i => ∃ j m : Nat, t = .int .i64 (m : Int) ∧ i = .int .i64 j ∧ j ≤ n1 ∧ m ≤ 65537 ∧ Hid (m = psz (parts.take j))) (fun _ i => n1 - (intOf i).toNat)
  case atStart => exact ⟨0, 0, rfl, rfl, by omega, by omega, rfl⟩
  case round =>
    obtain ⟨j, m, rfl, rfl, hj, hm, HM⟩ := hrel
    by_cases hlt : j < n1
    · by_cases h3 : m ≤ 32768
      · obtain ⟨b, hx⟩ : ∃ b, parts[j]? = some b := ⟨_, List.getElem?_eq_getElem (by have := HN1.out; omega)⟩
        obtain ⟨gl, off, B, mb, db, rfl, hgl, e4, hv⟩ := bytes_at HR1.out hx
        obtain ⟨hmb, hmm⟩ := rd_len hv
        have hnext : m + (1 + min mb 32768) = psz (parts.take (j + 1)) := by rw [psz_take hx, HM.out, hmb]
        have HNX := Lib.hid hnext
        have p3 : (m : Int) ≤ 32768 := by omega
        have q5 : (mb : Int) ≤ 9223372036854775807 := by omega
        clear hx hv hmb hmm hnext h3
        by_cases hb : (mb : Int) ≤ 32768
        · have HB := Lib.hid hb
          go_wp2_with fail
          all_goals
            go_round
            case rel => exact ⟨j + 1, m + (1 + min mb 32768), by go_num, by go_num, by omega, by omega, HNX.out⟩
            case measure => simp [intOf]; omega
        · have HB := Lib.hid hb
          go_wp2_with fail
          all_goals
            go_round
            case rel => exact ⟨j + 1, m + (1 + min mb 32768), by have := HB.out; go_num, by go_num, by omega, by omega, HNX.out⟩
            case measure => simp [intOf]; omega
      · have p3 : ¬ (m : Int) ≤ 32768 := by omega
        clear h3
        go_wp2_with fail
        refine (short_calls HR.out).mono ?_
        rintro e w1 ⟨s, rfl, rfl, hb⟩
        clear hb
        cases s with
        | false =>
          go_wp2_with fail
          refine (awake_calls _).mono ?_
          rintro e w2 ⟨rfl, he⟩
          have E2 := Lib.hid he
          clear he
          go_wp2_with fail
          go_ret
          exact ⟨rfl, E2.out⟩
        | true =>
          go_wp2_with fail
          refine (awake_calls _).mono ?_
          rintro e w2 ⟨rfl, he⟩
          have E2 := Lib.hid he
          clear he
          go_wp2_with fail
          go_ret
          exact ⟨rfl, E2.out⟩
    · obtain rfl : n1 = j := by omega
      by_cases h3 : m ≤ 32768
      case neg =>
        have p3 : ¬ (m : Int) ≤ 32768 := by omega
        clear h3
        go_wp2_with fail
        refine (short_calls HR.out).mono ?_
        rintro e w1 ⟨s, rfl, rfl, hb⟩
        clear hb
        cases s with
        | false =>
          go_wp2_with fail
          refine (awake_calls _).mono ?_
          rintro e w2 ⟨rfl, he⟩
          have E2 := Lib.hid he
          clear he
          go_wp2_with fail
          go_ret
          exact ⟨rfl, E2.out⟩
        | true =>
          go_wp2_with fail
          refine (awake_calls _).mono ?_
          rintro e w2 ⟨rfl, he⟩
          have E2 := Lib.hid he
          clear he
          go_wp2_with fail
          go_ret
          exact ⟨rfl, E2.out⟩
      have p3 : (m : Int) ≤ 32768 := by omega
      have hps := psz_le parts (by have h := HM.out; rw [List.take_of_length_le (by have := HN1.out; omega)] at h; omega)
      have HPS := Lib.hid hps
      have q1 : (n1 : Int) ≤ 32768 := by have := HN1.out; omega
      clear h3 hlt hps
      go_wp2_with fail
      refine (short_calls HR.out).mono ?_
      rintro e w1 ⟨s, rfl, rfl, hb⟩
      cases s with
      | false =>
        clear hb
        go_wp2_with fail
        refine (awake_calls _).mono ?_
        rintro e w2 ⟨rfl, he⟩
        have E2 := Lib.hid he
        clear he
        go_wp2_with fail
        go_ret
        exact ⟨rfl, E2.out⟩
      | true =>
        have HS := Lib.hid (hb rfl)
        clear hb
        obtain ⟨D1, D2, D3, P, g1, g2, g3, f3, hs3, hk3, hw3⟩ := begins_start (fine_of HS.out HO.out) HS.out
        have G1 := Lib.hid g1
        have G2 := Lib.hid g2
        have G3 := Lib.hid g3
        have F3 := Lib.hid f3
        have HS3 := Lib.hid hs3
        have HK3 := Lib.hid hk3
        have HW3 := Lib.hid hw3
        have HPT : Hid (P.tape.length ≤ 6553600) := by
          have h := hs3.2.fit 0 (Nat.zero_le _)
          rw [List.take_zero, hk3] at h
          have h2 : (P.used : Int) ≤ 6553600 := h
          unfold Plate.used at h2
          show _ ≤ _
          omega
        clear g1 g2 g3 f3 hs3 hk3 hw3
        go_wp2_with fail
        refine (made_calls HR.out (fine_of HS.out HO.out) 16777216 (by omega) (by omega)).mono ?_
        rintro e w1 ⟨g, rfl, hg0, hg1, hl, he⟩
        have HL1 := Lib.hid hl
        have E1 := Lib.hid he
        have HG0 := Lib.hid hg0
        clear hg0 hg1 hl he
        go_wp2_with fail
        refine (start_go HL1.out G1.out).mono ?_
        rintro e w2 ⟨rfl, hl, he⟩
        have HLa2 := Lib.hid hl
        have E2 := Lib.hid (E1.out.only_new he HG0.out)
        clear hl he
        go_wp2_with fail
        refine (arm_go HLa2.out G2.out).mono ?_
        rintro e w3 ⟨rfl, hl, he⟩
        have HLa3 := Lib.hid hl
        have E3 := Lib.hid (E2.out.only_new he HG0.out)
        clear hl he
        go_wp2_with fail
        refine (sync_go HLa3.out G3.out).mono ?_
        rintro e w4 ⟨rfl, hl, he⟩
        have HLa4 := Lib.hid hl
        have E4 := Lib.hid (E3.out.only_new he HG0.out)
        clear hl he
        go_wp2_with fail
        have HGF0a := Lib.hid HLa4.out.lt
        refine (face_go HLa4.out F3.out).mono ?_
        rintro e w5 ⟨A0_0, n0_0, c0_0, A1_0, n1_0, c1_0, A2_0, n2_0, c2_0, rfl, hr, he⟩
        have E5 := Lib.hid (E4.out.trans0 he.out)
        have HLa5 := Lib.hid (HLa4.out.ext he.out)
        have hzf := he.out.size
        obtain ⟨VF0, hV⟩ : ∃ V, w5.alloc (.cells #[.slice A0_0 n0_0 c0_0, .slice A1_0 n1_0 c1_0, .slice A2_0 n2_0 c2_0] 31) = V := ⟨_, rfl⟩
        have eV : Ext Non w5 VF0 := by rw [← hV]; exact (Ext.refl Non w5).alloc _
        have BVF0 := Lib.hid (heap_alloc_new w5 (.cells #[.slice A0_0 n0_0 c0_0, .slice A1_0 n1_0 c1_0, .slice A2_0 n2_0 c2_0] 31))
        rw [hV] at BVF0
        have HVF0 := Lib.hid hV
        have EVF0 := Lib.hid eV
        clear hV eV
        have HGLF0a := Lib.hid HLa5.out.lt
        have P0 := Lib.hid (And.intro (hr.out.1.ext0 EVF0.out) (And.intro (hr.out.2.1.ext0 EVF0.out) (hr.out.2.2.ext0 EVF0.out)))
        clear hr he hzf
        go_wp2_with fail
        rw [HVF0.out]
        have E6 := Lib.hid (E5.out.trans0 EVF0.out)
        have HLa6 := Lib.hid (HLa5.out.ext EVF0.out)
        have XF0_6 : Hid (Ext (Only g) VF0 VF0) := Ext.refl _ _
        go_loopw [15, 61] (fun _ i wr => ∃ j : Nat, i = .int .i64 j ∧ j ≤ n1 ∧ Hid (Step2 (D3.adds (parts.take j)) ∧ (D3.adds (parts.take j)).Upto (6553600 + ((parts.take j).flatten.length : Int)) ∧ (D3.adds (parts.take j)).wait.length ≤ j) ∧ Hid (Live wr (Mine w.heap.size g) g (D3.adds (parts.take j))) ∧ Hid (Ext Non w wr) ∧ Hid (Ext (Only g) VF0 wr)) (fun _ i _ => n1 - (intOf i).toNat)
        case atStart => exact ⟨0, rfl, by omega, ⟨HS3.out.1, HS3.out.2.mono (by simp), by show D3.wait.length ≤ 0; rw [HW3.out]; exact Nat.le_refl _⟩, HLa6.out, E6.out, XF0_6.out⟩
        case round =>
          obtain ⟨j, rfl, hj, HI, HLr, HEr, HXr⟩ := hrel
          by_cases hlt : j < n1
          · obtain ⟨b, hx⟩ : ∃ b, parts[j]? = some b := ⟨_, List.getElem?_eq_getElem (by have := HN1.out; omega)⟩
            obtain ⟨gl, off, B, mb, db, rfl, hgl, e4, hv⟩ := bytes_at (HR1.out.ext0 HEr.out) hx
            have hft := flat_take hx
            have hle := flat_le parts (j + 1)
            rw [hft, List.length_append] at hle
            have hstep := begins_step HI.out.1 HI.out.2.1 (by have h1 := HI.out.2.2; omega) (p := b) (by have h1 := HPS.out; omega)
            rw [← adds_take hx] at hstep
            have HV := Lib.hid hv
            have HST := Lib.hid hstep
            have HUN : Hid ((D3.adds (parts.take (j + 1))).Upto (6553600 + ((parts.take (j + 1)).flatten.length : Int))) := hstep.2.2.mono (by rw [hft, List.length_append]; omega)
            have HWN : Hid ((D3.adds (parts.take (j + 1))).wait.length ≤ j + 1) := by rw [adds_take hx]; have h1 := HI.out.2.2; show _ ≤ _; simp [Dk.acted]; omega
            have HBL : Hid (b.length ≤ 140737488355328) := by have h1 := HPS.out; show _ ≤ _; omega
            clear hx hv hft hle hstep hgl
            go_wp2_with fail
            refine (append_go HLr.out HV.out HBL.out HST.out.1).mono ?_
            rintro e w20 ⟨rfl, hl, he⟩
            have HL20 := Lib.hid hl
            have E20 := Lib.hid (HEr.out.only_new he HG0.out)
            have X20 := Lib.hid (HXr.out.trans he (fun _ _ e => e))
            clear hl he e4
            go_wp2_with fail
            go_roundw
            case rel => exact ⟨j + 1, by go_num, by omega, ⟨HST.out.2.1, HUN.out, HWN.out⟩, HL20.out, E20.out, X20.out⟩
            case measure => simp [intOf]; omega
          · obtain rfl : n1 = j := by omega
            have hta : parts.take n1 = parts := List.take_of_length_le (by have := HN1.out; omega)
            have hI := HI.out
            have hLr := HLr.out
            rw [hta] at hI hLr
            have hfl := adds_flat parts D3
            have hfe := begins_fell (d := D3.adds parts) (P := P) (parts := parts) (by rw [hfl.1]; exact HK3.out) (by rw [hfl.2, HW3.out]; rfl) keep tear
            have gc := goes_crash hI.1.good hI.1.off keep tear
            have gs := goes_start gc.2.2.1 (by simp [Dk.down])
            have ff : ((D3.adds parts).down keep tear).on.face = ((D3.adds parts).fell keep tear, true) := face_on gs.2.2.1 rfl
            have GC := Lib.hid gc
            have GS := Lib.hid gs
            have FF := Lib.hid ff
            have HFE := Lib.hid hfe
            have HLr := Lib.hid hLr
            generalize (D3.adds parts).fell keep tear = N at FF HFE
            generalize (D3.adds parts).down keep tear = DC at GC GS FF
            generalize DC.on = DO at GS FF
            clear hI hLr hfl hfe gc gs ff hta hlt
            go_wp2_with fail
            refine (crash_go HLr.out GC.out).mono ?_
            rintro e w31 ⟨rfl, hl, he⟩
            have HLa31 := Lib.hid hl
            have E31 := Lib.hid (HEr.out.only_new he HG0.out)
            have XF0_31 := Lib.hid (HXr.out.trans he (fun _ _ e => e))
            clear hl he
            go_wp2_with fail
            refine (start_go HLa31.out GS.out).mono ?_
            rintro e w32 ⟨rfl, hl, he⟩
            have HLa32 := Lib.hid hl
            have E32 := Lib.hid (E31.out.only_new he HG0.out)
            have XF0_32 := Lib.hid (XF0_31.out.trans he (fun _ _ e => e))
            clear hl he
            go_wp2_with fail
            have HGF1a := Lib.hid HLa32.out.lt
            refine (face_go HLa32.out FF.out).mono ?_
            rintro e w33 ⟨A0_1, n0_1, c0_1, A1_1, n1_1, c1_1, A2_1, n2_1, c2_1, rfl, hr, he⟩
            have E33 := Lib.hid (E32.out.trans0 he.out)
            have HLa33 := Lib.hid (HLa32.out.ext he.out)
            have XF0_33 := Lib.hid (XF0_32.out.trans0 he.out)
            have hzf := he.out.size
            obtain ⟨VF1, hV⟩ : ∃ V, w33.alloc (.cells #[.slice A0_1 n0_1 c0_1, .slice A1_1 n1_1 c1_1, .slice A2_1 n2_1 c2_1] 31) = V := ⟨_, rfl⟩
            have eV : Ext Non w33 VF1 := by rw [← hV]; exact (Ext.refl Non w33).alloc _
            have BVF1 := Lib.hid (heap_alloc_new w33 (.cells #[.slice A0_1 n0_1 c0_1, .slice A1_1 n1_1 c1_1, .slice A2_1 n2_1 c2_1] 31))
            rw [hV] at BVF1
            have HVF1 := Lib.hid hV
            have EVF1 := Lib.hid eV
            clear hV eV
            have HGLF1a := Lib.hid HLa33.out.lt
            have P1 := Lib.hid (And.intro (hr.out.1.ext0 EVF1.out) (And.intro (hr.out.2.1.ext0 EVF1.out) (hr.out.2.2.ext0 EVF1.out)))
            clear hr he hzf
            have bF0 := XF0_33.out.obj BVF0.out (fun e => by have e1 : w5.heap.size = g := e; have e2 := HGLF0a.out; omega)
            have fF0_2 : w33.cell? ⟨w5.heap.size, 2, none⟩ = some (.slice A2_0 n2_0 c2_0) := blk_cell bF0 2
            have hltF0 := blk_lt bF0
            clear bF0
            clear fF0_2 hltF0
            have XF := Lib.hid (XF0_33.out.trans0 EVF1.out)
            have bT := XF.out.obj BVF0.out (fun e => by have e1 : w5.heap.size = g := e; have e2 := HGLF0a.out; omega)
            have fT : VF1.cell? ⟨w5.heap.size, 2, none⟩ = some (.slice A2_0 n2_0 c2_0) := blk_cell bT 2
            have hltT := blk_lt bT
            have HBT := Lib.hid bT
            have hT0 : Rd Kd.u8 VF1 (Fresh w4 w5) (.slice A2_0 n2_0 c2_0) P.tape := P0.out.2.2.ext XF.out (fun k hk _ e => by have e1 : k = g := e; have e2 := HGF0a.out; have e3 := hk.1; omega)
            have HT0 := Lib.hid hT0
            have EV := Lib.hid (E33.out.trans0 EVF1.out)
            have HY0 := Lib.hid (HR1.out.ext0 EV.out)
            have hN2 := rd_len P1.out.2.2
            clear hT0 bT
            have eqV := HVF1.out
            have HQ := Lib.hid hN2.1
            clear hN2
            go_wp2_with (at_builtin; refine app_parts (w := VF1) (T := P.tape) (ys := parts) rfl _ _ rfl rfl rfl HT0.out HY0.out (by have := HPS.out; omega) ?_; intro A4 n4 c4 w40 hn4 O4 E4)
            have HT4 := Lib.hid (HT0.out.ext0 E4.out)
            refine (concat_calls O4.out (by have := HPS.out; simp; omega) (by have h1 := HPS.out; have h3 := HPT.out; rw [List.flatten_cons, List.length_append]; omega)).mono ?_
            rintro e w41 ⟨A5, n5, c5, rfl, ho, he⟩
            have E41 := Lib.hid ((EV.out.trans0 E4.out).trans0 he.out)
            have bT := he.out.obj (E4.out.obj HBT.out (fun e => e)) (fun e => e)
            have bU := he.out.obj (E4.out.obj BVF1.out (fun e => e)) (fun e => e)
            have fT0 : w41.cell? ⟨w5.heap.size, 2, none⟩ = some (.slice A2_0 n2_0 c2_0) := blk_cell bT 2
            have fT1 : w41.cell? ⟨w33.heap.size, 2, none⟩ = some (.slice A2_1 n2_1 c2_1) := blk_cell bU 2
            have RA := ho
            have hra := (rd_len ho.out.rd).1
            have RN := Lib.hid ((P1.out.2.2.ext0 E4.out).ext0 he.out)
            have RW := Lib.hid (HT4.out.ext0 he.out)
            have hlen : ((n1 : Int) ≤ keep) → n5 = n2_1 := fun h => by
              have h1 := HFE.out.2.2 (by have := HN1.out; omega)
              rw [hra, HQ.out, h1, List.flatten_cons]
            have HLE := Lib.hid hlen
            clear bT bU ho he hlen hra fT hltT eqV
            by_cases hk : keep < (n1 : Int)
            case' neg => obtain rfl : n5 = n2_1 := HLE.out (by omega)
            all_goals
              clear HLE
              go_wp2_with fail
              refine (HasPrefix_yes RA.out.rd RN.out (by rw [List.flatten_cons]; exact HFE.out.2.1)).mono ?_
              rintro e w42 ⟨rfl, rfl⟩
              go_wp2_with fail
              refine (HasPrefix_yes RN.out RW.out HFE.out.1).mono ?_
              rintro e w42 ⟨rfl, rfl⟩
              go_wp2_with fail
              refine (awake_calls _).mono ?_
              rintro e w43 ⟨rfl, he⟩
              have E43 := Lib.hid (E41.out.trans0 he)
              clear he
              go_wp2_with fail
              go_ret
              exact ⟨rfl, E43.out⟩
end Go.Proofs.Ytpmncppfopbaaaa
