/- DiskLasts. -/
import Derived.Test.YtpmncppfopbaaaaD2
namespace Go.Proofs.Ytpmncppfopbaaaa
open Go.RowKit Go.TM

theorem _root_.Go.TM.Ext.drewN {M : Nat → Prop} {a b : World} (h : Ext M a b) (n : Nat) : Ext M a (b.drewN n) := h.trans0 ⟨rfl, rfl, rfl, Nat.le_refl _, fun _ _ _ => rfl⟩
theorem _root_.Go.TM.Ext.news {w w1 w2 : World} {M : Nat → Prop} (h : Ext Non w w1) (he : Ext M w1 w2) (hM : ∀ k, M k → w.heap.size ≤ k) : Ext Non w w2 := h.trans he (fun i hi e => absurd (hM i e) (by omega))
theorem lasts_start {l : List TM.Call} (hl : Fine l) : ∃ D1 D2 D3 P, Goes ((Dk.new 16777216).run l).start 0 D1 ∧ Goes (D1.arm 0 0 0) 0 D2 ∧ Goes D2.sync 0 D3 ∧ D3.face = (P, true) ∧ (Lasting P false false false D3 ∧ D3.wait.length ≤ 0) := by
  have h0 := fine_good hl
  have w0 := made_wait 16777216 l hl.n
  generalize (Dk.new 16777216).run l = D0 at h0 w0
  have g2 := goes_arm0 (n := 0) (keep := 0) (tear := 0) h0.on (by show D0.wait.length ≤ _; omega) rfl (by omega) (by simp [inI]) (by simp [inI]) (by simp [inI])
  have g3 := goes_sync g2.2.2.1 rfl rfl
  exact ⟨_, _, _, _, goes_start h0 (by omega), g2, g3, face_on g3.2.2.1 rfl, ⟨g3.2.2.1, rfl, rfl, rfl, fun a ha => by simp [Dk.synced] at ha⟩, by simp [Dk.synced]⟩
set_option maxHeartbeats 8000000 in
set_option maxRecDepth 100000 in
theorem lasts_calls {w : World} {ok ok1 : Nat → Prop} {A A1 : Option Addr} {n n1 c c1 : Nat} {l more : List TM.Call} (R : Rd callK w ok (.slice A n c) l) (hok : ∀ k ∈ l, k.Ok)
    (R1 : Rd callK w ok1 (.slice A1 n1 c1) more) (hok1 : ∀ k ∈ more, k.Ok) (keep tear : Int) :
    Calls Try.prog 6 #[.slice A n c, .slice A1 n1 c1, .int .i64 keep, .int .i64 tear] w fun e w' => e = .returned (.bool true) ∧ Ext Non w w' := by
  have HR := Lib.hid R
  have HR1 := Lib.hid R1
  have HO := Lib.hid hok
  have HO1 := Lib.hid hok1
  obtain ⟨hn1, -⟩ := rd_len R1
  have HN1 := Lib.hid hn1
  clear R R1 hok hok1 hn1
  go_enter Try.func6, Try.ntmps6
  go_wp2_with fail
  refine (short_calls HR.out).mono ?_
  rintro e w1 ⟨s, rfl, rfl, hb⟩
  cases s with
  | false =>
    clear hb
    go_wp2_with fail
    refine (awake_calls _).mono ?_
    rintro e w2 ⟨rfl, he⟩
    have E2 := Lib.hid he
    clear he
    go_wp2_with fail
    go_ret
    exact ⟨rfl, E2.out⟩
  | true =>
    have HS := Lib.hid (hb rfl)
    clear hb
    go_wp2_with fail
    refine (short_calls HR1.out).mono ?_
    rintro e w1 ⟨s, rfl, rfl, hb⟩
    cases s with
    | false =>
      clear hb
      go_wp2_with fail
      refine (awake_calls _).mono ?_
      rintro e w2 ⟨rfl, he⟩
      have E2 := Lib.hid he
      clear he
      go_wp2_with fail
      go_ret
      exact ⟨rfl, E2.out⟩
    | true =>
      have HS1 := Lib.hid (hb rfl)
      clear hb
      have q1 : (n1 : Int) ≤ 200 := by have := HS1.out.1; have := HN1.out; omega
      obtain ⟨D1, D2, D3, P, g1, g2, g3, f3, hl3⟩ := lasts_start (fine_of HS.out HO.out)
      have G1 := Lib.hid g1
      have G2 := Lib.hid g2
      have G3 := Lib.hid g3
      have F3 := Lib.hid f3
      have HLA := Lib.hid hl3
      clear g1 g2 g3 f3 hl3
      go_wp2_with fail
      refine (made_calls HR.out (fine_of HS.out HO.out) 16777216 (by omega) (by omega)).mono ?_
      rintro e w1 ⟨g, rfl, hg0, hg1, hl, he⟩
      have HL1 := Lib.hid hl
      have E1 := Lib.hid he
      have HG0 := Lib.hid hg0
      clear hg0 hg1 hl he
      go_wp2_with fail
      refine (start_go HL1.out G1.out).mono ?_
      rintro e w2 ⟨rfl, hl, he⟩
      have HL2 := Lib.hid hl
      have E2 := Lib.hid (E1.out.only_new he HG0.out)
      clear hl he
      go_wp2_with fail
      refine (arm_go HL2.out G2.out).mono ?_
      rintro e w3 ⟨rfl, hl, he⟩
      have HL3 := Lib.hid hl
      have E3 := Lib.hid (E2.out.only_new he HG0.out)
      clear hl he
      go_wp2_with fail
      refine (sync_go HL3.out G3.out).mono ?_
      rintro e w4 ⟨rfl, hl, he⟩
      have HL4 := Lib.hid hl
      have E4 := Lib.hid (E3.out.only_new he HG0.out)
      have HG4 := Lib.hid hl.lt
      clear hl he
      go_wp2_with fail
      refine (face_go HL4.out F3.out).mono ?_
      rintro e w5 ⟨A0, n0, c0, A1', n1', c1', A2, n2, c2, rfl, hr, he⟩
      have HL5 := Lib.hid (HL4.out.ext he.out)
      have HZ5 := Lib.hid he.out.size
      have hV0 : ∃ V, w5.alloc (.cells #[.slice A0 n0 c0, .slice A1' n1' c1', .slice A2 n2 c2] 31) = V := ⟨_, rfl⟩
      obtain ⟨V0, hV0⟩ := hV0
      have eV0 : Ext Non w5 V0 := by rw [← hV0]; exact (Ext.refl Non w5).alloc _
      have bV0 := heap_alloc_new w5 (.cells #[.slice A0 n0 c0, .slice A1' n1' c1', .slice A2 n2 c2] 31)
      have zV0 : V0.heap.size = w5.heap.size + 1 := by rw [← hV0]; simp
      rw [hV0] at bV0
      obtain ⟨VT, hVT⟩ : ∃ V, V0.alloc (.cells #[.bool false, .bool false, .bool false] 50) = V := ⟨_, rfl⟩
      have eVT : Ext Non V0 VT := by rw [← hVT]; exact (Ext.refl Non V0).alloc _
      have bVT := heap_alloc_new V0 (.cells #[.bool false, .bool false, .bool false] 50)
      have zVT : VT.heap.size = w5.heap.size + 2 := by rw [← hVT]; simp [zV0]
      rw [hVT, zV0] at bVT
      have e5T := eV0.trans0 eVT
      have ET := Lib.hid ((E4.out.trans0 he.out).trans0 e5T)
      have BF := Lib.hid (eVT.obj bV0 (fun e => e))
      have BT := Lib.hid bVT
      have PF := Lib.hid (And.intro (hr.out.1.ext0 e5T) (And.intro (hr.out.2.1.ext0 e5T) (hr.out.2.2.ext0 e5T)))
      have hgl : g < w5.heap.size := by have := HG4.out; have := HZ5.out; omega
      have LT : Hid (Live VT (Free g (w5.heap.size + 1) g (w5.heap.size + 1)) g D3) := Live.of ((HL5.out.at_.sub (ok' := fun k => k ≠ g ∧ k < w5.heap.size) (fun k hk h => ⟨hk.2, h⟩)).ext e5T) HL5.out.good HL5.out.wl (fun k hk _ => ⟨by omega, by omega, by omega, by omega⟩) (fun k hk => ⟨by omega, by omega, by omega, by omega⟩) (fun h => h.1 rfl)
      have HV0 := Lib.hid hV0
      have HVT := Lib.hid hVT
      have HGL := Lib.hid hgl
      have HZT := Lib.hid zVT
      clear hV0 hVT eV0 bV0 eVT bVT hr he e5T zV0 zVT hgl
      go_wp2_with fail
      rw [HV0.out, HVT.out]
      have NGT : Hid (g ≠ w5.heap.size + 1 ∧ ¬ Free g (w5.heap.size + 1) g (w5.heap.size + 1) (w5.heap.size + 1)) := by have := HGL.out; exact ⟨by omega, fun h => h.2.1 rfl⟩
      go_loopw [46] (fun i wr => ∃ j : Nat, ∃ t0 t1 t2 d, i = .int .i64 j ∧ j ≤ n1 ∧ Hid (Lasting P t0 t1 t2 d ∧ d.wait.length ≤ j) ∧ Hid (Live wr (Free g (w5.heap.size + 1) g (w5.heap.size + 1)) g d) ∧ Hid (wr.heap[w5.heap.size + 1]? = some (.cells #[.bool t0, .bool t1, .bool t2] 50 (0, 0))) ∧ Hid (Ext (Four g (w5.heap.size + 1) g (w5.heap.size + 1)) VT wr)) (fun i _ => n1 - (intOf i).toNat)
      case atStart => exact ⟨0, false, false, false, D3, rfl, by omega, HLA.out, LT.out, BT.out, Ext.refl _ _⟩
      case round =>
        obtain ⟨j, t0, t1, t2, d, rfl, hj, HI, HL, HB, HEr⟩ := hrel
        by_cases hlt : j < n1
        case neg =>
          obtain rfl : j = n1 := by omega
          have EW : Hid (Ext Non w wr) := ET.out.news HEr.out (by have := HG0.out; have := HGL.out; intro k hk; have hk' : k = g ∨ k = w5.heap.size + 1 ∨ k = g ∨ k = w5.heap.size + 1 := hk; omega)
          clear hlt
          have hst := HI.out.1.fell keep tear
          have gc := goes_crash HI.out.1.good HI.out.1.off keep tear
          have gs := goes_start gc.2.2.1 (by simp [Dk.down])
          have ff : (d.down keep tear).on.face = (d.fell keep tear, true) := face_on gs.2.2.1 rfl
          have GC := Lib.hid gc
          have GS := Lib.hid gs
          have FF := Lib.hid ff
          have HST := Lib.hid hst
          generalize d.fell keep tear = N at FF HST
          generalize d.down keep tear = DC at GC GS FF
          generalize DC.on = DO at GS FF
          clear hst gc gs ff
          go_wp2_with fail
          refine (crash_go HL.out GC.out).mono ?_
          rintro e w7 ⟨rfl, hl, he⟩
          have HL7 := Lib.hid hl
          have B7 := Lib.hid (he.obj HB.out (fun e => NGT.out.1 e.symm))
          have E7 := Lib.hid (HEr.out.trans he (fun _ _ e => Or.inl e))
          clear hl he
          go_wp2_with fail
          refine (start_go HL7.out GS.out).mono ?_
          rintro e w8 ⟨rfl, hl, he⟩
          have HL8 := Lib.hid hl
          have B8 := Lib.hid (he.obj B7.out (fun e => NGT.out.1 e.symm))
          have E8 := Lib.hid (E7.out.trans he (fun _ _ e => Or.inl e))
          clear hl he
          go_wp2_with fail
          refine (face_go HL8.out FF.out).mono ?_
          rintro e w9 ⟨C0, m0, d0, C1, m1, d1, C2, m2, d2, rfl, hr, he⟩
          have B9 := Lib.hid (he.out.obj B8.out (fun e => e))
          have E9 := Lib.hid (E8.out.trans0 he.out)
          obtain ⟨V1, hV1⟩ : ∃ V, w9.alloc (.cells #[.slice C0 m0 d0, .slice C1 m1 d1, .slice C2 m2 d2] 31) = V := ⟨_, rfl⟩
          have eV1 : Ext Non w9 V1 := by rw [← hV1]; exact (Ext.refl Non w9).alloc _
          have bV1 := heap_alloc_new w9 (.cells #[.slice C0 m0 d0, .slice C1 m1 d1, .slice C2 m2 d2] 31)
          rw [hV1] at bV1
          have BC := Lib.hid bV1
          have B10 := Lib.hid (eV1.obj B9.out (fun e => e))
          have E10 := Lib.hid (E9.out.trans0 eV1)
          have PC := Lib.hid (And.intro (hr.out.1.ext0 eV1) (And.intro (hr.out.2.1.ext0 eV1) (hr.out.2.2.ext0 eV1)))
          have HV1 := Lib.hid hV1
          clear hV1 eV1 bV1 hr he
          go_wp2_with fail
          rw [HV1.out]
          have hnf : ∀ k, Four g (w5.heap.size + 1) g (w5.heap.size + 1) k → k = g ∨ k = w5.heap.size + 1 := fun k hk => by
            have hk' : k = g ∨ k = w5.heap.size + 1 ∨ k = g ∨ k = w5.heap.size + 1 := hk
            omega
          have BF10 := Lib.hid (E10.out.obj BF.out (fun e => by have := hnf _ e; have := HGL.out; omega))
          have hpf : ∀ k, Fresh w4 w5 k → k < VT.heap.size → ¬ Four g (w5.heap.size + 1) g (w5.heap.size + 1) k := fun k hk _ e => by have := hnf _ e; have h1 := hk.1; have h2 := hk.2; have := HG4.out; omega
          have PF10 := Lib.hid (And.intro (PF.out.1.ext E10.out hpf) (And.intro (PF.out.2.1.ext E10.out hpf) (PF.out.2.2.ext E10.out hpf)))
          have EW10 : Hid (Ext Non w V1) := ET.out.news E10.out (by have := HG0.out; have := HGL.out; intro k hk; have hk' := hnf k hk; omega)
          clear hnf hpf
          go_loopw [94] (fun i wq => ∃ j : Nat, i = .int .i64 j ∧ j ≤ 2 ∧ Hid (Ext Non V1 wq)) (fun i _ => 2 - (intOf i).toNat)
          case atStart => exact ⟨0, rfl, by omega, Ext.refl _ _⟩
          case round =>
            obtain ⟨j, rfl, hj, HEq⟩ := hrel
            have f0 := blk_cell (HEq.out.obj BF10.out (fun e => e)) 0
            have f1 := blk_cell (HEq.out.obj BF10.out (fun e => e)) 1
            have f2 := blk_cell (HEq.out.obj BF10.out (fun e => e)) 2
            have k0 := blk_cell (HEq.out.obj BC.out (fun e => e)) 0
            have k1 := blk_cell (HEq.out.obj BC.out (fun e => e)) 1
            have k2 := blk_cell (HEq.out.obj BC.out (fun e => e)) 2
            have b0 := blk_cell (HEq.out.obj B10.out (fun e => e)) 0
            have b1 := blk_cell (HEq.out.obj B10.out (fun e => e)) 1
            have b2 := blk_cell (HEq.out.obj B10.out (fun e => e)) 2
            simp at f0 f1 f2 k0 k1 k2 b0 b1 b2
            have hj3 : j = 0 ∨ j = 1 ∨ j = 2 := by omega
            rcases hj3 with rfl | rfl | rfl
            · clear f1 f2 k1 k2 b1 b2
              cases t0 with
              | true =>
                go_wp2_with fail
                go_quiet (fail)
                go_wp2_with fail
                go_roundw
                case rel => exact ⟨1, by go_num, by omega, HEq.out.drewN _⟩
                case measure => simp [intOf]
              | false =>
                have RX := Lib.hid (fun m => PF10.out.1.ext0 (HEq.out.drewN m))
                have RY := Lib.hid (fun m => PC.out.1.ext0 (HEq.out.drewN m))
                have hse := HST.out.s0 rfl
                have HSE := Lib.hid hse
                clear hse
                go_wp2_with fail
                go_quiet ((go_at_call 27; exact Calls.quiet_of_same (v := .bool true) ((Equal_calls (RX.out _) (RY.out _)).mono (fun _ _ h => ⟨by rw [h.1, HSE.out, beq_self_eq_true], h.2.symm⟩))))
                go_wp2_with fail
                go_roundw
                case rel => exact ⟨1, by go_num, by omega, HEq.out.drewN _⟩
                case measure => simp [intOf]
            · clear f0 f2 k0 k2 b0 b2
              cases t1 with
              | true =>
                go_wp2_with fail
                go_quiet (fail)
                go_wp2_with fail
                go_roundw
                case rel => exact ⟨2, by go_num, by omega, HEq.out.drewN _⟩
                case measure => simp [intOf]
              | false =>
                have RX := Lib.hid (fun m => PF10.out.2.1.ext0 (HEq.out.drewN m))
                have RY := Lib.hid (fun m => PC.out.2.1.ext0 (HEq.out.drewN m))
                have hse := HST.out.s1 rfl
                have HSE := Lib.hid hse
                clear hse
                go_wp2_with fail
                go_quiet ((go_at_call 27; exact Calls.quiet_of_same (v := .bool true) ((Equal_calls (RX.out _) (RY.out _)).mono (fun _ _ h => ⟨by rw [h.1, HSE.out, beq_self_eq_true], h.2.symm⟩))))
                go_wp2_with fail
                go_roundw
                case rel => exact ⟨2, by go_num, by omega, HEq.out.drewN _⟩
                case measure => simp [intOf]
            · clear f0 f1 k0 k1 b0 b1
              have RX := Lib.hid (PC.out.2.2.ext0 HEq.out)
              have RY := Lib.hid (PF10.out.2.2.ext0 HEq.out)
              cases t2 with
              | true =>
                go_wp2_with fail
                refine (awake_calls _).mono ?_
                rintro e w11 ⟨rfl, he⟩
                have E11 := Lib.hid ((EW10.out.trans0 HEq.out).trans0 he)
                clear he
                go_wp2_with fail
                go_ret
                exact ⟨rfl, E11.out⟩
              | false =>
                go_wp2_with fail
                refine (HasPrefix_yes RX.out RY.out (HST.out.tape rfl)).mono ?_
                rintro e w11 ⟨rfl, rfl⟩
                go_wp2_with fail
                refine (awake_calls _).mono ?_
                rintro e w11 ⟨rfl, he⟩
                have E11 := Lib.hid ((EW10.out.trans0 HEq.out).trans0 he)
                clear he
                go_wp2_with fail
                go_ret
                exact ⟨rfl, E11.out⟩
        obtain ⟨⟨ko, ki, kk, kt, kb⟩, hx⟩ : ∃ k, more[j]? = some k := ⟨_, List.getElem?_eq_getElem (by have := HN1.out; omega)⟩
        have EW : Hid (Ext Non w wr) := ET.out.news HEr.out (by have := HG0.out; have := HGL.out; intro k hk; have hk' : k = g ∨ k = w5.heap.size + 1 ∨ k = g ∨ k = w5.heap.size + 1 := hk; omega)
        obtain ⟨gl, off, Bs, mb, db, rfl, hgl, e0, e1, e2, e3, e4, hv⟩ := call_at (HR1.out.bound.ext0 EW.out) hx
        simp only [] at e0 e1 e2 e3 e4 hv
        have HV := Lib.hid hv
        have HBY := Lib.hid (HS1.out.2 _ (List.mem_of_getElem? hx))
        have HOK := Lib.hid (HO1.out _ (List.mem_of_getElem? hx))
        obtain ⟨K, hK⟩ : ∃ K : Int, (TM.Call.mk ko ki kk kt kb).kind = K := ⟨_, rfl⟩
        have hkb : K = 0 ∨ K = 1 ∨ K = 2 ∨ K = 3 ∨ K = 4 ∨ K = 5 ∨ K = 6 ∨ K = 7 ∨ K = 8 := by rw [← hK]; unfold TM.Call.kind; omega
        have hq : wrap64 ((IntKind.u64.wrap ko).tmod 9) = K := by rw [← hK]; exact kind_eq ko
        have b0 := blk_cell HB.out 0
        have b1 := blk_cell HB.out 1
        have b2 := blk_cell HB.out 2
        simp at b0 b1 b2
        have y0 := blk_frozen HB.out 0
        have y1 := blk_frozen HB.out 1
        have y2 := blk_frozen HB.out 2
        have hgt := blk_lt HB.out
        clear hx hv
        rcases hkb with rfl | rfl | rfl | rfl | rfl | rfl | rfl | rfl | rfl
        · have hL : Lasting P t0 t1 t2 (d.call ⟨ko, ki, kk, kt, kb⟩).2 := HI.out.1.call HOK.out (fun h => h) (fun h => h) (fun h => h) (by rw [hK]; decide) (fun h => absurd h (by rw [hK]; decide)) (fun h => absurd h (by rw [hK]; decide))
          have hw1 : (d.call ⟨ko, ki, kk, kt, kb⟩).2.wait.length ≤ j + 1 := by have h1 := Dk.call_wait d ⟨ko, ki, kk, kt, kb⟩; have h2 := HI.out.2; omega
          have HGO : Hid (Goes (d.call ⟨ko, ki, kk, kt, kb⟩) (d.call ⟨ko, ki, kk, kt, kb⟩).1 (d.call ⟨ko, ki, kk, kt, kb⟩).2) := ⟨rfl, rfl, hL.good, by omega⟩
          have HLN := Lib.hid hL
          have HWN := Lib.hid hw1
          generalize (d.call ⟨ko, ki, kk, kt, kb⟩).1 = x at HGO
          generalize (d.call ⟨ko, ki, kk, kt, kb⟩).2 = d' at HGO HLN HWN
          clear hL hw1 hK
          have eA : Ext Non wr (wr.alloc (.cells #[.int .i64 ko, .int .i64 ki, .int .i64 kk, .int .i64 kt, .slice Bs mb db] 43)) := (Ext.refl Non wr).alloc _
          have LA := Lib.hid (HL.out.ext eA)
          have VA := Lib.hid (HV.out.ext0 eA)
          have BA := Lib.hid (eA.obj HB.out (fun e => e))
          have EA := Lib.hid (HEr.out.trans0 eA)
          clear eA b0 b1 b2 y0 y1 y2
          go_wp2_with fail
          refine (does_go LA.out (k := ⟨ko, ki, kk, kt, kb⟩) VA.out (by have := HBY.out; simp only [] at this ⊢; omega) HGO.out).mono ?_
          rintro e w7 ⟨rfl, hl, he⟩
          have HL7 := Lib.hid hl
          have B7 := Lib.hid (he.obj BA.out (fun e => NGT.out.1 e.symm))
          have E7 := Lib.hid (EA.out.trans he (fun _ _ e => Or.inl e))
          clear hl he
          go_wp2_with fail
          go_roundw
          case rel => exact ⟨j + 1, t0, t1, t2, d', by go_num, by omega, ⟨HLN.out, HWN.out⟩, HL7.out, B7.out, E7.out⟩
          case measure => simp [intOf]; omega
        · have hL : Lasting P t0 t1 t2 (d.call ⟨ko, ki, kk, kt, kb⟩).2 := HI.out.1.call HOK.out (fun h => h) (fun h => h) (fun h => h) (by rw [hK]; decide) (fun h => absurd h (by rw [hK]; decide)) (fun h => absurd h (by rw [hK]; decide))
          have hw1 : (d.call ⟨ko, ki, kk, kt, kb⟩).2.wait.length ≤ j + 1 := by have h1 := Dk.call_wait d ⟨ko, ki, kk, kt, kb⟩; have h2 := HI.out.2; omega
          have HGO : Hid (Goes (d.call ⟨ko, ki, kk, kt, kb⟩) (d.call ⟨ko, ki, kk, kt, kb⟩).1 (d.call ⟨ko, ki, kk, kt, kb⟩).2) := ⟨rfl, rfl, hL.good, by omega⟩
          have HLN := Lib.hid hL
          have HWN := Lib.hid hw1
          generalize (d.call ⟨ko, ki, kk, kt, kb⟩).1 = x at HGO
          generalize (d.call ⟨ko, ki, kk, kt, kb⟩).2 = d' at HGO HLN HWN
          clear hL hw1 hK
          have eA : Ext Non wr (wr.alloc (.cells #[.int .i64 ko, .int .i64 ki, .int .i64 kk, .int .i64 kt, .slice Bs mb db] 43)) := (Ext.refl Non wr).alloc _
          have LA := Lib.hid (HL.out.ext eA)
          have VA := Lib.hid (HV.out.ext0 eA)
          have BA := Lib.hid (eA.obj HB.out (fun e => e))
          have EA := Lib.hid (HEr.out.trans0 eA)
          clear eA b0 b1 b2 y0 y1 y2
          go_wp2_with fail
          refine (does_go LA.out (k := ⟨ko, ki, kk, kt, kb⟩) VA.out (by have := HBY.out; simp only [] at this ⊢; omega) HGO.out).mono ?_
          rintro e w7 ⟨rfl, hl, he⟩
          have HL7 := Lib.hid hl
          have B7 := Lib.hid (he.obj BA.out (fun e => NGT.out.1 e.symm))
          have E7 := Lib.hid (EA.out.trans he (fun _ _ e => Or.inl e))
          clear hl he
          go_wp2_with fail
          go_roundw
          case rel => exact ⟨j + 1, t0, t1, t2, d', by go_num, by omega, ⟨HLN.out, HWN.out⟩, HL7.out, B7.out, E7.out⟩
          case measure => simp [intOf]; omega
        · by_cases hi0 : ki = 0
          · subst hi0
            have hL : Lasting P true t1 t2 (d.call ⟨ko, 0, kk, kt, kb⟩).2 := HI.out.1.call HOK.out (fun _ => rfl) (fun h => h) (fun h => h) (by rw [hK]; decide) (fun _ => ⟨fun _ => rfl, fun h => absurd h (show ¬ (0 : Int) = 1 by decide)⟩) (fun h => absurd h (by rw [hK]; decide))
            have hw1 : (d.call ⟨ko, 0, kk, kt, kb⟩).2.wait.length ≤ j + 1 := by have h1 := Dk.call_wait d ⟨ko, 0, kk, kt, kb⟩; have h2 := HI.out.2; omega
            have HGO : Hid (Goes (d.call ⟨ko, 0, kk, kt, kb⟩) (d.call ⟨ko, 0, kk, kt, kb⟩).1 (d.call ⟨ko, 0, kk, kt, kb⟩).2) := ⟨rfl, rfl, hL.good, by omega⟩
            have HLN := Lib.hid hL
            have HWN := Lib.hid hw1
            generalize (d.call ⟨ko, 0, kk, kt, kb⟩).1 = x at HGO
            generalize (d.call ⟨ko, 0, kk, kt, kb⟩).2 = d' at HGO HLN HWN
            clear hL hw1 hK
            have eS : Ext (Only (w5.heap.size + 1)) wr (wr.setCell ⟨w5.heap.size + 1, 0, none⟩ (.bool true)) := (Ext.refl _ _).og 0 _
            have eA : Ext Non (wr.setCell ⟨w5.heap.size + 1, 0, none⟩ (.bool true)) ((wr.setCell ⟨w5.heap.size + 1, 0, none⟩ (.bool true)).alloc (.cells #[.int .i64 ko, .int .i64 0, .int .i64 kk, .int .i64 kt, .slice Bs mb db] 43)) := (Ext.refl Non _).alloc _
            have LA := Lib.hid ((HL.out.other eS NGT.out).ext eA)
            have VA := Lib.hid ((HV.out.ext eS (fun k hk _ e => by have e1 : k = w5.heap.size + 1 := e; have e2 := hk.2; have e3 := E4.out.size; have e4 := HZ5.out; omega)).ext0 eA)
            have BS : (wr.setCell ⟨w5.heap.size + 1, 0, none⟩ (.bool true)).heap[w5.heap.size + 1]? = some (.cells #[.bool true, .bool t1, .bool t2] 50 (0, 0)) := by simpa using blk_set HB.out 0 (.bool true)
            have BA := Lib.hid (eA.obj BS (fun e => e))
            have EA := Lib.hid ((HEr.out.trans eS (fun _ _ e => Or.inr (Or.inl e))).trans0 eA)
            clear eA eS BS
            go_wp2_with fail
            refine (does_go LA.out (k := ⟨ko, 0, kk, kt, kb⟩) VA.out (by have := HBY.out; simp only [] at this ⊢; omega) HGO.out).mono ?_
            rintro e w7 ⟨rfl, hl, he⟩
            have HL7 := Lib.hid hl
            have B7 := Lib.hid (he.obj BA.out (fun e => NGT.out.1 e.symm))
            have E7 := Lib.hid (EA.out.trans he (fun _ _ e => Or.inl e))
            clear hl he
            go_wp2_with fail
            go_roundw
            case rel => exact ⟨j + 1, true, t1, t2, d', by go_num, by omega, ⟨HLN.out, HWN.out⟩, HL7.out, B7.out, E7.out⟩
            case measure => simp [intOf]; omega
          by_cases hi1 : ki = 1
          · subst hi1
            have hL : Lasting P t0 true t2 (d.call ⟨ko, 1, kk, kt, kb⟩).2 := HI.out.1.call HOK.out (fun h => h) (fun _ => rfl) (fun h => h) (by rw [hK]; decide) (fun _ => ⟨fun h => absurd h (show ¬ (1 : Int) = 0 by decide), fun _ => rfl⟩) (fun h => absurd h (by rw [hK]; decide))
            have hw1 : (d.call ⟨ko, 1, kk, kt, kb⟩).2.wait.length ≤ j + 1 := by have h1 := Dk.call_wait d ⟨ko, 1, kk, kt, kb⟩; have h2 := HI.out.2; omega
            have HGO : Hid (Goes (d.call ⟨ko, 1, kk, kt, kb⟩) (d.call ⟨ko, 1, kk, kt, kb⟩).1 (d.call ⟨ko, 1, kk, kt, kb⟩).2) := ⟨rfl, rfl, hL.good, by omega⟩
            have HLN := Lib.hid hL
            have HWN := Lib.hid hw1
            generalize (d.call ⟨ko, 1, kk, kt, kb⟩).1 = x at HGO
            generalize (d.call ⟨ko, 1, kk, kt, kb⟩).2 = d' at HGO HLN HWN
            clear hL hw1 hK
            have eS : Ext (Only (w5.heap.size + 1)) wr (wr.setCell ⟨w5.heap.size + 1, 1, none⟩ (.bool true)) := (Ext.refl _ _).og 1 _
            have eA : Ext Non (wr.setCell ⟨w5.heap.size + 1, 1, none⟩ (.bool true)) ((wr.setCell ⟨w5.heap.size + 1, 1, none⟩ (.bool true)).alloc (.cells #[.int .i64 ko, .int .i64 1, .int .i64 kk, .int .i64 kt, .slice Bs mb db] 43)) := (Ext.refl Non _).alloc _
            have LA := Lib.hid ((HL.out.other eS NGT.out).ext eA)
            have VA := Lib.hid ((HV.out.ext eS (fun k hk _ e => by have e1 : k = w5.heap.size + 1 := e; have e2 := hk.2; have e3 := E4.out.size; have e4 := HZ5.out; omega)).ext0 eA)
            have BS : (wr.setCell ⟨w5.heap.size + 1, 1, none⟩ (.bool true)).heap[w5.heap.size + 1]? = some (.cells #[.bool t0, .bool true, .bool t2] 50 (0, 0)) := by simpa using blk_set HB.out 1 (.bool true)
            have BA := Lib.hid (eA.obj BS (fun e => e))
            have EA := Lib.hid ((HEr.out.trans eS (fun _ _ e => Or.inr (Or.inl e))).trans0 eA)
            clear eA eS BS
            go_wp2_with fail
            refine (does_go LA.out (k := ⟨ko, 1, kk, kt, kb⟩) VA.out (by have := HBY.out; simp only [] at this ⊢; omega) HGO.out).mono ?_
            rintro e w7 ⟨rfl, hl, he⟩
            have HL7 := Lib.hid hl
            have B7 := Lib.hid (he.obj BA.out (fun e => NGT.out.1 e.symm))
            have E7 := Lib.hid (EA.out.trans he (fun _ _ e => Or.inl e))
            clear hl he
            go_wp2_with fail
            go_roundw
            case rel => exact ⟨j + 1, t0, true, t2, d', by go_num, by omega, ⟨HLN.out, HWN.out⟩, HL7.out, B7.out, E7.out⟩
            case measure => simp [intOf]; omega
          have p1 : (ki == 0) = false := by simpa using hi0
          have p2 : (ki == 1) = false := by simpa using hi1
          have hL : Lasting P t0 t1 t2 (d.call ⟨ko, ki, kk, kt, kb⟩).2 := HI.out.1.call HOK.out (fun h => h) (fun h => h) (fun h => h) (by rw [hK]; decide) (fun _ => ⟨fun h => absurd h hi0, fun h => absurd h hi1⟩) (fun h => absurd h (by rw [hK]; decide))
          have hw1 : (d.call ⟨ko, ki, kk, kt, kb⟩).2.wait.length ≤ j + 1 := by have h1 := Dk.call_wait d ⟨ko, ki, kk, kt, kb⟩; have h2 := HI.out.2; omega
          have HGO : Hid (Goes (d.call ⟨ko, ki, kk, kt, kb⟩) (d.call ⟨ko, ki, kk, kt, kb⟩).1 (d.call ⟨ko, ki, kk, kt, kb⟩).2) := ⟨rfl, rfl, hL.good, by omega⟩
          have HLN := Lib.hid hL
          have HWN := Lib.hid hw1
          generalize (d.call ⟨ko, ki, kk, kt, kb⟩).1 = x at HGO
          generalize (d.call ⟨ko, ki, kk, kt, kb⟩).2 = d' at HGO HLN HWN
          clear hL hw1 hK
          clear hi0 hi1
          have eA : Ext Non wr (wr.alloc (.cells #[.int .i64 ko, .int .i64 ki, .int .i64 kk, .int .i64 kt, .slice Bs mb db] 43)) := (Ext.refl Non wr).alloc _
          have LA := Lib.hid (HL.out.ext eA)
          have VA := Lib.hid (HV.out.ext0 eA)
          have BA := Lib.hid (eA.obj HB.out (fun e => e))
          have EA := Lib.hid (HEr.out.trans0 eA)
          clear eA b0 b1 b2 y0 y1 y2
          go_wp2_with fail
          refine (does_go LA.out (k := ⟨ko, ki, kk, kt, kb⟩) VA.out (by have := HBY.out; simp only [] at this ⊢; omega) HGO.out).mono ?_
          rintro e w7 ⟨rfl, hl, he⟩
          have HL7 := Lib.hid hl
          have B7 := Lib.hid (he.obj BA.out (fun e => NGT.out.1 e.symm))
          have E7 := Lib.hid (EA.out.trans he (fun _ _ e => Or.inl e))
          clear hl he
          go_wp2_with fail
          go_roundw
          case rel => exact ⟨j + 1, t0, t1, t2, d', by go_num, by omega, ⟨HLN.out, HWN.out⟩, HL7.out, B7.out, E7.out⟩
          case measure => simp [intOf]; omega
        · by_cases hi0 : ki = 0
          · subst hi0
            have hL : Lasting P true t1 t2 (d.call ⟨ko, 0, kk, kt, kb⟩).2 := HI.out.1.call HOK.out (fun _ => rfl) (fun h => h) (fun h => h) (by rw [hK]; decide) (fun _ => ⟨fun _ => rfl, fun h => absurd h (show ¬ (0 : Int) = 1 by decide)⟩) (fun h => absurd h (by rw [hK]; decide))
            have hw1 : (d.call ⟨ko, 0, kk, kt, kb⟩).2.wait.length ≤ j + 1 := by have h1 := Dk.call_wait d ⟨ko, 0, kk, kt, kb⟩; have h2 := HI.out.2; omega
            have HGO : Hid (Goes (d.call ⟨ko, 0, kk, kt, kb⟩) (d.call ⟨ko, 0, kk, kt, kb⟩).1 (d.call ⟨ko, 0, kk, kt, kb⟩).2) := ⟨rfl, rfl, hL.good, by omega⟩
            have HLN := Lib.hid hL
            have HWN := Lib.hid hw1
            generalize (d.call ⟨ko, 0, kk, kt, kb⟩).1 = x at HGO
            generalize (d.call ⟨ko, 0, kk, kt, kb⟩).2 = d' at HGO HLN HWN
            clear hL hw1 hK
            have eS : Ext (Only (w5.heap.size + 1)) wr (wr.setCell ⟨w5.heap.size + 1, 0, none⟩ (.bool true)) := (Ext.refl _ _).og 0 _
            have eA : Ext Non (wr.setCell ⟨w5.heap.size + 1, 0, none⟩ (.bool true)) ((wr.setCell ⟨w5.heap.size + 1, 0, none⟩ (.bool true)).alloc (.cells #[.int .i64 ko, .int .i64 0, .int .i64 kk, .int .i64 kt, .slice Bs mb db] 43)) := (Ext.refl Non _).alloc _
            have LA := Lib.hid ((HL.out.other eS NGT.out).ext eA)
            have VA := Lib.hid ((HV.out.ext eS (fun k hk _ e => by have e1 : k = w5.heap.size + 1 := e; have e2 := hk.2; have e3 := E4.out.size; have e4 := HZ5.out; omega)).ext0 eA)
            have BS : (wr.setCell ⟨w5.heap.size + 1, 0, none⟩ (.bool true)).heap[w5.heap.size + 1]? = some (.cells #[.bool true, .bool t1, .bool t2] 50 (0, 0)) := by simpa using blk_set HB.out 0 (.bool true)
            have BA := Lib.hid (eA.obj BS (fun e => e))
            have EA := Lib.hid ((HEr.out.trans eS (fun _ _ e => Or.inr (Or.inl e))).trans0 eA)
            clear eA eS BS
            go_wp2_with fail
            refine (does_go LA.out (k := ⟨ko, 0, kk, kt, kb⟩) VA.out (by have := HBY.out; simp only [] at this ⊢; omega) HGO.out).mono ?_
            rintro e w7 ⟨rfl, hl, he⟩
            have HL7 := Lib.hid hl
            have B7 := Lib.hid (he.obj BA.out (fun e => NGT.out.1 e.symm))
            have E7 := Lib.hid (EA.out.trans he (fun _ _ e => Or.inl e))
            clear hl he
            go_wp2_with fail
            go_roundw
            case rel => exact ⟨j + 1, true, t1, t2, d', by go_num, by omega, ⟨HLN.out, HWN.out⟩, HL7.out, B7.out, E7.out⟩
            case measure => simp [intOf]; omega
          by_cases hi1 : ki = 1
          · subst hi1
            have hL : Lasting P t0 true t2 (d.call ⟨ko, 1, kk, kt, kb⟩).2 := HI.out.1.call HOK.out (fun h => h) (fun _ => rfl) (fun h => h) (by rw [hK]; decide) (fun _ => ⟨fun h => absurd h (show ¬ (1 : Int) = 0 by decide), fun _ => rfl⟩) (fun h => absurd h (by rw [hK]; decide))
            have hw1 : (d.call ⟨ko, 1, kk, kt, kb⟩).2.wait.length ≤ j + 1 := by have h1 := Dk.call_wait d ⟨ko, 1, kk, kt, kb⟩; have h2 := HI.out.2; omega
            have HGO : Hid (Goes (d.call ⟨ko, 1, kk, kt, kb⟩) (d.call ⟨ko, 1, kk, kt, kb⟩).1 (d.call ⟨ko, 1, kk, kt, kb⟩).2) := ⟨rfl, rfl, hL.good, by omega⟩
            have HLN := Lib.hid hL
            have HWN := Lib.hid hw1
            generalize (d.call ⟨ko, 1, kk, kt, kb⟩).1 = x at HGO
            generalize (d.call ⟨ko, 1, kk, kt, kb⟩).2 = d' at HGO HLN HWN
            clear hL hw1 hK
            have eS : Ext (Only (w5.heap.size + 1)) wr (wr.setCell ⟨w5.heap.size + 1, 1, none⟩ (.bool true)) := (Ext.refl _ _).og 1 _
            have eA : Ext Non (wr.setCell ⟨w5.heap.size + 1, 1, none⟩ (.bool true)) ((wr.setCell ⟨w5.heap.size + 1, 1, none⟩ (.bool true)).alloc (.cells #[.int .i64 ko, .int .i64 1, .int .i64 kk, .int .i64 kt, .slice Bs mb db] 43)) := (Ext.refl Non _).alloc _
            have LA := Lib.hid ((HL.out.other eS NGT.out).ext eA)
            have VA := Lib.hid ((HV.out.ext eS (fun k hk _ e => by have e1 : k = w5.heap.size + 1 := e; have e2 := hk.2; have e3 := E4.out.size; have e4 := HZ5.out; omega)).ext0 eA)
            have BS : (wr.setCell ⟨w5.heap.size + 1, 1, none⟩ (.bool true)).heap[w5.heap.size + 1]? = some (.cells #[.bool t0, .bool true, .bool t2] 50 (0, 0)) := by simpa using blk_set HB.out 1 (.bool true)
            have BA := Lib.hid (eA.obj BS (fun e => e))
            have EA := Lib.hid ((HEr.out.trans eS (fun _ _ e => Or.inr (Or.inl e))).trans0 eA)
            clear eA eS BS
            go_wp2_with fail
            refine (does_go LA.out (k := ⟨ko, 1, kk, kt, kb⟩) VA.out (by have := HBY.out; simp only [] at this ⊢; omega) HGO.out).mono ?_
            rintro e w7 ⟨rfl, hl, he⟩
            have HL7 := Lib.hid hl
            have B7 := Lib.hid (he.obj BA.out (fun e => NGT.out.1 e.symm))
            have E7 := Lib.hid (EA.out.trans he (fun _ _ e => Or.inl e))
            clear hl he
            go_wp2_with fail
            go_roundw
            case rel => exact ⟨j + 1, t0, true, t2, d', by go_num, by omega, ⟨HLN.out, HWN.out⟩, HL7.out, B7.out, E7.out⟩
            case measure => simp [intOf]; omega
          have p1 : (ki == 0) = false := by simpa using hi0
          have p2 : (ki == 1) = false := by simpa using hi1
          have hL : Lasting P t0 t1 t2 (d.call ⟨ko, ki, kk, kt, kb⟩).2 := HI.out.1.call HOK.out (fun h => h) (fun h => h) (fun h => h) (by rw [hK]; decide) (fun _ => ⟨fun h => absurd h hi0, fun h => absurd h hi1⟩) (fun h => absurd h (by rw [hK]; decide))
          have hw1 : (d.call ⟨ko, ki, kk, kt, kb⟩).2.wait.length ≤ j + 1 := by have h1 := Dk.call_wait d ⟨ko, ki, kk, kt, kb⟩; have h2 := HI.out.2; omega
          have HGO : Hid (Goes (d.call ⟨ko, ki, kk, kt, kb⟩) (d.call ⟨ko, ki, kk, kt, kb⟩).1 (d.call ⟨ko, ki, kk, kt, kb⟩).2) := ⟨rfl, rfl, hL.good, by omega⟩
          have HLN := Lib.hid hL
          have HWN := Lib.hid hw1
          generalize (d.call ⟨ko, ki, kk, kt, kb⟩).1 = x at HGO
          generalize (d.call ⟨ko, ki, kk, kt, kb⟩).2 = d' at HGO HLN HWN
          clear hL hw1 hK
          clear hi0 hi1
          have eA : Ext Non wr (wr.alloc (.cells #[.int .i64 ko, .int .i64 ki, .int .i64 kk, .int .i64 kt, .slice Bs mb db] 43)) := (Ext.refl Non wr).alloc _
          have LA := Lib.hid (HL.out.ext eA)
          have VA := Lib.hid (HV.out.ext0 eA)
          have BA := Lib.hid (eA.obj HB.out (fun e => e))
          have EA := Lib.hid (HEr.out.trans0 eA)
          clear eA b0 b1 b2 y0 y1 y2
          go_wp2_with fail
          refine (does_go LA.out (k := ⟨ko, ki, kk, kt, kb⟩) VA.out (by have := HBY.out; simp only [] at this ⊢; omega) HGO.out).mono ?_
          rintro e w7 ⟨rfl, hl, he⟩
          have HL7 := Lib.hid hl
          have B7 := Lib.hid (he.obj BA.out (fun e => NGT.out.1 e.symm))
          have E7 := Lib.hid (EA.out.trans he (fun _ _ e => Or.inl e))
          clear hl he
          go_wp2_with fail
          go_roundw
          case rel => exact ⟨j + 1, t0, t1, t2, d', by go_num, by omega, ⟨HLN.out, HWN.out⟩, HL7.out, B7.out, E7.out⟩
          case measure => simp [intOf]; omega
        · have hL : Lasting P t0 t1 true (d.call ⟨ko, ki, kk, kt, kb⟩).2 := HI.out.1.call HOK.out (fun h => h) (fun h => h) (fun _ => rfl) (by rw [hK]; decide) (fun h => absurd h (by rw [hK]; decide)) (fun _ => rfl)
          have hw1 : (d.call ⟨ko, ki, kk, kt, kb⟩).2.wait.length ≤ j + 1 := by have h1 := Dk.call_wait d ⟨ko, ki, kk, kt, kb⟩; have h2 := HI.out.2; omega
          have HGO : Hid (Goes (d.call ⟨ko, ki, kk, kt, kb⟩) (d.call ⟨ko, ki, kk, kt, kb⟩).1 (d.call ⟨ko, ki, kk, kt, kb⟩).2) := ⟨rfl, rfl, hL.good, by omega⟩
          have HLN := Lib.hid hL
          have HWN := Lib.hid hw1
          generalize (d.call ⟨ko, ki, kk, kt, kb⟩).1 = x at HGO
          generalize (d.call ⟨ko, ki, kk, kt, kb⟩).2 = d' at HGO HLN HWN
          clear hL hw1 hK
          have eS : Ext (Only (w5.heap.size + 1)) wr (wr.setCell ⟨w5.heap.size + 1, 2, none⟩ (.bool true)) := (Ext.refl _ _).og 2 _
          have eA : Ext Non (wr.setCell ⟨w5.heap.size + 1, 2, none⟩ (.bool true)) ((wr.setCell ⟨w5.heap.size + 1, 2, none⟩ (.bool true)).alloc (.cells #[.int .i64 ko, .int .i64 ki, .int .i64 kk, .int .i64 kt, .slice Bs mb db] 43)) := (Ext.refl Non _).alloc _
          have LA := Lib.hid ((HL.out.other eS NGT.out).ext eA)
          have VA := Lib.hid ((HV.out.ext eS (fun k hk _ e => by have e1 : k = w5.heap.size + 1 := e; have e2 := hk.2; have e3 := E4.out.size; have e4 := HZ5.out; omega)).ext0 eA)
          have BS : (wr.setCell ⟨w5.heap.size + 1, 2, none⟩ (.bool true)).heap[w5.heap.size + 1]? = some (.cells #[.bool t0, .bool t1, .bool true] 50 (0, 0)) := by simpa using blk_set HB.out 2 (.bool true)
          have BA := Lib.hid (eA.obj BS (fun e => e))
          have EA := Lib.hid ((HEr.out.trans eS (fun _ _ e => Or.inr (Or.inl e))).trans0 eA)
          clear eA eS BS
          go_wp2_with fail
          refine (does_go LA.out (k := ⟨ko, ki, kk, kt, kb⟩) VA.out (by have := HBY.out; simp only [] at this ⊢; omega) HGO.out).mono ?_
          rintro e w7 ⟨rfl, hl, he⟩
          have HL7 := Lib.hid hl
          have B7 := Lib.hid (he.obj BA.out (fun e => NGT.out.1 e.symm))
          have E7 := Lib.hid (EA.out.trans he (fun _ _ e => Or.inl e))
          clear hl he
          go_wp2_with fail
          go_roundw
          case rel => exact ⟨j + 1, t0, t1, true, d', by go_num, by omega, ⟨HLN.out, HWN.out⟩, HL7.out, B7.out, E7.out⟩
          case measure => simp [intOf]; omega
        · clear b0 b1 b2 y0 y1 y2 hK
          go_wp2_with fail
          go_roundw
          case rel => exact ⟨j + 1, t0, t1, t2, d, by go_num, by omega, ⟨HI.out.1, by have := HI.out.2; omega⟩, HL.out.ext ((Ext.refl Non wr).alloc _), blk_alloc HB.out _, HEr.out.alloc _⟩
          case measure => simp [intOf]; omega
        · clear b0 b1 b2 y0 y1 y2 hK
          go_wp2_with fail
          go_roundw
          case rel => exact ⟨j + 1, t0, t1, t2, d, by go_num, by omega, ⟨HI.out.1, by have := HI.out.2; omega⟩, HL.out.ext ((Ext.refl Non wr).alloc _), blk_alloc HB.out _, HEr.out.alloc _⟩
          case measure => simp [intOf]; omega
        · clear b0 b1 b2 y0 y1 y2 hK
          go_wp2_with fail
          go_roundw
          case rel => exact ⟨j + 1, t0, t1, t2, d, by go_num, by omega, ⟨HI.out.1, by have := HI.out.2; omega⟩, HL.out.ext ((Ext.refl Non wr).alloc _), blk_alloc HB.out _, HEr.out.alloc _⟩
          case measure => simp [intOf]; omega
        · clear b0 b1 b2 y0 y1 y2 hK
          go_wp2_with fail
          go_roundw
          case rel => exact ⟨j + 1, t0, t1, t2, d, by go_num, by omega, ⟨HI.out.1, by have := HI.out.2; omega⟩, HL.out.ext ((Ext.refl Non wr).alloc _), blk_alloc HB.out _, HEr.out.alloc _⟩
          case measure => simp [intOf]; omega
end Go.Proofs.Ytpmncppfopbaaaa
