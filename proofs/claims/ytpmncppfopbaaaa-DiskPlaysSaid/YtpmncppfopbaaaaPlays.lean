/- DiskPlays. -/
import Derived.Test.YtpmncppfopbaaaaE7
import Derived.Deep.CutBlock
import Derived.Deep.CutRange
namespace Go.Proofs.Ytpmncppfopbaaaa
open Go.RowKit Go.TM

set_option maxHeartbeats 16000000 in
set_option maxRecDepth 100000 in
theorem plays_calls {w : World} {ok : Nat → Prop} {A : Option Addr} {n c : Nat} {l : List TM.Call} (room : Int) (R : Rd callK w ok (.slice A n c) l) (hok : ∀ k ∈ l, k.Ok) :
    Calls Try.prog 9 #[.int .i64 room, .slice A n c] w fun e w' => e = .returned (.bool true) ∧ Ext Non w w' := by
  have HR := Lib.hid R
  have HO := Lib.hid hok
  obtain ⟨hnl, -⟩ := rd_len R
  have HNL := Lib.hid hnl
  clear R hok hnl
  by_cases hroom : room < 1 ∨ 16777216 < room
  case pos =>
    go_enter Try.func9, Try.ntmps9
    go_wp2_with fail
    refine (new_bad w room hroom).mono ?_
    rintro e w1 ⟨rfl, rfl⟩
    go_wp2_with fail
    refine (rnew_bad w room hroom).mono ?_
    rintro e w1 ⟨rfl, rfl⟩
    have E0 : Hid (Ext Non w w) := Ext.refl _ _
    go_wp2_with fail
    refine (awake_calls _).mono ?_
    rintro e w90 ⟨rfl, he⟩
    have E90 := Lib.hid (E0.out.trans0 he)
    clear he
    go_wp2_with fail
    go_ret
    exact ⟨rfl, E90.out⟩
  have hr1 : 1 ≤ room := by omega
  have hr2 : room ≤ 16777216 := by omega
  clear hroom
  go_enter Try.func9, Try.ntmps9
  go_wp2_with fail
  refine (New_calls w room hr1 hr2).mono ?_
  rintro e w1 ⟨rfl, hl1, he1, hz1⟩
  obtain ⟨a, ha⟩ : ∃ a, a = w.heap.size := ⟨_, rfl⟩
  rw [← ha] at hl1 hz1 ⊢
  have HA0 := Lib.hid (hl1.at_.sub (ok' := fun k => k ≠ a ∧ k < w1.heap.size) (fun k hk h => ⟨hk.2, h⟩))
  have E1 := Lib.hid he1
  have HG0 := Lib.hid hl1.good
  have ZA := Lib.hid hz1
  have HAe := Lib.hid ha
  clear hl1 he1 hz1 ha
  go_wp2_with fail
  refine (rnew_calls w1 room hr1 hr2).mono ?_
  rintro e w2 ⟨rfl, hl2, he2, hz2⟩
  obtain ⟨x, hx⟩ : ∃ x, x = w1.heap.size := ⟨_, rfl⟩
  have hl2' := hl2.at_
  rw [← hx] at hl2' hz2 ⊢
  have HAX : Hid (a < x) := by have := ZA.out; show _ < _; omega
  have HP0 : Hid (Pair w2 a x (Dk.new room)) := ⟨(HA0.out.ext he2).sub (fun k hk _ => ⟨hk.1, by have := hk.2; omega⟩), hl2'.sub (fun k hk _ => ⟨by have := hk.1; have := HAX.out; omega, hk.2⟩), by have := HAX.out; omega, by have := HAX.out; omega, hz2, HG0.out, by simp [Dk.new]⟩
  have E2 := Lib.hid (E1.out.trans0 he2)
  have HWA : Hid (w.heap.size ≤ a ∧ w.heap.size ≤ x) := by have := HAe.out; have := HAX.out; exact ⟨by omega, by omega⟩
  clear hl2 he2 hz2 hx hl2' HA0
  have hne : (a == x) = false := by have := HAX.out; simp; omega
  clear hne
  go_wp2_with fail
  refine (short_calls (HR.out.ext0 E2.out)).mono ?_
  rintro e w3 ⟨s, rfl, rfl, hb⟩
  cases s with
  | false =>
    clear hb
    go_wp2_with fail
    refine (awake_calls _).mono ?_
    rintro e w90 ⟨rfl, he⟩
    have E90 := Lib.hid (E2.out.trans0 he)
    clear he
    go_wp2_with fail
    go_ret
    exact ⟨rfl, E90.out⟩
  | true =>
    have HS := Lib.hid (hb rfl)
    have HFI := Lib.hid (fine_of (hb rfl) HO.out)
    have q0 : (n : Int) ≤ 200 := by have h1 := (hb rfl).1; have := HNL.out; omega
    clear hb
    go_wp2_with fail
    go_loopw [57] (fun i wr => ∃ j : Nat, i = .int .i64 j ∧ j ≤ n ∧ Hid (Pair wr a x ((Dk.new room).run (l.take j))) ∧ Hid (Ext Non w wr)) (fun i _ => n - (intOf i).toNat)
    case atStart => exact ⟨0, rfl, by omega, HP0.out, E2.out⟩
    case round =>
      obtain ⟨j, rfl, hj, HP, HEr⟩ := hrel
      obtain ⟨wo, hwo⟩ : ∃ wo, wo = wr := ⟨_, rfl⟩
      subst hwo
      by_cases hlt : j < n
      case neg =>
        obtain rfl : n = j := by omega
        clear hlt
        go_wp2_with fail
        refine (awake_calls _).mono ?_
        rintro e w90 ⟨rfl, he⟩
        have E90 := Lib.hid (HEr.out.trans0 he)
        clear he
        go_wp2_with fail
        go_ret
        exact ⟨rfl, E90.out⟩
      obtain ⟨k, hx⟩ : ∃ k, l[j]? = some k := ⟨_, List.getElem?_eq_getElem (by have := HNL.out; omega)⟩
      obtain ⟨gl, off, Bs, mb, db, rfl, hgl, e0, e1, e2, e3, e4, hv⟩ := call_at (HR.out.bound.ext0 HEr.out) hx
      have HV := Lib.hid hv
      have HBY := Lib.hid (HS.out.2 k (List.mem_of_getElem? hx))
      have HRT := Lib.hid (run_take (d := Dk.new room) hx)
      have hgd : ((Dk.new room).run (l.take (j + 1))).Good := (Dk.Good.new hr1 hr2).run (fun c hc => HFI.out.ok c (List.mem_of_mem_take hc))
      have hwl : ((Dk.new room).run (l.take (j + 1))).wait.length ≤ 1000 := made_wait room _ (by rw [List.length_take]; have := HFI.out.n; omega)
      have HGD := Lib.hid hgd
      have HWL := Lib.hid hwl
      generalize hD : (Dk.new room).run (l.take j) = D at HP HRT
      generalize hD' : (Dk.new room).run (l.take (j + 1)) = D' at HRT HGD HWL
      have HD' := Lib.hid hD'
      have hgo : Goes (D.call k) (D.call k).1 D' := ⟨rfl, HRT.out.symm, HGD.out, by have := HWL.out; omega⟩
      obtain ⟨X, hX⟩ : ∃ X, (D.call k).1 = X := ⟨_, rfl⟩
      rw [hX] at hgo
      have HX1 := Lib.hid hX
      have HGO := Lib.hid hgo
      obtain ⟨W2, hW2, bK, bG, eW, zW⟩ := boxes2 wo (.cells #[.int .i64 k.op, .int .i64 k.i, .int .i64 k.keep, .int .i64 k.tear, .slice Bs mb db] 43) (.cells #[.int .i64 k.op, .int .i64 k.i, .int .i64 k.keep, .int .i64 k.tear, .slice Bs mb db] 43)
      have EW2 := Lib.hid eW
      have BK := Lib.hid bK
      have BG := Lib.hid bG
      have ZW := Lib.hid zW
      have HW2 := Lib.hid hW2
      clear hx hv hgd hwl hD hD' hgo hX hW2 bK bG eW zW hgl
      go_wp2_with fail
      rw [HW2.out]
      have TI := Lib.hid HP.out.tight
      refine (cloneB_calls (HV.out.ext0 EW2.out) (by have := HBY.out; omega)).mono ?_
      rintro e w3 ⟨A3, n3, c3, rfl, ho, he⟩
      have hbK := he.out.obj BK.out (fun e => e)
      have hbG := he.out.obj BG.out (fun e => e)
      have k0 := blk_cell hbK 0
      have g0 := blk_cell hbG 0
      have g1 := blk_cell hbG 1
      have g2 := blk_cell hbG 2
      have g3 := blk_cell hbG 3
      have g4 := blk_cell hbG 4
      simp at k0 g0 g1 g2 g3 g4
      have y4 := blk_frozen hbG 4
      have hlG := blk_lt hbG
      obtain ⟨wc, hwc⟩ : ∃ wc, w3.setCell ⟨wo.heap.size + 1, 4, none⟩ (.slice A3 n3 c3) = wc := ⟨_, rfl⟩
      have eC : Ext (Only (wo.heap.size + 1)) w3 wc := by rw [← hwc]; exact (Ext.refl _ w3).og 4 _
      have bG2 : wc.heap[wo.heap.size + 1]? = some (.cells #[.int .i64 k.op, .int .i64 k.i, .int .i64 k.keep, .int .i64 k.tear, .slice A3 n3 c3] 43 (0, 0)) := by rw [← hwc]; simpa using blk_set hbG 4 (.slice A3 n3 c3)
      have bK2 : wc.heap[wo.heap.size]? = some (.cells #[.int .i64 k.op, .int .i64 k.i, .int .i64 k.keep, .int .i64 k.tear, .slice Bs mb db] 43 (0, 0)) := eC.obj hbK (fun e => by have e1 : wo.heap.size = wo.heap.size + 1 := e; omega)
      have ho2 := ((Own.tight ho.out).ext eC (fun k hk _ e => by have e1 : k = wo.heap.size + 1 := e; have e2 := hk.1; have := ZW.out; omega))
      have OC := Lib.hid ho2
      have hbl := ho2.base_le
      have BG2 := Lib.hid bG2
      have BK2 := Lib.hid bK2
      have HWC := Lib.hid hwc
      have HOB : Hid (∀ k, (Value.slice A3 n3 c3).ownBlock = some k → W2.heap.size ≤ k) := fun k hk => (hbl k hk).1
      have hla := TI.out.la
      have hlx := TI.out.lx
      have nga : wo.heap.size ≠ a ∧ wo.heap.size + 1 ≠ a ∧ wo.heap.size ≠ x ∧ wo.heap.size + 1 ≠ x := by have := HP.out.la; have := HP.out.lx; exact ⟨by omega, by omega, by omega, by omega⟩
      have NG := Lib.hid nga
      have X1 : Ext (From wo.heap.size) wo wc := ((EW2.out.trans0 he.out).of0 (M := From wo.heap.size)).trans eC (fun _ _ e => by have e1 : _ = wo.heap.size + 1 := e; show wo.heap.size ≤ _; omega)
      have TC := TI.out.ext X1
      have XC := Lib.hid X1
      have hda : DiskAt wc (fun k => (k ≠ a ∧ k ≠ x) ∧ (Value.slice A3 n3 c3).ownBlock ≠ some k) a D :=
        TC.da.sub (fun k hk _ => ⟨hk.1, fun e => by have := HOB.out k e; have := hk.2; have := ZW.out; omega⟩)
      have hLc : Live wc (fun k => (k ≠ a ∧ k ≠ x) ∧ (Value.slice A3 n3 c3).ownBlock ≠ some k) a D :=
        ⟨hda, TC.good, fun k hk => ⟨⟨by have := TC.la; have := TC.le; omega, by have := TC.lx; have := TC.le; omega⟩, fun e => by have := (hbl k e).2; omega⟩, fun h => h.1.1 rfl, by have := TC.wl; omega⟩
      have LC := Lib.hid hLc
      have HTC := Lib.hid TC
      have EC0 := Lib.hid ((HEr.out.trans0 (EW2.out.trans0 he.out)).trans eC (fun i hi e => by have e1 : i = wo.heap.size + 1 := e; have := HEr.out.size; omega))
      have RC : Hid (Rd Kd.u8 wc (fun _ => True) (.slice A3 n3 c3) k.b) := ho2.rd.mono (fun _ _ => trivial)
      have HLEN : Hid (n3 = k.b.length) := (rd_len ho2.rd).1
      have q5 : (n3 : Int) ≤ 32768 := by have := HBY.out; have := HLEN.out; omega
      clear ho he eC bG2 bK2 ho2 hbl hwc hla hlx nga X1 TC hda hLc hbK hbG
      go_wp2_with fail
      rw [HWC.out]
      clear g0 g1 g2 g3 g4 k0 y4 hlG
      refine (does_go LC.out (k := k) RC.out (by have := HBY.out; omega) HGO.out).mono ?_
      rintro e w4 ⟨rfl, hl, he⟩
      have HL4 := Lib.hid hl
      have BG4 := Lib.hid (he.obj BG2.out (fun e => NG.out.2.1 e))
      have BK4 := Lib.hid (he.obj BK2.out (fun e => NG.out.1 e))
      have RX4 := Lib.hid (HTC.out.dx.far he (fun e => HTC.out.ne e.symm) (fun k hk _ e => hk.1.1 e))
      have E4 := Lib.hid (EC0.out.only_new he HWA.out.1)
      have O4 := Lib.hid (OC.out.ext he (fun k hk _ e => by have e1 : k = a := e; have e2 := hk.1; have := TI.out.la; have := ZW.out; omega))
      have X4 := Lib.hid (XInv.start O4.out)
      have Z4 := Lib.hid he.size
      have EY4 := Lib.hid ((XC.out.mono (M' := From w.heap.size) (fun i _ e => by have e1 : wo.heap.size ≤ i := e; have := HEr.out.size; show w.heap.size ≤ i; omega)).trans he (fun i _ e => by have e1 : i = a := e; have := HWA.out.1; show w.heap.size ≤ i; omega))
      have hg4 := blk_cell BG4.out 4
      simp at hg4
      clear hl he
      go_wp2_with fail
      clear hg4
      go_loopw [72] (fun i wr => ∃ j : Nat, i = .int .i64 j ∧ j ≤ n3 ∧ Hid (XInv wr W2.heap.size A3 k.b j) ∧ Hid (Ext (fun k => (Value.slice A3 n3 c3).ownBlock = some k) w4 wr)) (fun i _ => n3 - (intOf i).toNat)
      case atStart => exact ⟨0, rfl, by omega, X4.out, Ext.refl _ _⟩
      case round =>
        obtain ⟨i, rfl, hi, HX, HXE⟩ := hrel
        have hbG5 := HXE.out.obj BG4.out (fun e => by have e1 := HOB.out _ e; have := ZW.out; omega)
        have g4 := blk_cell hbG5 4
        simp at g4
        have HBG5 := Lib.hid hbG5
        clear hbG5
        by_cases hlt2 : i < n3
        · obtain ⟨y, hy⟩ : ∃ y, k.b[i]? = some y := ⟨_, List.getElem?_eq_getElem (by have := HLEN.out; omega)⟩
          obtain ⟨gb, rfl, hbb, hbl, xc, xf, hnx⟩ := HX.out.get hy
          have HNX := Lib.hid hnx
          have HXE3 := Lib.hid (fun v => HXE.out.setCell (p := ⟨gb, i, none⟩) (fun _ => by simp [Value.ownBlock]) v)
          clear hy hnx hbb
          go_wp2_with fail
          go_roundw
          case rel => exact ⟨i + 1, by go_num, by omega, HNX.out _, HXE3.out _⟩
          case measure => simp [intOf]; omega
        · obtain rfl : n3 = i := by omega
          clear hlt2 g4
          have E5 := Lib.hid (E4.out.trans HXE.out (fun i hi e => by have e1 := HOB.out _ e; have := ZW.out; have := HEr.out.size; omega))
          have hd5 : DiskAt wr (fun k => (k ≠ a ∧ k ≠ x) ∧ (Value.slice A3 n3 c3).ownBlock ≠ some k) a D' := HL4.out.at_.far HXE.out (fun e => by have e1 := HOB.out _ e; have := TI.out.la; have := ZW.out; omega) (fun k hk _ e => hk.2 e)
          have hr5 := RX4.out.far HXE.out (fun e => by have e1 := HOB.out _ e; have := TI.out.lx; have := ZW.out; omega) (fun k hk _ e => by have e1 := HOB.out _ e; have := hk.2; have := ZW.out; omega)
          have hbK5 := HXE.out.obj BK4.out (fun e => by have e1 := HOB.out _ e; have := ZW.out; omega)
          have kc0 : wr.cell? ⟨wo.heap.size, 0, none⟩ = some (.int .i64 k.op) := blk_cell hbK5 0
          have kc1 : wr.cell? ⟨wo.heap.size, 1, none⟩ = some (.int .i64 k.i) := blk_cell hbK5 1
          have kc2 : wr.cell? ⟨wo.heap.size, 2, none⟩ = some (.int .i64 k.keep) := blk_cell hbK5 2
          have kc3 : wr.cell? ⟨wo.heap.size, 3, none⟩ = some (.int .i64 k.tear) := blk_cell hbK5 3
          have kc4 : wr.cell? ⟨wo.heap.size, 4, none⟩ = some (.slice Bs mb db) := blk_cell hbK5 4
          have hz5 : wo.heap.size ≤ wr.heap.size := by have := blk_lt hbK5; omega
          have HR5 : Hid (RLive wr (fun k => k ≠ a ∧ k ≠ x) x D) := ⟨hr5.sub (fun _ hk _ => hk.1), TI.out.good, fun k hk => by have := TI.out.la; have := TI.out.lx; exact ⟨by omega, by omega⟩, fun e => e.2 rfl, by have := TI.out.wl; omega⟩
          have HD5 := Lib.hid hd5
          have EX5 := Lib.hid (EY4.out.trans HXE.out (fun i _ e => by have e1 := HOB.out _ e; have := ZW.out; have := HEr.out.size; show w.heap.size ≤ i; omega))
          have HBV : Hid (Rd Kd.u8 wr (fun k => k < w.heap.size) (.slice Bs mb db) k.b) := (HV.out.mono (ok' := fun k => k < w.heap.size) (fun k hk => hk.2))|>.ext EX5.out (fun k hk _ e => by have e1 : w.heap.size ≤ k := e; omega)
          have hq : wrap64 ((IntKind.u64.wrap k.op).tmod 9) = k.kind := kind_eq k.op
          have hwl5 : D.wait.length ≤ 90000000 := by have := TI.out.wl; omega
          have HWL5 := Lib.hid hwl5
          have HKB : Hid (k.b.length ≤ 140737488355328) := by have := HBY.out; show _ ≤ _; omega
          clear hd5 hr5 hbK5 hwl5
          go_upto_block 4 with fail
          go_cut [8] from 75 to 130 (fun s8 wx => s8 = .int .i64 X ∧ Hid (Pair wx a x D') ∧ Hid (Ext Non w wx))
          case first =>
            have hkk : k.kind = 0 ∨ k.kind = 1 ∨ k.kind = 2 ∨ k.kind = 3 ∨ k.kind = 4 ∨ k.kind = 5 ∨ k.kind = 6 ∨ k.kind = 7 ∨ k.kind = 8 := by unfold TM.Call.kind; omega
            rcases hkk with hv | hv | hv | hv | hv | hv | hv | hv | hv
            · have hcall : D.call k = D.append k.b := by unfold Dk.call; simp [hv]
              have h1 : (D.append k.b).1 = X := by rw [← hcall]; exact HX1.out
              have h2 : (D.append k.b).2 = D' := by rw [← hcall]; exact HRT.out.symm
              have H1 := Lib.hid h1
              have H2 := Lib.hid h2
              rw [hv] at hq
              clear hv hcall h1 h2
              go_wp2_with fail
              refine (rappend_calls HR5.out HBV.out HKB.out HWL5.out).mono ?_
              rintro e w6 ⟨rfl, hr, he⟩
              rw [H2.out] at hr
              rw [H1.out]
              have E6 := Lib.hid (E5.out.only_new he HWA.out.2)
              have hP : Pair w6 a x D' := ⟨(HD5.out.far he (fun e => HP.out.ne e) (fun k hk _ e => hk.1.2 e)).sub (fun _ hk _ => hk.1), hr, HP.out.ne, by have := HD5.out.cells.2.2.2.2.2.2; have := he.size; omega, by have := HR5.out.at_.flat.2.2.2.2.2.2; have := he.size; omega, HGD.out, by have := HWL.out; omega⟩
              have HP6 := Lib.hid hP
              clear hr he hP
              go_wp2_with fail
              go_meet
              exact ⟨rfl, HP6.out, E6.out⟩
            · have hcall : D.call k = D.append k.b := by unfold Dk.call; simp [hv]
              have h1 : (D.append k.b).1 = X := by rw [← hcall]; exact HX1.out
              have h2 : (D.append k.b).2 = D' := by rw [← hcall]; exact HRT.out.symm
              have H1 := Lib.hid h1
              have H2 := Lib.hid h2
              rw [hv] at hq
              clear hv hcall h1 h2
              go_wp2_with fail
              refine (rappend_calls HR5.out HBV.out HKB.out HWL5.out).mono ?_
              rintro e w6 ⟨rfl, hr, he⟩
              rw [H2.out] at hr
              rw [H1.out]
              have E6 := Lib.hid (E5.out.only_new he HWA.out.2)
              have hP : Pair w6 a x D' := ⟨(HD5.out.far he (fun e => HP.out.ne e) (fun k hk _ e => hk.1.2 e)).sub (fun _ hk _ => hk.1), hr, HP.out.ne, by have := HD5.out.cells.2.2.2.2.2.2; have := he.size; omega, by have := HR5.out.at_.flat.2.2.2.2.2.2; have := he.size; omega, HGD.out, by have := HWL.out; omega⟩
              have HP6 := Lib.hid hP
              clear hr he hP
              go_wp2_with fail
              go_meet
              exact ⟨rfl, HP6.out, E6.out⟩
            · have hcall : D.call k = D.slot k.i k.b := by unfold Dk.call; simp [hv]
              have h1 : (D.slot k.i k.b).1 = X := by rw [← hcall]; exact HX1.out
              have h2 : (D.slot k.i k.b).2 = D' := by rw [← hcall]; exact HRT.out.symm
              have H1 := Lib.hid h1
              have H2 := Lib.hid h2
              rw [hv] at hq
              clear hv hcall h1 h2
              go_wp2_with fail
              refine (rslot_calls HR5.out k.i HBV.out HKB.out HWL5.out).mono ?_
              rintro e w6 ⟨rfl, hr, he⟩
              rw [H2.out] at hr
              rw [H1.out]
              have E6 := Lib.hid (E5.out.only_new he HWA.out.2)
              have hP : Pair w6 a x D' := ⟨(HD5.out.far he (fun e => HP.out.ne e) (fun k hk _ e => hk.1.2 e)).sub (fun _ hk _ => hk.1), hr, HP.out.ne, by have := HD5.out.cells.2.2.2.2.2.2; have := he.size; omega, by have := HR5.out.at_.flat.2.2.2.2.2.2; have := he.size; omega, HGD.out, by have := HWL.out; omega⟩
              have HP6 := Lib.hid hP
              clear hr he hP
              go_wp2_with fail
              go_meet
              exact ⟨rfl, HP6.out, E6.out⟩
            · have hcall : D.call k = D.slot k.i k.b := by unfold Dk.call; simp [hv]
              have h1 : (D.slot k.i k.b).1 = X := by rw [← hcall]; exact HX1.out
              have h2 : (D.slot k.i k.b).2 = D' := by rw [← hcall]; exact HRT.out.symm
              have H1 := Lib.hid h1
              have H2 := Lib.hid h2
              rw [hv] at hq
              clear hv hcall h1 h2
              go_wp2_with fail
              refine (rslot_calls HR5.out k.i HBV.out HKB.out HWL5.out).mono ?_
              rintro e w6 ⟨rfl, hr, he⟩
              rw [H2.out] at hr
              rw [H1.out]
              have E6 := Lib.hid (E5.out.only_new he HWA.out.2)
              have hP : Pair w6 a x D' := ⟨(HD5.out.far he (fun e => HP.out.ne e) (fun k hk _ e => hk.1.2 e)).sub (fun _ hk _ => hk.1), hr, HP.out.ne, by have := HD5.out.cells.2.2.2.2.2.2; have := he.size; omega, by have := HR5.out.at_.flat.2.2.2.2.2.2; have := he.size; omega, HGD.out, by have := HWL.out; omega⟩
              have HP6 := Lib.hid hP
              clear hr he hP
              go_wp2_with fail
              go_meet
              exact ⟨rfl, HP6.out, E6.out⟩
            · have hcall : D.call k = D.clear := by unfold Dk.call; simp [hv]
              have h1 : (D.clear).1 = X := by rw [← hcall]; exact HX1.out
              have h2 : (D.clear).2 = D' := by rw [← hcall]; exact HRT.out.symm
              have H1 := Lib.hid h1
              have H2 := Lib.hid h2
              rw [hv] at hq
              clear hv hcall h1 h2
              go_wp2_with fail
              refine (rclear_calls HR5.out HWL5.out).mono ?_
              rintro e w6 ⟨rfl, hr, he⟩
              rw [H2.out] at hr
              rw [H1.out]
              have E6 := Lib.hid (E5.out.only_new he HWA.out.2)
              have hP : Pair w6 a x D' := ⟨(HD5.out.far he (fun e => HP.out.ne e) (fun k hk _ e => hk.1.2 e)).sub (fun _ hk _ => hk.1), hr, HP.out.ne, by have := HD5.out.cells.2.2.2.2.2.2; have := he.size; omega, by have := HR5.out.at_.flat.2.2.2.2.2.2; have := he.size; omega, HGD.out, by have := HWL.out; omega⟩
              have HP6 := Lib.hid hP
              clear hr he hP
              go_wp2_with fail
              go_meet
              exact ⟨rfl, HP6.out, E6.out⟩
            · have hcall : D.call k = D.sync := by unfold Dk.call; simp [hv]
              have h1 : (D.sync).1 = X := by rw [← hcall]; exact HX1.out
              have h2 : (D.sync).2 = D' := by rw [← hcall]; exact HRT.out.symm
              have H1 := Lib.hid h1
              have H2 := Lib.hid h2
              rw [hv] at hq
              clear hv hcall h1 h2
              go_wp2_with fail
              refine (rsync_calls HR5.out).mono ?_
              rintro e w6 ⟨rfl, hr, he⟩
              rw [H2.out] at hr
              rw [H1.out]
              have E6 := Lib.hid (E5.out.only_new he HWA.out.2)
              have hP : Pair w6 a x D' := ⟨(HD5.out.far he (fun e => HP.out.ne e) (fun k hk _ e => hk.1.2 e)).sub (fun _ hk _ => hk.1), hr, HP.out.ne, by have := HD5.out.cells.2.2.2.2.2.2; have := he.size; omega, by have := HR5.out.at_.flat.2.2.2.2.2.2; have := he.size; omega, HGD.out, by have := HWL.out; omega⟩
              have HP6 := Lib.hid hP
              clear hr he hP
              go_wp2_with fail
              go_meet
              exact ⟨rfl, HP6.out, E6.out⟩
            · have hcall : D.call k = D.crash k.keep k.tear := by unfold Dk.call; simp [hv]
              have h1 : (D.crash k.keep k.tear).1 = X := by rw [← hcall]; exact HX1.out
              have h2 : (D.crash k.keep k.tear).2 = D' := by rw [← hcall]; exact HRT.out.symm
              have H1 := Lib.hid h1
              have H2 := Lib.hid h2
              rw [hv] at hq
              clear hv hcall h1 h2
              go_wp2_with fail
              refine (rcrash_calls HR5.out k.keep k.tear).mono ?_
              rintro e w6 ⟨rfl, hr, he⟩
              rw [H2.out] at hr
              rw [H1.out]
              have E6 := Lib.hid (E5.out.only_new he HWA.out.2)
              have hP : Pair w6 a x D' := ⟨(HD5.out.far he (fun e => HP.out.ne e) (fun k hk _ e => hk.1.2 e)).sub (fun _ hk _ => hk.1), hr, HP.out.ne, by have := HD5.out.cells.2.2.2.2.2.2; have := he.size; omega, by have := HR5.out.at_.flat.2.2.2.2.2.2; have := he.size; omega, HGD.out, by have := HWL.out; omega⟩
              have HP6 := Lib.hid hP
              clear hr he hP
              go_wp2_with fail
              go_meet
              exact ⟨rfl, HP6.out, E6.out⟩
            · have hcall : D.call k = D.start := by unfold Dk.call; simp [hv]
              have h1 : (D.start).1 = X := by rw [← hcall]; exact HX1.out
              have h2 : (D.start).2 = D' := by rw [← hcall]; exact HRT.out.symm
              have H1 := Lib.hid h1
              have H2 := Lib.hid h2
              rw [hv] at hq
              clear hv hcall h1 h2
              go_wp2_with fail
              refine (rstart_calls HR5.out.at_ HR5.out.out HR5.out.good).mono ?_
              rintro e w6 ⟨rfl, hr, he⟩
              rw [H2.out] at hr
  
              have E6 := Lib.hid (E5.out.only_new he HWA.out.2)
              have hP : Pair w6 a x D' := ⟨(HD5.out.far he (fun e => HP.out.ne e) (fun k hk _ e => hk.1.2 e)).sub (fun _ hk _ => hk.1), hr, HP.out.ne, by have := HD5.out.cells.2.2.2.2.2.2; have := he.size; omega, by have := HR5.out.at_.flat.2.2.2.2.2.2; have := he.size; omega, HGD.out, by have := HWL.out; omega⟩
              have HP6 := Lib.hid hP
              clear hr he hP
              go_wp2_with fail
              go_meet
              exact ⟨congrArg (Value.int IntKind.i64) (by have := H1.out; simpa [Dk.start, good_room TI.out.good] using this), HP6.out, E6.out⟩
            · have hcall : D.call k = D.arm k.i k.keep k.tear := by unfold Dk.call; simp [hv]
              have h1 : (D.arm k.i k.keep k.tear).1 = X := by rw [← hcall]; exact HX1.out
              have h2 : (D.arm k.i k.keep k.tear).2 = D' := by rw [← hcall]; exact HRT.out.symm
              have H1 := Lib.hid h1
              have H2 := Lib.hid h2
              rw [hv] at hq
              clear hv hcall h1 h2
              go_wp2_with fail
              refine (rarm_calls HR5.out.at_ HR5.out.out HR5.out.good k.i k.keep k.tear).mono ?_
              rintro e w6 ⟨rfl, hr, he⟩
              rw [H2.out] at hr
              rw [H1.out]
              have E6 := Lib.hid (E5.out.only_new he HWA.out.2)
              have hP : Pair w6 a x D' := ⟨(HD5.out.far he (fun e => HP.out.ne e) (fun k hk _ e => hk.1.2 e)).sub (fun _ hk _ => hk.1), hr, HP.out.ne, by have := HD5.out.cells.2.2.2.2.2.2; have := he.size; omega, by have := HR5.out.at_.flat.2.2.2.2.2.2; have := he.size; omega, HGD.out, by have := HWL.out; omega⟩
              have HP6 := Lib.hid hP
              clear hr he hP
              go_wp2_with fail
              go_meet
              exact ⟨rfl, HP6.out, E6.out⟩
          case rest =>
            obtain ⟨rfl, HPw, HEw⟩ := hcut
            obtain ⟨w7, hw7⟩ : ∃ w7, w7 = wc := ⟨_, rfl⟩
            subst hw7
            have HT7 := Lib.hid HPw.out.tight
            have ZE7 : Hid (w.heap.size ≤ w7.heap.size) := HEw.out.size
            clear e0 e1 e2 e3 e4 HV HBY HP HRT HGO
            go_wp2_with fail
            refine (Look_calls HT7.out.da (fun _ => HT7.out.good) 0).mono ?_
            rintro e w8 ⟨A5, n5, c5, rfl, o5, e5⟩
            have HT8 := Lib.hid (HT7.out.ext e5.out.of0)
            have F8 := e5
            have O5 := Lib.hid (Own.tight o5.out)
            have ZO5 := Lib.hid o5.out.base_le
            have HL5 : Hid (n5 = (D'.look 0).1.length) := (rd_len o5.out.rd).1
            clear o5 e5
            go_wp2_with fail
            refine (rlook_calls HT8.out.pair.rlive 0).mono ?_
            rintro e w9 ⟨B5, m5, d5, rfl, o6, e6⟩
            have HT9 := Lib.hid (HT8.out.ext e6.out.of0)
            have F9 := Lib.hid (F8.out.trans0 e6.out)
            have P5 := Lib.hid (O5.out.rd.ext0 e6.out)
            have R5 := o6
            have G9 := e6
            clear o6 e6
            go_wp2_with fail
            refine (Look_calls HT9.out.da (fun _ => HT9.out.good) 1).mono ?_
            rintro e w10 ⟨A6, n6, c6, rfl, o5, e5⟩
            have HT10 := Lib.hid (HT9.out.ext e5.out.of0)
            have F10 := Lib.hid (F9.out.trans0 e5.out)
            have G10 := Lib.hid (G9.out.trans0 e5.out)
            have P5 := Lib.hid (P5.out.ext0 e5.out)
            have R5 := Lib.hid (R5.out.ext0 e5.out)
            have P6 := Lib.hid o5.out.rd
            clear o5 e5
            go_wp2_with fail
            refine (rlook_calls HT10.out.pair.rlive 1).mono ?_
            rintro e w11 ⟨B6, m6, d6, rfl, o6, e6⟩
            have HT11 := Lib.hid (HT10.out.ext e6.out.of0)
            have F11 := Lib.hid (F10.out.trans0 e6.out)
            have HZ8 : Hid (w8.heap.size ≤ w11.heap.size) := (G10.out.trans0 e6.out).size
            have HZ11 : Hid (w7.heap.size ≤ w11.heap.size) := F11.out.size
            have G11 := Lib.hid (G10.out.trans0 e6.out)
            have P5 := Lib.hid (P5.out.ext0 e6.out)
            have R5 := Lib.hid (R5.out.ext0 e6.out)
            have P6 := Lib.hid (P6.out.ext0 e6.out)
            have R6 := o6
            clear o6 e6
            go_wp2_with fail
            refine (Tape_calls HT11.out.da (fun _ => HT11.out.good)).mono ?_
            rintro e w12 ⟨A7, n7, c7, rfl, o5, e5⟩
            have HT12 := Lib.hid (HT11.out.ext e5.out.of0)
            have F12 := Lib.hid (F11.out.trans0 e5.out)
            have G12 := Lib.hid (G11.out.trans0 e5.out)
            have P5 := Lib.hid (P5.out.ext0 e5.out)
            have R5 := Lib.hid (R5.out.ext0 e5.out)
            have P6 := Lib.hid (P6.out.ext0 e5.out)
            have R6 := Lib.hid (R6.out.ext0 e5.out)
            have P7 := Lib.hid o5.out.rd
            have O7 := Lib.hid (Own.tight o5.out)
            have ZO7 := Lib.hid o5.out.base_le
            have HL7 : Hid (n7 = D'.tapeR.1.length) := (rd_len o5.out.rd).1
            clear o5 e5
            go_wp2_with fail
            refine (rtape_calls HT12.out.pair.rlive).mono ?_
            rintro e w13 ⟨B7, m7, d7, rfl, o6, e6⟩
            have HT13 := Lib.hid (HT12.out.ext e6.out.of0)
            have F13 := Lib.hid (F12.out.trans0 e6.out)
            have G13 := Lib.hid (G12.out.trans0 e6.out)
            have P5 := Lib.hid (P5.out.ext0 e6.out)
            have R5 := Lib.hid (R5.out.ext0 e6.out)
            have P6 := Lib.hid (P6.out.ext0 e6.out)
            have R6 := Lib.hid (R6.out.ext0 e6.out)
            have P7 := Lib.hid (P7.out.ext0 e6.out)
            have G7 := e6
            have R7 := o6
            clear o6 e6
            go_wp2_with fail
            refine (Equal_calls P5.out R5.out).mono ?_
            rintro e w14 ⟨rfl, rfl⟩
            rw [beq_self_eq_true]
            go_wp2_with fail
            refine (Equal_calls P6.out R6.out).mono ?_
            rintro e w14 ⟨rfl, rfl⟩
            rw [beq_self_eq_true]
            go_wp2_with fail
            refine (Equal_calls P7.out R7.out).mono ?_
            rintro e w14 ⟨rfl, rfl⟩
            rw [beq_self_eq_true]
            clear P5 R5 P6 R6 P7 R7
            go_wp2_with fail
            refine (Used_calls HT13.out.da HT13.out.good).mono ?_
            rintro e w14 ⟨rfl, he⟩
            have HT14 := Lib.hid (HT13.out.ext he.of0)
            have F14 := Lib.hid (F13.out.trans0 he)
            have G14 := Lib.hid (G13.out.trans0 he)
            have G7 := Lib.hid (G7.out.trans0 he)
            clear he
            go_wp2_with fail
            refine (rused_calls HT14.out.pair.rlive).mono ?_
            rintro e w15 ⟨rfl, he⟩
            have HT15 := Lib.hid (HT14.out.ext he.of0)
            have F15 := Lib.hid (F14.out.trans0 he)
            have OA := Lib.hid (O5.out.ext0 (G14.out.trans0 he))
            have OB := Lib.hid (O7.out.ext0 (G7.out.trans0 he))
            have XA := Lib.hid (XInv.start OA.out)
            clear he HT8 HT9 HT10 HT11 HT12 HT13 HT14 F9 F10 F11 F12 F13 F14 G9 G10 G11 G12 G13 G14 O5 O7
            go_wp2_with fail
            have qn5 : (n5 : Int) ≤ 9223372036854775807 := by obtain ⟨_, _, _, _, h⟩ := OA.out.rd.slice; have := HL5.out; omega
            have qn7 : (n7 : Int) ≤ 9223372036854775807 := by obtain ⟨_, _, _, _, h⟩ := OB.out.rd.slice; have := HL7.out; omega
            go_loopw [206] (fun i wr => ∃ j : Nat, i = .int .i64 j ∧ j ≤ n5 ∧ Hid (XInv wr w7.heap.size A5 (D'.look 0).1 j) ∧ Hid (Ext (fun k => (Value.slice A5 n5 c5).ownBlock = some k) w15 wr)) (fun i _ => n5 - (intOf i).toNat)
            case atStart => exact ⟨0, rfl, by omega, XA.out, Ext.refl _ _⟩
            case round =>
              obtain ⟨i, rfl, hi, HX, HXE⟩ := hrel
              obtain ⟨wp, hwp⟩ : ∃ wp, wp = wr := ⟨_, rfl⟩
              subst hwp
              by_cases hlt2 : i < n5
              · obtain ⟨y, hy⟩ : ∃ y, (D'.look 0).1[i]? = some y := ⟨_, List.getElem?_eq_getElem (by have := HL5.out; omega)⟩
                obtain ⟨gb, rfl, hbb, hbl, xc, xf, hnx⟩ := HX.out.get hy
                have HNX := Lib.hid hnx
                have HXE3 := Lib.hid (fun v => HXE.out.setCell (p := ⟨gb, i, none⟩) (fun _ => by simp [Value.ownBlock]) v)
                clear hy hnx hbb
                go_wp2_with fail
                go_roundw
                case rel => exact ⟨i + 1, by go_num, by omega, HNX.out _, HXE3.out _⟩
                case measure => simp [intOf]; omega
              · obtain rfl : n5 = i := by omega
                clear hlt2
                have HTp := Lib.hid (HT15.out.ext (HXE.out.mono (M' := From w7.heap.size) (fun k _ e => (ZO5.out k e).1)))
                have Fp := Lib.hid ((F15.out.of0 (M := From w7.heap.size)).trans HXE.out (fun k _ e => (ZO5.out k e).1))
                have OBp := Lib.hid (OB.out.ext HXE.out (fun k hk _ e => by have := hk.1; have := (ZO5.out k e).2; have := HZ8.out; omega))
                have XB := Lib.hid (XInv.start OBp.out)
                clear OB HT15 F15 XA OA
                go_wp2_with fail
                go_loopw [218] (fun i wr => ∃ j : Nat, i = .int .i64 j ∧ j ≤ n7 ∧ Hid (XInv wr w11.heap.size A7 D'.tapeR.1 j) ∧ Hid (Ext (fun k => (Value.slice A7 n7 c7).ownBlock = some k) wp wr)) (fun i _ => n7 - (intOf i).toNat)
                case atStart => exact ⟨0, rfl, by omega, XB.out, Ext.refl _ _⟩
                case round =>
                  obtain ⟨i, rfl, hi, HX2, HXE2⟩ := hrel
                  by_cases hlt2 : i < n7
                  · obtain ⟨y, hy⟩ : ∃ y, D'.tapeR.1[i]? = some y := ⟨_, List.getElem?_eq_getElem (by have := HL7.out; omega)⟩
                    obtain ⟨gb, rfl, hbb, hbl, xc, xf, hnx⟩ := HX2.out.get hy
                    have HNX := Lib.hid hnx
                    have HXE3 := Lib.hid (fun v => HXE2.out.setCell (p := ⟨gb, i, none⟩) (fun _ => by simp [Value.ownBlock]) v)
                    clear hy hnx hbb
                    go_wp2_with fail
                    go_roundw
                    case rel => exact ⟨i + 1, by go_num, by omega, HNX.out _, HXE3.out _⟩
                    case measure => simp [intOf]; omega
                  · obtain rfl : n7 = i := by omega
                    clear hlt2
                    have h7 : ∀ k, (Value.slice A7 n7 c7).ownBlock = some k → w7.heap.size ≤ k := fun k e => by have := (ZO7.out k e).1; have := HZ11.out; omega
                    have HTq := Lib.hid (HTp.out.ext (HXE2.out.mono (M' := From w7.heap.size) (fun k _ e => h7 k e)))
                    have Fq := Lib.hid (Fp.out.trans HXE2.out (fun k _ e => h7 k e))
                    have EQ := Lib.hid (HEw.out.trans Fq.out (fun k hk e => by have e1 : w7.heap.size ≤ k := e; have := ZE7.out; omega))
                    go_wp2_with fail
                    go_roundw
                    case rel => exact ⟨j + 1, by go_num, by omega, by rw [HD'.out]; exact HTq.out.pair, EQ.out⟩
                    case measure => simp [intOf]; omega
end Go.Proofs.Ytpmncppfopbaaaa
