/- DiskRoom. -/
import Derived.Test.YtpmncppfopbaaaaC8
namespace Go.Proofs.Ytpmncppfopbaaaa
open Go.RowKit Go.TM

theorem mod_eq (n : Int) : wrap64 ((IntKind.u64.wrap n).tmod 5000) = (n % 18446744073709551616) % 5000 := by
  have h : IntKind.u64.wrap n = n % 18446744073709551616 := by
    simp [IntKind.wrap, IntKind.signed, IntKind.bits]
  rw [h, Int.tmod_eq_emod_of_nonneg (by omega)]
  unfold wrap64
  omega
theorem fuse_code (d : Dk) : (Dk.told d.fuse).1 ≠ 7 := by
  unfold Dk.told
  simp only []
  split <;> simp
theorem able_code (d : Dk) : d.able ≠ 7 := by
  unfold Dk.able
  repeat' split
  all_goals simp
theorem full_same (d : Dk) (k : TM.Call) (h : (d.call k).1 = 7) : (d.call k).2 = d := by
  have h1 := able_code d
  have h2 : ∀ a, (d.act a).1 ≠ 7 := fun a => fuse_code (d.acted a)
  have h3 := fuse_code d.synced
  revert h
  unfold Dk.call Dk.slot Dk.clear Dk.sync Dk.crash Dk.start Dk.arm Dk.append
  repeat' split
  all_goals intro h
  all_goals first | rfl | exact absurd h h1 | exact absurd h (h2 _) | exact absurd h h3 | simp at h
theorem room_plain {d : Dk} {k : TM.Call} {R : Int} (hg : (d.call k).2.Good) (hw : (d.call k).2.wait.length ≤ 100000000) (hr : (d.call k).2.room = R) :
    ∃ x d', Goes (d.call k) x d' ∧ d' = (d.call k).2 ∧ (d'.now.used : Int) ≤ R ∧ ((x == 7) = false ∨ (x = 7 ∧ d' = d)) := by
  refine ⟨(d.call k).1, (d.call k).2, ⟨rfl, rfl, hg, hw⟩, rfl, by rw [← hr]; exact hg.used, ?_⟩
  by_cases h : (d.call k).1 = 7
  · exact .inr ⟨h, full_same d k h⟩
  · exact .inl (by simpa using h)
set_option maxHeartbeats 4000000 in
set_option maxRecDepth 100000 in
theorem room_calls {w : World} {ok : Nat → Prop} {A : Option Addr} {n c : Nat} {l : List TM.Call} (room : Int) (R : Rd callK w ok (.slice A n c) l) (hok : ∀ k ∈ l, k.Ok) :
    Calls Try.prog 4 #[.int .i64 room, .slice A n c] w fun e w' => e = .returned (.bool true) ∧ Ext Non w w' := by
  have HR := Lib.hid R
  have HO := Lib.hid hok
  have hq : wrap64 ((IntKind.u64.wrap room).tmod 5000) = (room % 18446744073709551616) % 5000 := mod_eq room
  obtain ⟨M, hM⟩ : ∃ M : Int, M = (room % 18446744073709551616) % 5000 := ⟨_, rfl⟩
  rw [← hM] at hq
  have m0 : 0 ≤ M := by omega
  have m1 : M < 5000 := by omega
  obtain ⟨hnl, -⟩ := rd_len R
  have HNL := Lib.hid hnl
  clear R hok hM hnl
  go_enter Try.func4, Try.ntmps4
  go_wp2_with fail
  refine (short_calls HR.out).mono ?_
  rintro e w1 ⟨s, rfl, rfl, hb⟩
  cases s with
  | false =>
    clear hb
    go_wp2_with fail
    refine (awake_calls _).mono ?_
    rintro e w2 ⟨rfl, he⟩
    have E2 := Lib.hid he
    clear he
    go_wp2_with fail
    go_ret
    exact ⟨rfl, E2.out⟩
  | true =>
    have hfine := fine_of (hb rfl) HO.out
    have HFI := Lib.hid hfine
    have hn1 := hfine.n
    have q0 : (n : Int) ≤ 1000 := by have := HNL.out; omega
    clear hb hfine hn1
    go_wp2_with fail
    clear hq
    refine (New_calls w (1 + M) (by omega) (by omega)).mono ?_
    rintro e w1 ⟨rfl, hl1, he1, hz1⟩
    have HL1 := Lib.hid hl1
    have E1 := Lib.hid he1
    have HG0 : Hid (w.heap.size ≤ w.heap.size) := Nat.le_refl _
    clear hl1 he1
    go_wp2_with fail
    go_loopw [30] (fun i wr => ∃ j : Nat, i = .int .i64 j ∧ j ≤ n ∧ Hid (Live wr (Mine w.heap.size w.heap.size) w.heap.size ((Dk.new (1 + M)).run (l.take j))) ∧ Hid (Ext Non w wr)) (fun i _ => n - (intOf i).toNat)
    case atStart => exact ⟨0, rfl, by omega, HL1.out, E1.out⟩
    case round =>
      obtain ⟨j, rfl, hj, HLr, HEr⟩ := hrel
      by_cases hlt : j < n
      case neg =>
        obtain rfl : j = n := by omega
        go_wp2_with fail
        refine (awake_calls _).mono ?_
        rintro e w2 ⟨rfl, he⟩
        have E2 := Lib.hid (HEr.out.trans0 he)
        clear he
        go_wp2_with fail
        go_ret
        exact ⟨rfl, E2.out⟩
      obtain ⟨k, hx⟩ : ∃ k, l[j]? = some k := ⟨_, List.getElem?_eq_getElem (by have := HNL.out; omega)⟩
      obtain ⟨gl, off, B, mb, db, rfl, hgl, e0, e1, e2, e3, e4, hv⟩ := call_at (HR.out.ext0 HEr.out) hx
      have HV := Lib.hid hv
      have HB := Lib.hid (HFI.out.b k (List.mem_of_getElem? hx))
      have HRT := Lib.hid (run_take (d := Dk.new (1 + M)) hx)
      have hwl : ((Dk.new (1 + M)).run (l.take (j + 1))).wait.length ≤ 100000000 := by
        have h1 := Dk.run_wait (Dk.new (1 + M)) (l.take (j + 1))
        have h2 : (Dk.new (1 + M)).wait.length = 0 := rfl
        have h3 : (l.take (j + 1)).length ≤ l.length := by rw [List.length_take]; omega
        have h4 := HFI.out.n
        omega
      have hgd : ((Dk.new (1 + M)).run (l.take (j + 1))).Good := (Dk.Good.new (by omega) (by omega)).run (fun c hc => HFI.out.ok c (List.mem_of_mem_take hc))
      have hroom : ((Dk.new (1 + M)).run (l.take (j + 1))).room = 1 + M := Dk.run_room _ _
      obtain ⟨x, d', hgo, hd', huse, hcase⟩ := room_plain (d := (Dk.new (1 + M)).run (l.take j)) (k := k) (R := 1 + M) (by rw [← HRT.out]; exact hgd) (by rw [← HRT.out]; exact hwl) (by rw [← HRT.out]; exact hroom)
      have HGO := Lib.hid hgo
      have HD' := Lib.hid (HRT.out.trans hd'.symm)
      obtain ⟨p, fb, hface⟩ : ∃ p fb, ((Dk.new (1 + M)).run (l.take j)).face = (p, fb) := ⟨_, _, rfl⟩
      have HF := Lib.hid hface
      obtain ⟨p', fb', hface'⟩ : ∃ p fb, d'.face = (p, fb) := ⟨_, _, rfl⟩
      have HF' := Lib.hid hface'
      obtain ⟨U, hU⟩ : ∃ U : Int, (d'.now.used : Int) = U := ⟨_, rfl⟩
      have HU := Lib.hid hU
      rw [hU] at huse
      have hc2 : (x == 7) = false ∨ (x = 7 ∧ p = p' ∧ fb = fb') := by
        rcases hcase with h | ⟨h1, h2⟩
        · exact .inl h
        · rw [h2, hface] at hface'
          simp only [Prod.mk.injEq] at hface'
          exact .inr ⟨h1, hface'.1, hface'.2⟩
      generalize (Dk.new (1 + M)).run (l.take j) = d at HLr HGO HF hgo hcase
      clear hx hv hwl hgd hroom hgo hd' hface hface' hU hcase
      obtain ⟨VK, hV⟩ : ∃ V, wr.alloc (.cells #[.int .i64 k.op, .int .i64 k.i, .int .i64 k.keep, .int .i64 k.tear, .slice B mb db] 43) = V := ⟨_, rfl⟩
      have eV : Ext Non wr VK := by rw [← hV]; exact (Ext.refl Non wr).alloc _
      have BVK := Lib.hid (heap_alloc_new wr (.cells #[.int .i64 k.op, .int .i64 k.i, .int .i64 k.keep, .int .i64 k.tear, .slice B mb db] 43))
      rw [hV] at BVK
      have HVK := Lib.hid hV
      have EVK := Lib.hid eV
      clear hV eV
      have HGLKa := Lib.hid HLr.out.lt
      rcases hc2 with hx7 | ⟨rfl, rfl, rfl⟩
      · go_wp2_with fail
        rw [HVK.out]
        have E2 := Lib.hid (HEr.out.trans0 EVK.out)
        have HLa2 := Lib.hid (HLr.out.ext EVK.out)
        have XK_2 : Hid (Ext (Only w.heap.size) VK VK) := Ext.refl _ _
        have HGF0a := Lib.hid HLa2.out.lt
        refine (face_go HLa2.out HF.out).mono ?_
        rintro e w3 ⟨A0_0, n0_0, c0_0, A1_0, n1_0, c1_0, A2_0, n2_0, c2_0, rfl, hr, he⟩
        have E3 := Lib.hid (E2.out.trans0 he.out)
        have HLa3 := Lib.hid (HLa2.out.ext he.out)
        have XK_3 := Lib.hid (XK_2.out.trans0 he.out)
        have hzf := he.out.size
        have XHE := Lib.hid he.out
        obtain ⟨VF0, hV⟩ : ∃ V, w3.alloc (.cells #[.slice A0_0 n0_0 c0_0, .slice A1_0 n1_0 c1_0, .slice A2_0 n2_0 c2_0] 31) = V := ⟨_, rfl⟩
        have eV : Ext Non w3 VF0 := by rw [← hV]; exact (Ext.refl Non w3).alloc _
        have BVF0 := Lib.hid (heap_alloc_new w3 (.cells #[.slice A0_0 n0_0 c0_0, .slice A1_0 n1_0 c1_0, .slice A2_0 n2_0 c2_0] 31))
        rw [hV] at BVF0
        have HVF0 := Lib.hid hV
        have EVF0 := Lib.hid eV
        clear hV eV
        have HGLF0a := Lib.hid HLa3.out.lt
        have P0 := Lib.hid (And.intro (hr.out.1.ext0 EVF0.out) (And.intro (hr.out.2.1.ext0 EVF0.out) (hr.out.2.2.ext0 EVF0.out)))
        clear hr he hzf
        have bK := XK_3.out.obj BVK.out (fun e => by have e1 : wr.heap.size = w.heap.size := e; have e2 := HGLKa.out; omega)
        have fK_0 : w3.cell? ⟨wr.heap.size, 0, none⟩ = some (.int .i64 k.op) := blk_cell bK 0
        have fK_1 : w3.cell? ⟨wr.heap.size, 1, none⟩ = some (.int .i64 k.i) := blk_cell bK 1
        have fK_2 : w3.cell? ⟨wr.heap.size, 2, none⟩ = some (.int .i64 k.keep) := blk_cell bK 2
        have fK_3 : w3.cell? ⟨wr.heap.size, 3, none⟩ = some (.int .i64 k.tear) := blk_cell bK 3
        have fK_4 : w3.cell? ⟨wr.heap.size, 4, none⟩ = some (.slice B mb db) := blk_cell bK 4
        have hltK := blk_lt bK
        clear bK
        go_wp2_with fail
        rw [HVF0.out]
        have E4 := Lib.hid (E3.out.trans0 EVF0.out)
        have HLa4 := Lib.hid (HLa3.out.ext EVF0.out)
        have XK_4 := Lib.hid (XK_3.out.trans0 EVF0.out)
        have XF0_4 : Hid (Ext (Only w.heap.size) VF0 VF0) := Ext.refl _ _
        clear fK_0 fK_1 fK_2 fK_3 fK_4 hltK
        skip
        have HVE := Lib.hid ((EVK.out.trans0 XHE.out).trans0 EVF0.out)
        refine (does_go HLa4.out (k := k) (HV.out.ext0 HVE.out) HB.out HGO.out).mono ?_
        rintro e w5 ⟨rfl, hl, he⟩
        have HLa5 := Lib.hid hl
        have E5 := Lib.hid (E4.out.only_new he HG0.out)
        have XK_5 := Lib.hid (XK_4.out.trans he (fun _ _ e => e))
        have XF0_5 := Lib.hid (XF0_4.out.trans he (fun _ _ e => e))
        clear hl he
        go_wp2_with fail
        have HGF1a := Lib.hid HLa5.out.lt
        refine (face_go HLa5.out HF'.out).mono ?_
        rintro e w6 ⟨A0_1, n0_1, c0_1, A1_1, n1_1, c1_1, A2_1, n2_1, c2_1, rfl, hr, he⟩
        have E6 := Lib.hid (E5.out.trans0 he.out)
        have HLa6 := Lib.hid (HLa5.out.ext he.out)
        have XK_6 := Lib.hid (XK_5.out.trans0 he.out)
        have XF0_6 := Lib.hid (XF0_5.out.trans0 he.out)
        have hzf := he.out.size
        have XHE := Lib.hid he.out
        obtain ⟨VF1, hV⟩ : ∃ V, w6.alloc (.cells #[.slice A0_1 n0_1 c0_1, .slice A1_1 n1_1 c1_1, .slice A2_1 n2_1 c2_1] 31) = V := ⟨_, rfl⟩
        have eV : Ext Non w6 VF1 := by rw [← hV]; exact (Ext.refl Non w6).alloc _
        have BVF1 := Lib.hid (heap_alloc_new w6 (.cells #[.slice A0_1 n0_1 c0_1, .slice A1_1 n1_1 c1_1, .slice A2_1 n2_1 c2_1] 31))
        rw [hV] at BVF1
        have HVF1 := Lib.hid hV
        have EVF1 := Lib.hid eV
        clear hV eV
        have HGLF1a := Lib.hid HLa6.out.lt
        have P1 := Lib.hid (And.intro (hr.out.1.ext0 EVF1.out) (And.intro (hr.out.2.1.ext0 EVF1.out) (hr.out.2.2.ext0 EVF1.out)))
        clear hr he hzf
        have bF0 := XF0_6.out.obj BVF0.out (fun e => by have e1 : w3.heap.size = w.heap.size := e; have e2 := HGLF0a.out; omega)
        have fF0_0 : w6.cell? ⟨w3.heap.size, 0, none⟩ = some (.slice A0_0 n0_0 c0_0) := blk_cell bF0 0
        have fF0_1 : w6.cell? ⟨w3.heap.size, 1, none⟩ = some (.slice A1_0 n1_0 c1_0) := blk_cell bF0 1
        have fF0_2 : w6.cell? ⟨w3.heap.size, 2, none⟩ = some (.slice A2_0 n2_0 c2_0) := blk_cell bF0 2
        have hltF0 := blk_lt bF0
        clear bF0
        go_wp2_with fail
        rw [HVF1.out]
        have E7 := Lib.hid (E6.out.trans0 EVF1.out)
        have HLa7 := Lib.hid (HLa6.out.ext EVF1.out)
        have XK_7 := Lib.hid (XK_6.out.trans0 EVF1.out)
        have XF0_7 := Lib.hid (XF0_6.out.trans0 EVF1.out)
        have XF1_7 : Hid (Ext (Only w.heap.size) VF1 VF1) := Ext.refl _ _
        refine (Used_calls HLa7.out.at_ HLa7.out.good).mono ?_
        rintro e w8 ⟨rfl, he⟩
        have E8 := Lib.hid (E7.out.trans0 he)
        have HLa8 := Lib.hid (HLa7.out.ext he)
        have XK_8 := Lib.hid (XK_7.out.trans0 he)
        have XF0_8 := Lib.hid (XF0_7.out.trans0 he)
        have XF1_8 := Lib.hid (XF1_7.out.trans0 he)
        rw [HU.out]
        clear he
        have bF0 := XF0_8.out.obj BVF0.out (fun e => by have e1 : w3.heap.size = w.heap.size := e; have e2 := HGLF0a.out; omega)
        have fF0_0 : w8.cell? ⟨w3.heap.size, 0, none⟩ = some (.slice A0_0 n0_0 c0_0) := blk_cell bF0 0
        have fF0_1 : w8.cell? ⟨w3.heap.size, 1, none⟩ = some (.slice A1_0 n1_0 c1_0) := blk_cell bF0 1
        have fF0_2 : w8.cell? ⟨w3.heap.size, 2, none⟩ = some (.slice A2_0 n2_0 c2_0) := blk_cell bF0 2
        have hltF0 := blk_lt bF0
        clear bF0
        have bF1 := XF1_8.out.obj BVF1.out (fun e => by have e1 : w6.heap.size = w.heap.size := e; have e2 := HGLF1a.out; omega)
        have fF1_0 : w8.cell? ⟨w6.heap.size, 0, none⟩ = some (.slice A0_1 n0_1 c0_1) := blk_cell bF1 0
        have fF1_1 : w8.cell? ⟨w6.heap.size, 1, none⟩ = some (.slice A1_1 n1_1 c1_1) := blk_cell bF1 1
        have fF1_2 : w8.cell? ⟨w6.heap.size, 2, none⟩ = some (.slice A2_1 n2_1 c2_1) := blk_cell bF1 2
        have hltF1 := blk_lt bF1
        clear bF1
        go_wp2_with fail
        go_roundw
        case rel => exact ⟨j + 1, by go_num, by omega, by rw [HD'.out]; exact HLa8.out, E8.out⟩
        case measure => simp [intOf]; omega
      · have hfb : (fb != fb) = false := by cases fb <;> rfl
        cases fb
        all_goals
          go_wp2_with fail
          rw [HVK.out]
          have E2 := Lib.hid (HEr.out.trans0 EVK.out)
          have HLa2 := Lib.hid (HLr.out.ext EVK.out)
          have XK_2 : Hid (Ext (Only w.heap.size) VK VK) := Ext.refl _ _
          have HGF0a := Lib.hid HLa2.out.lt
          refine (face_go HLa2.out HF.out).mono ?_
          rintro e w3 ⟨A0_0, n0_0, c0_0, A1_0, n1_0, c1_0, A2_0, n2_0, c2_0, rfl, hr, he⟩
          have E3 := Lib.hid (E2.out.trans0 he.out)
          have HLa3 := Lib.hid (HLa2.out.ext he.out)
          have XK_3 := Lib.hid (XK_2.out.trans0 he.out)
          have hzf := he.out.size
          have XHE := Lib.hid he.out
          obtain ⟨VF0, hV⟩ : ∃ V, w3.alloc (.cells #[.slice A0_0 n0_0 c0_0, .slice A1_0 n1_0 c1_0, .slice A2_0 n2_0 c2_0] 31) = V := ⟨_, rfl⟩
          have eV : Ext Non w3 VF0 := by rw [← hV]; exact (Ext.refl Non w3).alloc _
          have BVF0 := Lib.hid (heap_alloc_new w3 (.cells #[.slice A0_0 n0_0 c0_0, .slice A1_0 n1_0 c1_0, .slice A2_0 n2_0 c2_0] 31))
          rw [hV] at BVF0
          have HVF0 := Lib.hid hV
          have EVF0 := Lib.hid eV
          clear hV eV
          have HGLF0a := Lib.hid HLa3.out.lt
          have P0 := Lib.hid (And.intro (hr.out.1.ext0 EVF0.out) (And.intro (hr.out.2.1.ext0 EVF0.out) (hr.out.2.2.ext0 EVF0.out)))
          clear hr he hzf
          have bK := XK_3.out.obj BVK.out (fun e => by have e1 : wr.heap.size = w.heap.size := e; have e2 := HGLKa.out; omega)
          have fK_0 : w3.cell? ⟨wr.heap.size, 0, none⟩ = some (.int .i64 k.op) := blk_cell bK 0
          have fK_1 : w3.cell? ⟨wr.heap.size, 1, none⟩ = some (.int .i64 k.i) := blk_cell bK 1
          have fK_2 : w3.cell? ⟨wr.heap.size, 2, none⟩ = some (.int .i64 k.keep) := blk_cell bK 2
          have fK_3 : w3.cell? ⟨wr.heap.size, 3, none⟩ = some (.int .i64 k.tear) := blk_cell bK 3
          have fK_4 : w3.cell? ⟨wr.heap.size, 4, none⟩ = some (.slice B mb db) := blk_cell bK 4
          have hltK := blk_lt bK
          clear bK
          go_wp2_with fail
          rw [HVF0.out]
          have E4 := Lib.hid (E3.out.trans0 EVF0.out)
          have HLa4 := Lib.hid (HLa3.out.ext EVF0.out)
          have XK_4 := Lib.hid (XK_3.out.trans0 EVF0.out)
          have XF0_4 : Hid (Ext (Only w.heap.size) VF0 VF0) := Ext.refl _ _
          clear fK_0 fK_1 fK_2 fK_3 fK_4 hltK
          skip
          have HVE := Lib.hid ((EVK.out.trans0 XHE.out).trans0 EVF0.out)
          refine (does_go HLa4.out (k := k) (HV.out.ext0 HVE.out) HB.out HGO.out).mono ?_
          rintro e w5 ⟨rfl, hl, he⟩
          have HLa5 := Lib.hid hl
          have E5 := Lib.hid (E4.out.only_new he HG0.out)
          have XK_5 := Lib.hid (XK_4.out.trans he (fun _ _ e => e))
          have XF0_5 := Lib.hid (XF0_4.out.trans he (fun _ _ e => e))
          clear hl he
          go_wp2_with fail
          have HGF1a := Lib.hid HLa5.out.lt
          refine (face_go HLa5.out HF'.out).mono ?_
          rintro e w6 ⟨A0_1, n0_1, c0_1, A1_1, n1_1, c1_1, A2_1, n2_1, c2_1, rfl, hr, he⟩
          have E6 := Lib.hid (E5.out.trans0 he.out)
          have HLa6 := Lib.hid (HLa5.out.ext he.out)
          have XK_6 := Lib.hid (XK_5.out.trans0 he.out)
          have XF0_6 := Lib.hid (XF0_5.out.trans0 he.out)
          have hzf := he.out.size
          have XHE := Lib.hid he.out
          obtain ⟨VF1, hV⟩ : ∃ V, w6.alloc (.cells #[.slice A0_1 n0_1 c0_1, .slice A1_1 n1_1 c1_1, .slice A2_1 n2_1 c2_1] 31) = V := ⟨_, rfl⟩
          have eV : Ext Non w6 VF1 := by rw [← hV]; exact (Ext.refl Non w6).alloc _
          have BVF1 := Lib.hid (heap_alloc_new w6 (.cells #[.slice A0_1 n0_1 c0_1, .slice A1_1 n1_1 c1_1, .slice A2_1 n2_1 c2_1] 31))
          rw [hV] at BVF1
          have HVF1 := Lib.hid hV
          have EVF1 := Lib.hid eV
          clear hV eV
          have HGLF1a := Lib.hid HLa6.out.lt
          have P1 := Lib.hid (And.intro (hr.out.1.ext0 EVF1.out) (And.intro (hr.out.2.1.ext0 EVF1.out) (hr.out.2.2.ext0 EVF1.out)))
          clear hr he hzf
          have bF0 := XF0_6.out.obj BVF0.out (fun e => by have e1 : w3.heap.size = w.heap.size := e; have e2 := HGLF0a.out; omega)
          have fF0_0 : w6.cell? ⟨w3.heap.size, 0, none⟩ = some (.slice A0_0 n0_0 c0_0) := blk_cell bF0 0
          have fF0_1 : w6.cell? ⟨w3.heap.size, 1, none⟩ = some (.slice A1_0 n1_0 c1_0) := blk_cell bF0 1
          have fF0_2 : w6.cell? ⟨w3.heap.size, 2, none⟩ = some (.slice A2_0 n2_0 c2_0) := blk_cell bF0 2
          have hltF0 := blk_lt bF0
          clear bF0
          go_wp2_with fail
          rw [HVF1.out]
          have E7 := Lib.hid (E6.out.trans0 EVF1.out)
          have HLa7 := Lib.hid (HLa6.out.ext EVF1.out)
          have XK_7 := Lib.hid (XK_6.out.trans0 EVF1.out)
          have XF0_7 := Lib.hid (XF0_6.out.trans0 EVF1.out)
          have XF1_7 : Hid (Ext (Only w.heap.size) VF1 VF1) := Ext.refl _ _
          refine (Used_calls HLa7.out.at_ HLa7.out.good).mono ?_
          rintro e w8 ⟨rfl, he⟩
          have E8 := Lib.hid (E7.out.trans0 he)
          have HLa8 := Lib.hid (HLa7.out.ext he)
          have XK_8 := Lib.hid (XK_7.out.trans0 he)
          have XF0_8 := Lib.hid (XF0_7.out.trans0 he)
          have XF1_8 := Lib.hid (XF1_7.out.trans0 he)
          rw [HU.out]
          clear he
          have bF0 := XF0_8.out.obj BVF0.out (fun e => by have e1 : w3.heap.size = w.heap.size := e; have e2 := HGLF0a.out; omega)
          have fF0_0 : w8.cell? ⟨w3.heap.size, 0, none⟩ = some (.slice A0_0 n0_0 c0_0) := blk_cell bF0 0
          have fF0_1 : w8.cell? ⟨w3.heap.size, 1, none⟩ = some (.slice A1_0 n1_0 c1_0) := blk_cell bF0 1
          have fF0_2 : w8.cell? ⟨w3.heap.size, 2, none⟩ = some (.slice A2_0 n2_0 c2_0) := blk_cell bF0 2
          have hltF0 := blk_lt bF0
          clear bF0
          have bF1 := XF1_8.out.obj BVF1.out (fun e => by have e1 : w6.heap.size = w.heap.size := e; have e2 := HGLF1a.out; omega)
          have fF1_0 : w8.cell? ⟨w6.heap.size, 0, none⟩ = some (.slice A0_1 n0_1 c0_1) := blk_cell bF1 0
          have fF1_1 : w8.cell? ⟨w6.heap.size, 1, none⟩ = some (.slice A1_1 n1_1 c1_1) := blk_cell bF1 1
          have fF1_2 : w8.cell? ⟨w6.heap.size, 2, none⟩ = some (.slice A2_1 n2_1 c2_1) := blk_cell bF1 2
          have hltF1 := blk_lt bF1
          clear bF1
          go_wp2_with fail
          clear fF0_0 fF0_1 fF0_2 hltF0 fF1_0 fF1_1 fF1_2 hltF1
          refine (same_calls (p := p) (q := p) ⟨P0.out.1.ext XF0_8.out (fun k hk _ e => by have e1 : k = w.heap.size := e; have e2 := HGF0a.out; have e3 := hk.1; omega), P0.out.2.1.ext XF0_8.out (fun k hk _ e => by have e1 : k = w.heap.size := e; have e2 := HGF0a.out; have e3 := hk.1; omega), P0.out.2.2.ext XF0_8.out (fun k hk _ e => by have e1 : k = w.heap.size := e; have e2 := HGF0a.out; have e3 := hk.1; omega)⟩ ⟨P1.out.1.ext XF1_8.out (fun k hk _ e => by have e1 : k = w.heap.size := e; have e2 := HGF1a.out; have e3 := hk.1; omega), P1.out.2.1.ext XF1_8.out (fun k hk _ e => by have e1 : k = w.heap.size := e; have e2 := HGF1a.out; have e3 := hk.1; omega), P1.out.2.2.ext XF1_8.out (fun k hk _ e => by have e1 : k = w.heap.size := e; have e2 := HGF1a.out; have e3 := hk.1; omega)⟩).mono ?_
          rintro e w9 ⟨rfl, he⟩
          rw [Plate.same_self]
          have E9 := Lib.hid (E8.out.trans0 he)
          have HLa9 := Lib.hid (HLa8.out.ext he)
          have XK_9 := Lib.hid (XK_8.out.trans0 he)
          have XF0_9 := Lib.hid (XF0_8.out.trans0 he)
          have XF1_9 := Lib.hid (XF1_8.out.trans0 he)
          clear he
          go_wp2_with fail
          go_roundw
          case rel => exact ⟨j + 1, by go_num, by omega, by rw [HD'.out]; exact HLa9.out, E9.out⟩
          case measure => simp [intOf]; omega
end Go.Proofs.Ytpmncppfopbaaaa
