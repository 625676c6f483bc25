/- FilterParts: the law holds of every filter and event. -/
import Derived.Test.YtooafilbmjnfmaaK0
import Derived.Test.YtooafilbmjnfmaaM4
import Derived.Test.YtooafilbmjnfmaaM5
import Derived.Test.YtooafilbmjnfmaaM6
namespace Go.Proofs.Ytooafilbmjnfmaa
open Go.RowKit Go.TM
set_option maxRecDepth 100000 in
set_option maxHeartbeats 16000000 in
theorem parts_calls {n : Nat} {f : Flt} {w : World} {ok : Nat → Prop} {x : Value} (hx : FV n w ok x f) (hok : okF (n + 1) f) {e : Ev} (hev : e.ok) : Calls Try.prog 10 #[x, evV e] w fun e w' => e = .returned (.bool true) ∧ Ext Non w w' := by
  obtain ⟨b, hb⟩ : ∃ b, lightF (n + 1) f = b := ⟨_, rfl⟩
  have HLO : Hid (b = true → okL (n + 1) f) := fun h => light_ok hok (hb.trans h)
  have HX := Lib.hid hx
  have HOK := Lib.hid hok
  have HB := Lib.hid hb
  have HEV := Lib.hid hev
  clear hb hok hev
  obtain ⟨v, rfl, hr⟩ := hx
  obtain ⟨op, key, val, kids⟩ := f
  obtain ⟨A, m, c, rfl, hlen⟩ := rd_abs hr
  have HLN : Hid (m = kids.length) := hlen
  have HRK := Lib.hid hr
  clear hr hlen
  dsimp only [Flt.op, Flt.key, Flt.val] at HX ⊢
  show Calls Try.prog 10 #[_, .agg #[.int .i64 e.pos, .string e.key, .bool e.had, .string e.old, .bool e.has, .string e.now]] w _
  go_enter Try.func10, Try.ntmps10
  go_wp2_with fail
  have E0 : Hid (Ext Non w ((w.alloc (.cells #[.int .i64 op, .string key, .string val, .slice A m c] 24)).alloc (.cells #[.int .i64 e.pos, .string e.key, .bool e.had, .string e.old, .bool e.has, .string e.now] 42))) := ((Ext.refl _ _).alloc _).alloc _
  have B0 : Hid (((w.alloc (.cells #[.int .i64 op, .string key, .string val, .slice A m c] 24)).alloc (.cells #[.int .i64 e.pos, .string e.key, .bool e.had, .string e.old, .bool e.has, .string e.now] 42)).heap[w.heap.size]? = some (.cells #[.int .i64 op, .string key, .string val, .slice A m c] 24)) := blk_alloc (blk_new _ _) _
  have X0 : Hid (((w.alloc (.cells #[.int .i64 op, .string key, .string val, .slice A m c] 24)).alloc (.cells #[.int .i64 e.pos, .string e.key, .bool e.had, .string e.old, .bool e.has, .string e.now] 42)).heap[w.heap.size + 1]? = some (.cells #[.int .i64 e.pos, .string e.key, .bool e.had, .string e.old, .bool e.has, .string e.now] 42)) := by
    have hsz1 : (w.alloc (.cells #[.int .i64 op, .string key, .string val, .slice A m c] 24)).heap.size = w.heap.size + 1 := by simp
    have h := blk_new (w.alloc (.cells #[.int .i64 op, .string key, .string val, .slice A m c] 24)) (.cells #[.int .i64 e.pos, .string e.key, .bool e.had, .string e.old, .bool e.has, .string e.now] 42)
    rw [hsz1] at h
    exact h
  obtain ⟨w0, hw0⟩ : ∃ w0, (w.alloc (.cells #[.int .i64 op, .string key, .string val, .slice A m c] 24)).alloc (.cells #[.int .i64 e.pos, .string e.key, .bool e.had, .string e.old, .bool e.has, .string e.now] 42) = w0 := ⟨_, rfl⟩
  rw [hw0] at E0 B0 X0 ⊢
  have V0 := Lib.hid (HX.out.ext0 E0.out)
  clear hw0
  refine (light_calls V0.out HOK.out).mono ?_
  rw [HB.out]
  rintro e' w1 ⟨rfl, he⟩
  have E1 := Lib.hid (E0.out.trans0 he)
  have V1 := Lib.hid (V0.out.ext0 he)
  have B1 := Lib.hid (he.obj B0.out (fun h => h))
  have X1 := Lib.hid (he.obj X0.out (fun h => h))
  have y0 : w1.cell? ⟨w.heap.size, 0, none⟩ = some (.int .i64 op) := blk_cell B1.out 0
  have y1 : w1.cell? ⟨w.heap.size, 1, none⟩ = some (.string key) := blk_cell B1.out 1
  have y2 : w1.cell? ⟨w.heap.size, 2, none⟩ = some (.string val) := blk_cell B1.out 2
  have y3 : w1.cell? ⟨w.heap.size, 3, none⟩ = some (.slice A m c) := blk_cell B1.out 3
  have x0 : w1.cell? ⟨w.heap.size + 1, 0, none⟩ = some (.int .i64 e.pos) := blk_cell X1.out 0
  have x1 : w1.cell? ⟨w.heap.size + 1, 1, none⟩ = some (.string e.key) := blk_cell X1.out 1
  have x2 : w1.cell? ⟨w.heap.size + 1, 2, none⟩ = some (.bool e.had) := blk_cell X1.out 2
  have x3 : w1.cell? ⟨w.heap.size + 1, 3, none⟩ = some (.string e.old) := blk_cell X1.out 3
  have x4 : w1.cell? ⟨w.heap.size + 1, 4, none⟩ = some (.bool e.has) := blk_cell X1.out 4
  have x5 : w1.cell? ⟨w.heap.size + 1, 5, none⟩ = some (.string e.now) := blk_cell X1.out 5
  have hlx1 := blk_lt X1.out
  clear he
  cases b with
  | false =>
    clear HLO
    go_wp2_with fail
    refine (awake_calls _).mono ?_
    rintro e' wz ⟨rfl, he⟩
    have EZ := Lib.hid (E1.out.trans0 he)
    clear he
    go_wp2_with fail
    go_ret
    exact ⟨rfl, EZ.out⟩
  | true =>
    have HLK := Lib.hid (HLO.out rfl)
    clear HLO
    go_wp2_with fail
    refine (few_calls (ok := fun _ => True) (l := [e]) (Rd.lit_at (cs := e.cells) (e := 42) (fr := (0, 0)) (blk_new w1 _) rfl trivial) (fun x hx => by rw [List.mem_singleton] at hx; subst hx; exact HEV.out)).mono ?_
    rintro e' w2 ⟨b2, rfl, he', hb2⟩
    have he := ((Ext.refl Non w1).alloc (.cells #[.int .i64 e.pos, .string e.key, .bool e.had, .string e.old, .bool e.has, .string e.now] 42)).trans0 he'
    have HB2 := Lib.hid hb2
    have E2 := Lib.hid (E1.out.trans0 he)
    have V2 := Lib.hid (V1.out.ext0 he)
    have B2 := Lib.hid (he.obj B1.out (fun h => h))
    have X2 := Lib.hid (he.obj X1.out (fun h => h))
    clear he he' hb2 y0 y1 y2 y3 x0 x1 x2 x3 x4 x5
    have y0 : w2.cell? ⟨w.heap.size, 0, none⟩ = some (.int .i64 op) := blk_cell B2.out 0
    have y1 : w2.cell? ⟨w.heap.size, 1, none⟩ = some (.string key) := blk_cell B2.out 1
    have y2 : w2.cell? ⟨w.heap.size, 2, none⟩ = some (.string val) := blk_cell B2.out 2
    have y3 : w2.cell? ⟨w.heap.size, 3, none⟩ = some (.slice A m c) := blk_cell B2.out 3
    have x0 : w2.cell? ⟨w.heap.size + 1, 0, none⟩ = some (.int .i64 e.pos) := blk_cell X2.out 0
    have x1 : w2.cell? ⟨w.heap.size + 1, 1, none⟩ = some (.string e.key) := blk_cell X2.out 1
    have x2 : w2.cell? ⟨w.heap.size + 1, 2, none⟩ = some (.bool e.had) := blk_cell X2.out 2
    have x3 : w2.cell? ⟨w.heap.size + 1, 3, none⟩ = some (.string e.old) := blk_cell X2.out 3
    have x4 : w2.cell? ⟨w.heap.size + 1, 4, none⟩ = some (.bool e.has) := blk_cell X2.out 4
    have x5 : w2.cell? ⟨w.heap.size + 1, 5, none⟩ = some (.string e.now) := blk_cell X2.out 5
    have hlx2 := blk_lt X2.out
    cases b2 with
    | false =>
      clear HB2
      go_wp2_with fail
      refine (awake_calls _).mono ?_
      rintro e' wz ⟨rfl, he⟩
      have EZ := Lib.hid (E2.out.trans0 he)
      clear he
      go_wp2_with fail
      go_ret
      exact ⟨rfl, EZ.out⟩
    | true =>
      have HSM : Hid (e.now.size ≤ 1000000) := by
        have h := ((HB2.out rfl).2 e List.mem_cons_self).2.2
        show _ ≤ _
        omega
      clear HB2
      go_wp2_with fail
      refine (Check_calls V2.out HOK.out).mono ?_
      obtain ⟨z, hz⟩ : ∃ z, checkE (n + 1) (.mk op key val kids) = z := ⟨_, rfl⟩
      have HZ := Lib.hid hz
      rw [hz]
      clear hz
      rintro e' w3 ⟨rfl, he⟩
      have E3 := Lib.hid (E2.out.trans0 he)
      have V3 := Lib.hid (V2.out.ext0 he)
      have B3 := Lib.hid (he.obj B2.out (fun h => h))
      have X3 := Lib.hid (he.obj X2.out (fun h => h))
      clear he y0 y1 y2 y3 x0 x1 x2 x3 x4 x5
      have y0 : w3.cell? ⟨w.heap.size, 0, none⟩ = some (.int .i64 op) := blk_cell B3.out 0
      have y1 : w3.cell? ⟨w.heap.size, 1, none⟩ = some (.string key) := blk_cell B3.out 1
      have y2 : w3.cell? ⟨w.heap.size, 2, none⟩ = some (.string val) := blk_cell B3.out 2
      have y3 : w3.cell? ⟨w.heap.size, 3, none⟩ = some (.slice A m c) := blk_cell B3.out 3
      have x0 : w3.cell? ⟨w.heap.size + 1, 0, none⟩ = some (.int .i64 e.pos) := blk_cell X3.out 0
      have x1 : w3.cell? ⟨w.heap.size + 1, 1, none⟩ = some (.string e.key) := blk_cell X3.out 1
      have x2 : w3.cell? ⟨w.heap.size + 1, 2, none⟩ = some (.bool e.had) := blk_cell X3.out 2
      have x3 : w3.cell? ⟨w.heap.size + 1, 3, none⟩ = some (.string e.old) := blk_cell X3.out 3
      have x4 : w3.cell? ⟨w.heap.size + 1, 4, none⟩ = some (.bool e.has) := blk_cell X3.out 4
      have x5 : w3.cell? ⟨w.heap.size + 1, 5, none⟩ = some (.string e.now) := blk_cell X3.out 5
      have hlx3 := blk_lt X3.out
      by_cases hz0 : z = 0
      · subst hz0
        have HKC := Lib.hid (kid_check HLK.out HZ.out)
        go_wp2_with fail
        go_loopw [38] (fun i wr => ∃ j : Nat, i = .int .i64 (j : Int) ∧ j ≤ m ∧ Hid (Ext Non w wr)) (fun i _ => m - (intOf i).toNat)
        case atStart => exact ⟨0, rfl, by omega, E3⟩
        case round =>
          obtain ⟨j, rfl, hj, HE⟩ := hrel
          by_cases hlt : j < m
          · obtain ⟨k, hk0⟩ : ∃ k, kids[j]? = some k := ⟨_, List.getElem?_eq_getElem (by rw [← HLN.out]; exact hlt)⟩
            obtain ⟨gk, off, vk, mm, hnm, rfl, hgk, hgl, d0', d1', d2', d3', hrk⟩ := kid_at (HRK.out.ext0 HE.out) hk0
            obtain ⟨A2, len2, cap2, rfl, hlen2⟩ := rd_abs hrk
            have hm100 : m ≤ 1000 := by have h := HLK.out.2.2.2.1; rw [HLN.out]; exact h
            have HMEM := Lib.hid (List.mem_of_getElem? hk0)
            have HKR := Lib.hid hrk
            clear hrk hk0 hlen2
            go_wp2_with fail
            refine (Check_calls (n := mm) (f := k) ⟨_, rfl, HKR.out.ext0 ?_⟩ (by have h := HOK.out.2.2.2.2 k HMEM.out; rw [hnm] at h; exact h)).mono ?_
            · repeat (first | exact Ext.refl _ _ | refine Ext.alloc ?_ _)
            rw [← hnm, show checkE n k = 0 from HKC.out k HMEM.out]
            rintro e' w5 ⟨rfl, he⟩
            have HE5 : Hid (Ext Non w w5) := by
              refine Ext.trans0 ?_ he
              repeat (first | exact HE.out | refine Ext.alloc ?_ _)
            clear he
            go_wp2_with fail
            go_roundw
            case rel => exact ⟨j + 1, by go_num, by omega, HE5.out⟩
            case measure => simp [intOf]; omega
          · obtain rfl : j = m := by omega
            go_wp2_with fail
            refine (awake_calls _).mono ?_
            rintro e' wz ⟨rfl, he⟩
            have EZ := Lib.hid (HE.out.trans0 he)
            clear he
            go_wp2_with fail
            go_ret
            exact ⟨rfl, EZ.out⟩
      · have HP0 : Hid (holdsP fieldF (n + 1) (.mk op key val kids) e = false) := if_neg (by rw [HZ.out]; exact hz0)
        have HP1 : Hid (passF fieldF (n + 1) (.mk op key val kids) [e] = []) := by
          show List.filter _ [e] = []
          simp [HP0.out]
        go_wp2_with fail
        refine (Holds_calls (e := e) V3.out HOK.out (.inr Field_calls) HSM.out).mono ?_
        rw [HP0.out]
        rintro e' w4 ⟨rfl, he⟩
        have E4 := Lib.hid (E3.out.trans0 he)
        have V4 := Lib.hid (V3.out.ext0 he)
        have B4 := Lib.hid (he.obj B3.out (fun h => h))
        have X4 := Lib.hid (he.obj X3.out (fun h => h))
        clear he y0 y1 y2 y3 x0 x1 x2 x3 x4 x5
        have y0 : w4.cell? ⟨w.heap.size, 0, none⟩ = some (.int .i64 op) := blk_cell B4.out 0
        have y1 : w4.cell? ⟨w.heap.size, 1, none⟩ = some (.string key) := blk_cell B4.out 1
        have y2 : w4.cell? ⟨w.heap.size, 2, none⟩ = some (.string val) := blk_cell B4.out 2
        have y3 : w4.cell? ⟨w.heap.size, 3, none⟩ = some (.slice A m c) := blk_cell B4.out 3
        have x0 : w4.cell? ⟨w.heap.size + 1, 0, none⟩ = some (.int .i64 e.pos) := blk_cell X4.out 0
        have x1 : w4.cell? ⟨w.heap.size + 1, 1, none⟩ = some (.string e.key) := blk_cell X4.out 1
        have x2 : w4.cell? ⟨w.heap.size + 1, 2, none⟩ = some (.bool e.had) := blk_cell X4.out 2
        have x3 : w4.cell? ⟨w.heap.size + 1, 3, none⟩ = some (.string e.old) := blk_cell X4.out 3
        have x4 : w4.cell? ⟨w.heap.size + 1, 4, none⟩ = some (.bool e.has) := blk_cell X4.out 4
        have x5 : w4.cell? ⟨w.heap.size + 1, 5, none⟩ = some (.string e.now) := blk_cell X4.out 5
        have hlx4 := blk_lt X4.out
        go_wp2_with fail
        refine (Pass_calls (fp := fieldF) (ok2 := fun _ => True) (l := [e]) (V4.out.ext0 ((Ext.refl _ _).alloc _)) HOK.out (.inr Field_calls) (Rd.lit_at (cs := e.cells) (e := 42) (fr := (0, 0)) (blk_new w4 _) rfl trivial) (fun x hx => by rw [List.mem_singleton] at hx; subst hx; exact HSM.out) (by simp)).mono ?_
        rw [HP1.out]
        rintro e' w5 ⟨A5, n5, c5, rfl, ho, he⟩
        obtain ⟨_, _, hs5, _, _⟩ := ho.out.slice
        simp only [Value.slice.injEq, List.length_nil] at hs5
        obtain ⟨-, rfl, -⟩ := hs5
        have E5 := Lib.hid ((E4.out.alloc (.cells #[.int .i64 e.pos, .string e.key, .bool e.had, .string e.old, .bool e.has, .string e.now] 42)).trans0 he.out)
        clear he ho
        go_wp2_with fail
        refine (awake_calls _).mono ?_
        rintro e' wz ⟨rfl, he⟩
        have EZ := Lib.hid (E5.out.trans0 he)
        clear he
        go_wp2_with fail
        go_ret
        exact ⟨rfl, EZ.out⟩
end Go.Proofs.Ytooafilbmjnfmaa
