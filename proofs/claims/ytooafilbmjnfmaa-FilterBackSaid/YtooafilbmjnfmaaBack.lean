/- FilterBack: the law holds of every filter and all bytes. -/
import Derived.Test.YtooafilbmjnfmaaGets
import Derived.Test.YtooafilbmjnfmaaW1
namespace Go.Proofs.Ytooafilbmjnfmaa
open Go.RowKit Go.TM
set_option maxRecDepth 100000 in
set_option maxHeartbeats 16000000 in
theorem back_calls {k : Nat} {f : Flt} {w : World} {ok ok2 : Nat → Prop} {x : Value} (hx : FV k w ok x f) (hok : okF (k + 1) f) {A0 : Option Addr} {c0 : Nat} {l : List UInt8} (H : Rd Kd.u8 w ok2 (.slice A0 l.length c0) l) : Calls Try.prog 8 #[x, .slice A0 l.length c0] w fun e w' => e = .returned (.bool true) ∧ Ext Non w w' := by
  obtain ⟨n, hn⟩ : ∃ n, l.length = n := ⟨_, rfl⟩
  rw [hn] at H ⊢
  have HH := Lib.hid (Rd.any H)
  have HN := Lib.hid hn
  obtain ⟨_, _, hs, _, hm⟩ := H.slice
  have hmx : (n : Int) ≤ 9223372036854775807 := by omega
  clear H hn hs hm
  obtain ⟨b, hb⟩ : ∃ b, lightF (k + 1) f = b := ⟨_, rfl⟩
  have HLO : Hid (b = true → okL (k + 1) f) := fun h => light_ok hok (hb.trans h)
  have HX := Lib.hid hx
  have HOK := Lib.hid hok
  have HB := Lib.hid hb
  clear hb hok
  obtain ⟨v, rfl, hr⟩ := hx
  obtain ⟨op, key, val, kids⟩ := f
  obtain ⟨A, m, c, rfl, hlen⟩ := rd_abs hr
  clear hr hlen
  dsimp only [Flt.op, Flt.key, Flt.val] at HX ⊢
  go_enter Try.func8, Try.ntmps8
  go_wp2_with fail
  have E0 : Hid (Ext Non w (w.alloc (.cells #[.int .i64 op, .string key, .string val, .slice A m c] 24))) := (Ext.refl _ _).alloc _
  have BX : Hid ((w.alloc (.cells #[.int .i64 op, .string key, .string val, .slice A m c] 24)).heap[w.heap.size]? = some (.cells #[.int .i64 op, .string key, .string val, .slice A m c] 24)) := blk_new _ _
  obtain ⟨w0, hw0⟩ : ∃ w0, w.alloc (.cells #[.int .i64 op, .string key, .string val, .slice A m c] 24) = w0 := ⟨_, rfl⟩
  rw [hw0] at E0 BX ⊢
  have VX := Lib.hid (HX.out.ext0 E0.out)
  clear hw0
  refine (light_calls VX.out HOK.out).mono ?_
  rw [HB.out]
  rintro e w1 ⟨rfl, he⟩
  have E1 := Lib.hid (E0.out.trans0 he)
  have V1 := Lib.hid (VX.out.ext0 he)
  have H1 := Lib.hid (HH.out.ext0 E1.out)
  have B1 := Lib.hid (he.obj BX.out (fun h => h))
  have y0 : w1.cell? ⟨w.heap.size, 0, none⟩ = some (.int .i64 op) := blk_cell B1.out 0
  have y1 : w1.cell? ⟨w.heap.size, 1, none⟩ = some (.string key) := blk_cell B1.out 1
  have y2 : w1.cell? ⟨w.heap.size, 2, none⟩ = some (.string val) := blk_cell B1.out 2
  have y3 : w1.cell? ⟨w.heap.size, 3, none⟩ = some (.slice A m c) := blk_cell B1.out 3
  clear he
  cases b with
  | false =>
    clear HLO
    go_wp2_with fail
    refine (awake_calls _).mono ?_
    rintro e wz ⟨rfl, he⟩
    have EZ := Lib.hid (E1.out.trans0 he)
    clear he
    go_wp2_with fail
    go_ret
    exact ⟨rfl, EZ.out⟩
  | true =>
    have HLK := Lib.hid (HLO.out rfl)
    clear HLO
    by_cases hk : (n : Int) ≤ 8192
    case neg =>
      go_wp2_with fail
      refine (awake_calls _).mono ?_
      rintro e wz ⟨rfl, he⟩
      have EZ := Lib.hid (E1.out.trans0 he)
      clear he
      go_wp2_with fail
      go_ret
      exact ⟨rfl, EZ.out⟩
    have HBL : Hid (l.length ≤ 140737488355328) := by have h := HN.out; show _ ≤ _; omega
    go_wp2_with fail
    refine (Put_calls V1.out HLK.out).mono ?_
    rintro e w2 ⟨A2, n2, c2, rfl, ho, he⟩
    have O2 := Lib.hid ho.rd
    have E2 := Lib.hid (E1.out.trans0 he)
    have V2 := Lib.hid (V1.out.ext0 he)
    have H2 := Lib.hid (H1.out.ext0 he)
    have B2 := Lib.hid (he.obj B1.out (fun h => h))
    have y0 : w2.cell? ⟨w.heap.size, 0, none⟩ = some (.int .i64 op) := blk_cell B2.out 0
    have y1 : w2.cell? ⟨w.heap.size, 1, none⟩ = some (.string key) := blk_cell B2.out 1
    have y2 : w2.cell? ⟨w.heap.size, 2, none⟩ = some (.string val) := blk_cell B2.out 2
    have y3 : w2.cell? ⟨w.heap.size, 3, none⟩ = some (.slice A m c) := blk_cell B2.out 3
    clear he ho
    by_cases hc0 : checkE (k + 1) (.mk op key val kids) = 0
    · have HC0 := Lib.hid hc0
      rw [hc0]
      clear hc0
      have hpo := O2.out
      rw [show putOut (k + 1) (.mk op key val kids) = encF (k + 1) (.mk op key val kids) from if_pos HC0.out] at hpo
      have P2 := Lib.hid hpo
      clear hpo
      go_wp2_with fail
      refine (Get_calls P2.out (by have := enc_small HLK.out HC0.out; omega)).mono ?_
      rintro e w3 ⟨x, rfl, hf, he⟩
      obtain ⟨-, hgf, hge⟩ := gt_put HLK.out HC0.out
      rw [hgf] at hf
      rw [hge]
      obtain ⟨A3, n3, c3, rfl⟩ := fv_abs hf
      dsimp only [Flt.op, Flt.key, Flt.val] at hf ⊢
      have E3 := Lib.hid (E2.out.trans0 he)
      have V3 := Lib.hid (V2.out.ext0 he)
      have H3 := Lib.hid (H2.out.ext0 he)
      have B3 := Lib.hid (he.obj B2.out (fun h => h))
      have F3 := Lib.hid hf
      have y0 : w3.cell? ⟨w.heap.size, 0, none⟩ = some (.int .i64 op) := blk_cell B3.out 0
      have y1 : w3.cell? ⟨w.heap.size, 1, none⟩ = some (.string key) := blk_cell B3.out 1
      have y2 : w3.cell? ⟨w.heap.size, 2, none⟩ = some (.string val) := blk_cell B3.out 2
      have y3 : w3.cell? ⟨w.heap.size, 3, none⟩ = some (.slice A m c) := blk_cell B3.out 3
      have hlq := blk_lt B3.out
      clear he hf hgf hge
      go_wp2_with fail
      refine (Same_calls (f := .mk op key val kids) (V3.out.ext0 ((Ext.refl _ _).alloc _)) (F3.out.ext0 ((Ext.refl _ _).alloc _)) HLK.out).mono ?_
      rintro e w4 ⟨rfl, he⟩
      have E4 := Lib.hid ((E3.out.alloc _).trans0 he)
      have H4 := Lib.hid ((H3.out.ext0 ((Ext.refl _ _).alloc _)).ext0 he)
      clear he
      go_wp2_with fail
      refine (Get_calls H4.out HBL.out).mono ?_
      rintro e w8 ⟨x, rfl, hf, he⟩
      obtain ⟨A8, n8, c8, rfl⟩ := fv_abs hf
      have H8 := Lib.hid (H4.out.ext0 he)
      have E8 := Lib.hid (E4.out.trans0 he)
      obtain ⟨f8, hf8⟩ : ∃ f8, gtF l = f8 := ⟨_, rfl⟩
      have HF8 := Lib.hid hf8
      have OK8 : Hid (okL 7 f8) := by show okL 7 f8; rw [← hf8]; exact gtF_okL
      rw [hf8] at hf ⊢
      obtain ⟨op8, key8, val8, kids8⟩ := f8
      dsimp only [Flt.op, Flt.key, Flt.val] at hf ⊢
      obtain ⟨w9, hw9⟩ : ∃ w9, w8.alloc (.cells #[.int .i64 op8, .string key8, .string val8, .slice A8 n8 c8] 24) = w9 := ⟨_, rfl⟩
      obtain ⟨q9, hq9⟩ : ∃ q9, w8.heap.size = q9 := ⟨_, rfl⟩
      have hB9 : w9.heap[q9]? = some (.cells #[.int .i64 op8, .string key8, .string val8, .slice A8 n8 c8] 24) := by rw [← hw9, ← hq9]; exact blk_new _ _
      have hE9 : Ext Non w8 w9 := by rw [← hw9]; exact (Ext.refl _ _).alloc _
      have V9 := Lib.hid (hf.ext0 hE9)
      have H9 := Lib.hid (H8.out.ext0 hE9)
      have E9 := Lib.hid (E8.out.trans0 hE9)
      have v0 : w9.cell? ⟨q9, 0, none⟩ = some (.int .i64 op8) := blk_cell hB9 0
      have v1 : w9.cell? ⟨q9, 1, none⟩ = some (.string key8) := blk_cell hB9 1
      have v2 : w9.cell? ⟨q9, 2, none⟩ = some (.string val8) := blk_cell hB9 2
      have v3 : w9.cell? ⟨q9, 3, none⟩ = some (.slice A8 n8 c8) := blk_cell hB9 3
      have hl9 := blk_lt hB9
      clear hf he hB9 hE9 hf8
      obtain ⟨bg, hbg⟩ : ∃ bg, gtOK l = bg := ⟨_, rfl⟩
      have HBG := Lib.hid hbg
      clear hbg
      cases bg with
      | false =>
        have hge : gtE l = 50 := if_neg (by rw [HBG.out]; simp)
        have hno : Hid (Flt.mk op8 key8 val8 kids8 = noF) := by
          show _ = _
          rw [← HF8.out]
          exact if_neg (by rw [HBG.out]; simp)
        rw [hge]
        clear hge
        go_wp2_with fail
        refine (Same_calls (f := .mk op8 key8 val8 kids8) (okB := fun _ => True) (m := 0) V9.out (by rw [hno.out]; exact ⟨.slice none 0 0, rfl, Rd.nil _ _ _⟩) OK8.out).mono ?_
        rintro e wy ⟨rfl, he⟩
        have EY := Lib.hid (E9.out.trans0 he)
        clear he
        go_wp2_with fail
        refine (awake_calls _).mono ?_
        rintro e wz ⟨rfl, he⟩
        have EZ := Lib.hid (EY.out.trans0 he)
        clear he
        go_wp2_with fail
        go_ret
        exact ⟨rfl, EZ.out⟩
      | true =>
        have hge : gtE l = 0 := if_pos HBG.out
        rw [hge]
        clear hge
        obtain ⟨hck, hput⟩ := gt_back HBG.out
        rw [HF8.out] at hck hput
        have HCK := Lib.hid hck
        have HPUT := Lib.hid hput
        clear hck hput
        go_wp2_with fail
        refine (Put_calls (n := 6) V9.out OK8.out).mono ?_
        rintro e wy ⟨Ay, ny, cy, rfl, ho, he⟩
        rw [HCK.out]
        rw [HPUT.out] at ho
        have OY := Lib.hid ho.rd
        have HY := Lib.hid (H9.out.ext0 he)
        have EY := Lib.hid (E9.out.trans0 he)
        clear ho he
        go_wp2_with fail
        refine (Equal_calls OY.out HY.out).mono ?_
        rw [beq_self_eq_true]
        rintro e wx ⟨rfl, rfl⟩
        go_wp2_with fail
        refine (awake_calls _).mono ?_
        rintro e wz ⟨rfl, he⟩
        have EZ := Lib.hid (EY.out.trans0 he)
        clear he
        go_wp2_with fail
        go_ret
        exact ⟨rfl, EZ.out⟩
    · obtain ⟨z, hz⟩ : ∃ z, checkE (k + 1) (.mk op key val kids) = z := ⟨_, rfl⟩
      rw [hz] at hc0 ⊢
      clear hz
      go_wp2_with fail
      refine (Get_calls H2.out HBL.out).mono ?_
      rintro e w8 ⟨x, rfl, hf, he⟩
      obtain ⟨A8, n8, c8, rfl⟩ := fv_abs hf
      have H8 := Lib.hid (H2.out.ext0 he)
      have E8 := Lib.hid (E2.out.trans0 he)
      obtain ⟨f8, hf8⟩ : ∃ f8, gtF l = f8 := ⟨_, rfl⟩
      have HF8 := Lib.hid hf8
      have OK8 : Hid (okL 7 f8) := by show okL 7 f8; rw [← hf8]; exact gtF_okL
      rw [hf8] at hf ⊢
      obtain ⟨op8, key8, val8, kids8⟩ := f8
      dsimp only [Flt.op, Flt.key, Flt.val] at hf ⊢
      obtain ⟨w9, hw9⟩ : ∃ w9, w8.alloc (.cells #[.int .i64 op8, .string key8, .string val8, .slice A8 n8 c8] 24) = w9 := ⟨_, rfl⟩
      obtain ⟨q9, hq9⟩ : ∃ q9, w8.heap.size = q9 := ⟨_, rfl⟩
      have hB9 : w9.heap[q9]? = some (.cells #[.int .i64 op8, .string key8, .string val8, .slice A8 n8 c8] 24) := by rw [← hw9, ← hq9]; exact blk_new _ _
      have hE9 : Ext Non w8 w9 := by rw [← hw9]; exact (Ext.refl _ _).alloc _
      have V9 := Lib.hid (hf.ext0 hE9)
      have H9 := Lib.hid (H8.out.ext0 hE9)
      have E9 := Lib.hid (E8.out.trans0 hE9)
      have v0 : w9.cell? ⟨q9, 0, none⟩ = some (.int .i64 op8) := blk_cell hB9 0
      have v1 : w9.cell? ⟨q9, 1, none⟩ = some (.string key8) := blk_cell hB9 1
      have v2 : w9.cell? ⟨q9, 2, none⟩ = some (.string val8) := blk_cell hB9 2
      have v3 : w9.cell? ⟨q9, 3, none⟩ = some (.slice A8 n8 c8) := blk_cell hB9 3
      have hl9 := blk_lt hB9
      clear hf he hB9 hE9 hf8
      obtain ⟨bg, hbg⟩ : ∃ bg, gtOK l = bg := ⟨_, rfl⟩
      have HBG := Lib.hid hbg
      clear hbg
      cases bg with
      | false =>
        have hge : gtE l = 50 := if_neg (by rw [HBG.out]; simp)
        have hno : Hid (Flt.mk op8 key8 val8 kids8 = noF) := by
          show _ = _
          rw [← HF8.out]
          exact if_neg (by rw [HBG.out]; simp)
        rw [hge]
        clear hge
        go_wp2_with fail
        refine (Same_calls (f := .mk op8 key8 val8 kids8) (okB := fun _ => True) (m := 0) V9.out (by rw [hno.out]; exact ⟨.slice none 0 0, rfl, Rd.nil _ _ _⟩) OK8.out).mono ?_
        rintro e wy ⟨rfl, he⟩
        have EY := Lib.hid (E9.out.trans0 he)
        clear he
        go_wp2_with fail
        refine (awake_calls _).mono ?_
        rintro e wz ⟨rfl, he⟩
        have EZ := Lib.hid (EY.out.trans0 he)
        clear he
        go_wp2_with fail
        go_ret
        exact ⟨rfl, EZ.out⟩
      | true =>
        have hge : gtE l = 0 := if_pos HBG.out
        rw [hge]
        clear hge
        obtain ⟨hck, hput⟩ := gt_back HBG.out
        rw [HF8.out] at hck hput
        have HCK := Lib.hid hck
        have HPUT := Lib.hid hput
        clear hck hput
        go_wp2_with fail
        refine (Put_calls (n := 6) V9.out OK8.out).mono ?_
        rintro e wy ⟨Ay, ny, cy, rfl, ho, he⟩
        rw [HCK.out]
        rw [HPUT.out] at ho
        have OY := Lib.hid ho.rd
        have HY := Lib.hid (H9.out.ext0 he)
        have EY := Lib.hid (E9.out.trans0 he)
        clear ho he
        go_wp2_with fail
        refine (Equal_calls OY.out HY.out).mono ?_
        rw [beq_self_eq_true]
        rintro e wx ⟨rfl, rfl⟩
        go_wp2_with fail
        refine (awake_calls _).mono ?_
        rintro e wz ⟨rfl, he⟩
        have EZ := Lib.hid (EY.out.trans0 he)
        clear he
        go_wp2_with fail
        go_ret
        exact ⟨rfl, EZ.out⟩
end Go.Proofs.Ytooafilbmjnfmaa
