/- FilterGets: the law holds of all bytes. -/
import Derived.Test.YtooafilbmjnfmaaK0
import Derived.Test.YtooafilbmjnfmaaJ7
namespace Go.Proofs.Ytooafilbmjnfmaa
open Go.RowKit Go.TM
theorem fv_abs {n : Nat} {w : World} {ok : Nat → Prop} {x : Value} {f : Flt} (h : FV n w ok x f) : ∃ A m c, x = .agg #[.int .i64 f.op, .string f.key, .string f.val, .slice A m c] := by
  obtain ⟨v, rfl, hr⟩ := h
  obtain ⟨A, m, c, rfl, _⟩ := rd_abs hr
  exact ⟨A, m, c, rfl⟩
set_option maxRecDepth 100000 in
set_option maxHeartbeats 8000000 in
theorem gets_calls {w : World} {ok : Nat → Prop} {A : Option Addr} {c : Nat} {l : List UInt8} (H : Rd Kd.u8 w ok (.slice A l.length c) l) : Calls Try.prog 9 #[.slice A l.length c] w fun e w' => e = .returned (.bool true) ∧ Ext Non w w' := by
  obtain ⟨n, hn⟩ : ∃ n, l.length = n := ⟨_, rfl⟩
  rw [hn] at H ⊢
  have HH := Lib.hid (Rd.any H)
  have HN := Lib.hid hn
  obtain ⟨_, _, hs, _, hm⟩ := H.slice
  have hmx : (n : Int) ≤ 9223372036854775807 := by omega
  clear H hn hs hm
  by_cases hk : (n : Int) ≤ 8192
  · have HBL : Hid (l.length ≤ 140737488355328) := by have h := HN.out; show _ ≤ _; omega
    go_enter Try.func9, Try.ntmps9
    go_wp2_with fail
    refine (Clone_calls HH.out HBL.out (fun _ _ => trivial)).mono ?_
    rintro e w1 ⟨v1, rfl, ho, he⟩
    obtain ⟨A1, n1, c1, rfl, hn1⟩ := Own.abs8 ho
    have R1 := Lib.hid ho.rd
    have H1 := Lib.hid (HH.out.ext0 he)
    have E1 := Lib.hid he
    clear ho he hn1
    go_wp2_with fail
    refine (Get_calls R1.out HBL.out).mono ?_
    rintro e w2 ⟨x, rfl, hf, he⟩
    obtain ⟨A2, n2, c2, rfl⟩ := fv_abs hf
    have V2 := Lib.hid hf
    have R2 := Lib.hid (R1.out.ext0 he)
    have H2 := Lib.hid (H1.out.ext0 he)
    have E2 := Lib.hid (E1.out.trans0 he)
    clear hf he
    obtain ⟨f, hfe⟩ : ∃ f, gtF l = f := ⟨_, rfl⟩
    have HFE := Lib.hid hfe
    rw [hfe] at V2 ⊢
    have HOK : Hid (okL 7 f) := by show okL 7 f; rw [← hfe]; exact gtF_okL
    obtain ⟨z, hz⟩ : ∃ z, gtE l = z := ⟨_, rfl⟩
    have HZ := Lib.hid hz
    rw [hz]
    clear hfe hz
    obtain ⟨op, key, val, kids⟩ := f
    dsimp only [Flt.op, Flt.key, Flt.val] at V2 ⊢
    obtain ⟨w3, hw3⟩ : ∃ w3, w2.alloc (.cells #[.int .i64 op, .string key, .string val, .slice A2 n2 c2] 24) = w3 := ⟨_, rfl⟩
    obtain ⟨q, hq⟩ : ∃ q, w2.heap.size = q := ⟨_, rfl⟩
    have hB3 : w3.heap[q]? = some (.cells #[.int .i64 op, .string key, .string val, .slice A2 n2 c2] 24) := by rw [← hw3, ← hq]; exact blk_new _ _
    have hE3 : Ext Non w2 w3 := by rw [← hw3]; exact (Ext.refl _ _).alloc _
    have V3 := Lib.hid (V2.out.ext0 hE3)
    have R3 := Lib.hid (R2.out.ext0 hE3)
    have H3 := Lib.hid (H2.out.ext0 hE3)
    have E3 := Lib.hid (E2.out.trans0 hE3)
    have B3 := Lib.hid hB3
    clear hB3 hE3
    go_wp2_with fail
    clear hw3 hq
    refine (RGet_calls H3.out HBL.out).mono ?_
    rintro e w4 ⟨x, rfl, hf, he⟩
    rw [glE_same, HZ.out]
    rw [glF_same, HFE.out] at hf
    obtain ⟨A4, n4, c4, rfl⟩ := fv_abs hf
    dsimp only [Flt.op, Flt.key, Flt.val] at hf ⊢
    have V4 := Lib.hid (V3.out.ext0 he)
    have W4 := Lib.hid hf
    have R4 := Lib.hid (R3.out.ext0 he)
    have H4 := Lib.hid (H3.out.ext0 he)
    have E4 := Lib.hid (E3.out.trans0 he)
    have B4 := Lib.hid (he.obj B3.out (fun h => h))
    have y0 : w4.cell? ⟨q, 0, none⟩ = some (.int .i64 op) := blk_cell B4.out 0
    have y1 : w4.cell? ⟨q, 1, none⟩ = some (.string key) := blk_cell B4.out 1
    have y2 : w4.cell? ⟨q, 2, none⟩ = some (.string val) := blk_cell B4.out 2
    have y3 : w4.cell? ⟨q, 3, none⟩ = some (.slice A2 n2 c2) := blk_cell B4.out 3
    have hlq := blk_lt B4.out
    clear hf he
    go_wp2_with fail
    refine (Same_calls (f := .mk op key val kids) (V4.out.ext0 ((Ext.refl _ _).alloc _)) (W4.out.ext0 ((Ext.refl _ _).alloc _)) HOK.out).mono ?_
    rintro e w5 ⟨rfl, he⟩
    have R5 := Lib.hid ((R4.out.ext0 ((Ext.refl _ _).alloc _)).ext0 he)
    have H5 := Lib.hid ((H4.out.ext0 ((Ext.refl _ _).alloc _)).ext0 he)
    have E5 := Lib.hid ((E4.out.alloc _).trans0 he)
    clear he
    go_wp2_with fail
    refine (Equal_calls R5.out H5.out).mono ?_
    rw [beq_self_eq_true]
    rintro e w6 ⟨rfl, rfl⟩
    go_wp2_with fail
    refine (awake_calls _).mono ?_
    rintro e w7 ⟨rfl, he⟩
    have E7 := Lib.hid (E5.out.trans0 he)
    clear he
    go_wp2_with fail
    go_ret
    exact ⟨rfl, E7.out⟩
  · go_enter Try.func9, Try.ntmps9
    go_wp2_with fail
    refine (awake_calls _).mono ?_
    rintro e w1 ⟨rfl, he⟩
    have E1 := Lib.hid he
    clear he
    go_wp2_with fail
    go_ret
    exact ⟨rfl, E1.out⟩
end Go.Proofs.Ytooafilbmjnfmaa
