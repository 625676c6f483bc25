/- FilterTakes: the law holds of all bytes. -/
import Derived.Test.YtooafilbmjnfmaaGets
namespace Go.Proofs.Ytooafilbmjnfmaa
open Go.RowKit Go.TM
set_option maxRecDepth 100000 in
set_option maxHeartbeats 8000000 in
theorem takes_calls {w : World} {ok : Nat → Prop} {A : Option Addr} {c : Nat} {l : List UInt8} (H : Rd Kd.u8 w ok (.slice A l.length c) l) : Calls Try.prog 4 #[.slice A l.length c] w fun e w' => e = .returned (.bool true) ∧ Ext Non w w' := by
  obtain ⟨n, hn⟩ : ∃ n, l.length = n := ⟨_, rfl⟩
  rw [hn] at H ⊢
  have HH := Lib.hid H.bound
  have HN := Lib.hid hn
  obtain ⟨_, _, hs, _, hm⟩ := H.slice
  have hmx : (n : Int) ≤ 9223372036854775807 := by omega
  clear H hn hs hm
  by_cases hk : (n : Int) ≤ 8192
  · have HBL : Hid (l.length ≤ 140737488355328) := by have h := HN.out; show _ ≤ _; omega
    go_enter Try.func4, Try.ntmps4
    go_wp2_with fail
    refine (Read_calls HH.out HBL.out).mono ?_
    rintro e w1 ⟨g, rfl, hg0, hg1, hR, he⟩
    obtain ⟨w2, hw2⟩ : ∃ w2, w1.alloc (.cells #[.slice A n c, .int .i64 0, .int .i64 0] 34) = w2 := ⟨_, rfl⟩
    obtain ⟨q, hq⟩ : ∃ q, w1.heap.size = q := ⟨_, rfl⟩
    have hB2 : w2.heap[q]? = some (.cells #[.slice A n c, .int .i64 0, .int .i64 0] 34) := by rw [← hw2, ← hq]; exact blk_new _ _
    have hE2 : Ext Non w1 w2 := by rw [← hw2]; exact (Ext.refl _ _).alloc _
    have R2 := Lib.hid (hR.ext hE2)
    have E2 := Lib.hid (he.trans0 hE2)
    have Q2 : Hid (RrAt w2 (fun k => ok k ∧ k < w.heap.size) q l 0 0) := ⟨_, hB2, HH.out.ext0 E2.out⟩
    have hz1 := he.size
    have hz2 := hE2.size
    have hq2 := blk_lt hB2
    have HW2 := Lib.hid hw2
    have HQ := Lib.hid hq
    clear hR he hB2 hE2 hw2
    go_wp2_with fail
    rw [HW2.out]
    clear hq
    have hgq : g < q := by have := HQ.out; omega
    obtain ⟨b, hb⟩ : ∃ b, tkOK l 0 0 = b := ⟨_, rfl⟩
    have HB := Lib.hid hb
    have HS : Hid (b = true → (rdT 192 l 7 0 0) = (rdT 32 l 6 0 0)) := fun h => take_same.2 (hb.trans h)
    obtain ⟨f, hfe⟩ : ∃ f, tkF l 0 0 = f := ⟨_, rfl⟩
    have HFE := Lib.hid hfe
    have HOK : Hid (okL 7 f) := by show okL 7 f; rw [← hfe]; exact tkF_okL (Nat.zero_le _)
    clear hb hfe
    obtain ⟨op, key, val, kids⟩ := f
    refine (Take_calls R2.out (fun h => by have := h.2; omega) (fun j hj => by have := hj.2; omega) (by omega) (Nat.zero_le _)).mono ?_
    rintro e w3 ⟨x, rfl, hf, hR, he⟩
    rw [HB.out]
    rw [HFE.out] at hf
    obtain ⟨A3, n3, c3, rfl⟩ := fv_abs hf
    dsimp only [Flt.op, Flt.key, Flt.val] at hf ⊢
    obtain ⟨w4, hw4⟩ : ∃ w4, w3.alloc (.cells #[.int .i64 op, .string key, .string val, .slice A3 n3 c3] 24) = w4 := ⟨_, rfl⟩
    obtain ⟨r, hr⟩ : ∃ r, w3.heap.size = r := ⟨_, rfl⟩
    have hB4 : w4.heap[r]? = some (.cells #[.int .i64 op, .string key, .string val, .slice A3 n3 c3] 24) := by rw [← hw4, ← hr]; exact blk_new _ _
    have hE4 : Ext Non w3 w4 := by rw [← hw4]; exact (Ext.refl _ _).alloc _
    have V4 := Lib.hid (hf.ext0 hE4)
    have R4 := Lib.hid (hR.ext hE4)
    have Q4 := Lib.hid ((Q2.out.far he (fun h => by have h : q = g := h; omega) (fun j hj _ h => by have h : j = g := h; have := hj.2; omega)).ext hE4)
    have E4 : Hid (Ext Non w w4) := (E2.out.trans he (fun i hi h => by have h : i = g := h; omega)).trans0 hE4
    have B4 := Lib.hid hB4
    have hz3 := he.size
    have hz4 := hE4.size
    have HW4 := Lib.hid hw4
    have HRR := Lib.hid hr
    clear hf hR he hB4 hE4 hw4
    go_wp2_with fail
    rw [HW4.out]
    have hrq : q < r := by have := HRR.out; omega
    clear hr
    refine (RTake_calls Q4.out (fun h => by have := h.2; omega) (fun j hj => by have := hj.2; omega) (by omega) (Nat.zero_le _) HBL.out).mono ?_
    rintro e w5 ⟨x, rfl, hf, hQ, he⟩
    rw [take_same.1, HB.out]
    rw [tlF_same, HFE.out] at hf
    obtain ⟨A5, n5, c5, rfl⟩ := fv_abs hf
    dsimp only [Flt.op, Flt.key, Flt.val] at hf ⊢
    have V5 := Lib.hid (show FV 6 w5 _ _ _ from by
      obtain ⟨v, hv, hr⟩ := V4.out
      exact ⟨v, hv, (hr.bound.ext he (fun j hj _ h => by have h : j = q := h; have := hj.1; omega))⟩)
    have X5 := Lib.hid hf
    have R5 := Lib.hid (R4.out.far he (fun h => by have h : g = q := h; omega) (fun j hj _ h => by have h : j = q := h; have := hj.2; omega))
    have Q5 := Lib.hid hQ
    have E5 : Hid (Ext Non w w5) := E4.out.trans he (fun i hi h => by have h : i = q := h; omega)
    have B5 := Lib.hid (he.obj B4.out (fun h => by have h : r = q := h; omega))
    clear hf hQ he
    have y0 : w5.cell? ⟨r, 0, none⟩ = some (.int .i64 op) := blk_cell B5.out 0
    have y1 : w5.cell? ⟨r, 1, none⟩ = some (.string key) := blk_cell B5.out 1
    have y2 : w5.cell? ⟨r, 2, none⟩ = some (.string val) := blk_cell B5.out 2
    have y3 : w5.cell? ⟨r, 3, none⟩ = some (.slice A3 n3 c3) := blk_cell B5.out 3
    have hlr := blk_lt B5.out
    go_wp2_with fail
    refine (Same_calls (f := .mk op key val kids) (V5.out.ext0 ((Ext.refl _ _).alloc _)) (X5.out.ext0 ((Ext.refl _ _).alloc _)) HOK.out).mono ?_
    rintro e w6 ⟨rfl, he⟩
    have E6' := Lib.hid (((Ext.refl Non w5).alloc (.cells #[.int .i64 op, .string key, .string val, .slice A5 n5 c5] 24)).trans0 he)
    have R6 := Lib.hid (R5.out.ext E6'.out)
    have Q6 := Lib.hid (Q5.out.ext E6'.out)
    have E6 := Lib.hid (E5.out.trans0 E6'.out)
    clear he
    have l1 := (rdT_le (bs := l) 32 6 0 0 (Nat.zero_le _)).1
    have l2 := (rdT_le (bs := l) 192 7 0 0 (Nat.zero_le _)).1
    have L1 := Lib.hid l1
    have L2 := Lib.hid l2
    clear l1 l2
    cases b with
    | true =>
      have HSS := Lib.hid (HS.out rfl)
      clear HS
      go_wp2_with fail
      refine (Left_calls R6.out L1.out).mono ?_
      rintro e w7 ⟨rfl, he⟩
      have Q7 := Lib.hid (Q6.out.ext he)
      have E7 := Lib.hid (E6.out.trans0 he)
      clear he
      obtain ⟨z, hz⟩ : ∃ z : Int, ((l.length - (rdT 32 l 6 0 0).2.1 : Nat) : Int) = z := ⟨_, rfl⟩
      have HZ : Hid (((l.length - (rdT 192 l 7 0 0).2.1 : Nat) : Int) = z) := by show _ = _; rw [HSS.out]; exact hz
      rw [hz]
      clear hz
      go_wp2_with fail
      refine (RrLeft_calls Q7.out L2.out).mono ?_
      rw [HZ.out]
      rintro e w8 ⟨rfl, he⟩
      have E8 := Lib.hid (E7.out.trans0 he)
      clear he
      go_wp2_with fail
      refine (awake_calls _).mono ?_
      rintro e w9 ⟨rfl, he⟩
      have E9 := Lib.hid (E8.out.trans0 he)
      clear he
      go_wp2_with fail
      go_ret
      exact ⟨rfl, E9.out⟩
    | false =>
      clear HS
      go_wp2_with fail
      refine (awake_calls _).mono ?_
      rintro e w9 ⟨rfl, he⟩
      have E9 := Lib.hid (E6.out.trans0 he)
      clear he
      go_wp2_with fail
      go_ret
      exact ⟨rfl, E9.out⟩
  · go_enter Try.func4, Try.ntmps4
    go_wp2_with fail
    refine (awake_calls _).mono ?_
    rintro e w1 ⟨rfl, he⟩
    have E1 := Lib.hid he
    clear he
    go_wp2_with fail
    go_ret
    exact ⟨rfl, E1.out⟩
end Go.Proofs.Ytooafilbmjnfmaa
