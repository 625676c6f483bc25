/- Sessions: SessNobody. -/
import Derived.Test.YtiebnjkjgobklaaN1
import Derived.Test.YtiebnjkjgobklaaS7
import Derived.Laws.IdiomStrings
import Derived.Laws.BytesArg
namespace Go.Proofs.Ytiebnjkjgobklaa
open Go.RowKit Go.TM

theorem conv_rd {w : World} {ok : Nat → Prop} {A : Option Addr} {n c : Nat} {bs : List UInt8} (h : Rd Kd.u8 w ok (.slice A n c) bs) : (convert 52 9 (.slice A n c)).run Try.prog w = .ok (.string ⟨bs.toArray⟩) w := by
  obtain ⟨A', c', he, hc, hm, hr⟩ := h
  simp only [Value.slice.injEq] at he
  obtain ⟨rfl, rfl, rfl⟩ := he
  cases bs with
  | nil =>
    cases A with
    | none => exact run_convert_bytes_nil w 52 5 Try.underlying52 Try.underlying5 _ _ 9 Try.underlying9
    | some a => exact run_convert_bytes_back w 52 9 5 a _ [] Try.underlying52 Try.underlying5 Try.underlying9 (fun j hj => by simp at hj)
  | cons b bs =>
    obtain ⟨g, off, rfl, hg, hlt, hx⟩ := hr (by simp)
    refine run_convert_bytes_back w 52 9 5 _ _ (b :: bs) Try.underlying52 Try.underlying5 Try.underlying9 (fun j hj => ?_)
    obtain ⟨cs, hk, hcs⟩ := hx j _ (List.getElem?_eq_getElem hj)
    have hk' : cs = [Value.int .u8 ((b :: bs)[j]).toNat] := hk
    subst hk'
    have := hcs 0 _ rfl
    have hadd : (⟨g, off, none⟩ : Addr).add j = ⟨g, off + j, none⟩ := by unfold Addr.add; split <;> simp_all
    rw [hadd]
    simpa [Kd.u8, Kd.flat] using this

set_option maxHeartbeats 4000000 in
set_option maxRecDepth 100000 in
theorem nobody_calls {w : World} {ok : Nat → Prop} {A : Option Addr} {c : Nat} {bs : List UInt8} (x : Do) (H : Rd Kd.u8 w ok (.slice A bs.length c) bs) :
    Calls Try.prog 7 #[.agg #[.int .i64 x.op, .int .i64 x.ses, .int .i64 x.seq, .int .i64 x.err, .int .i64 x.n], .slice A bs.length c] w fun e w' => e = .returned (.bool true) ∧ Ext Non w w' := by
  have HH := Lib.hid H
  clear H
  go_enter Try.func7, Try.ntmps7
  go_wp2_with (first | (go_at_call 11; refine (awake_calls _).mono ?_; rintro e w1 ⟨rfl, he⟩; have HE := Lib.hid (((Ext.refl Non w).alloc _).trans0 he); clear he) | fail)
  · go_ret
    exact ⟨rfl, HE.out⟩
  have hb0 : ((((w.alloc (.cells #[.int .i64 x.op, .int .i64 x.ses, .int .i64 x.seq, .int .i64 x.err, .int .i64 x.n] 27)).alloc (.cells #[.slice none 0 0, .int .i64 0, .bool false] 54)).alloc (.cells #[.pointer none, .pointer (some ⟨w.heap.size + 1, 0, none⟩)] 29))).heap[w.heap.size]? = some (.cells #[.int .i64 x.op, .int .i64 x.ses, .int .i64 x.seq, .int .i64 x.err, .int .i64 x.n] 27) := blk_alloc (blk_alloc (heap_alloc_new w _) _) _
  have hb1 : ((((w.alloc (.cells #[.int .i64 x.op, .int .i64 x.ses, .int .i64 x.seq, .int .i64 x.err, .int .i64 x.n] 27)).alloc (.cells #[.slice none 0 0, .int .i64 0, .bool false] 54)).alloc (.cells #[.pointer none, .pointer (some ⟨w.heap.size + 1, 0, none⟩)] 29))).heap[w.heap.size + 1]? = some (.cells #[.slice none 0 0, .int .i64 0, .bool false] 54) := by
    refine blk_alloc ?_ _
    have := heap_alloc_new (w.alloc (.cells #[.int .i64 x.op, .int .i64 x.ses, .int .i64 x.seq, .int .i64 x.err, .int .i64 x.n] 27)) (.cells #[.slice none 0 0, .int .i64 0, .bool false] 54)
    simpa using this
  have hb2 : ((((w.alloc (.cells #[.int .i64 x.op, .int .i64 x.ses, .int .i64 x.seq, .int .i64 x.err, .int .i64 x.n] 27)).alloc (.cells #[.slice none 0 0, .int .i64 0, .bool false] 54)).alloc (.cells #[.pointer none, .pointer (some ⟨w.heap.size + 1, 0, none⟩)] 29))).heap[w.heap.size + 1 + 1]? = some (.cells #[.pointer none, .pointer (some ⟨w.heap.size + 1, 0, none⟩)] 29) := by
    have := heap_alloc_new ((w.alloc (.cells #[.int .i64 x.op, .int .i64 x.ses, .int .i64 x.seq, .int .i64 x.err, .int .i64 x.n] 27)).alloc (.cells #[.slice none 0 0, .int .i64 0, .bool false] 54)) (.cells #[.pointer none, .pointer (some ⟨w.heap.size + 1, 0, none⟩)] 29)
    simpa using this
  have hE0 : Ext Non w ((((w.alloc (.cells #[.int .i64 x.op, .int .i64 x.ses, .int .i64 x.seq, .int .i64 x.err, .int .i64 x.n] 27)).alloc (.cells #[.slice none 0 0, .int .i64 0, .bool false] 54)).alloc (.cells #[.pointer none, .pointer (some ⟨w.heap.size + 1, 0, none⟩)] 29))) := (((Ext.refl Non w).alloc _).alloc _).alloc _
  generalize (((w.alloc (.cells #[.int .i64 x.op, .int .i64 x.ses, .int .i64 x.seq, .int .i64 x.err, .int .i64 x.n] 27)).alloc (.cells #[.slice none 0 0, .int .i64 0, .bool false] 54)).alloc (.cells #[.pointer none, .pointer (some ⟨w.heap.size + 1, 0, none⟩)] 29)) = w2 at hb0 hb1 hb2 hE0 ⊢
  generalize w.heap.size + 1 + 1 = b2 at hb2 ⊢
  generalize w.heap.size + 1 = b1 at hb1 hb2 ⊢
  generalize w.heap.size = b0 at hb0 ⊢
  have B0 := Lib.hid hb0
  have B1 := Lib.hid hb1
  have B2 := Lib.hid hb2
  have E0 := Lib.hid hE0
  clear hb0 hb1 hb2 hE0
  go_loopw [20] (fun i wr => ∃ j : Nat, i = .int .i64 j ∧ j ≤ 2 ∧ Hid (Ext Non w2 wr)) (fun i _ => 2 - (intOf i).toNat)
  case atStart => exact ⟨0, rfl, by omega, Ext.refl _ _⟩
  case round =>
    obtain ⟨j, rfl, hj, HE⟩ := hrel
    by_cases hlt : j < 2
    · have q0 : (j : Int) < 2 := by omega
      have q1 : (0 : Int) ≤ (j : Int) := by omega
      obtain ⟨p, hp, hD⟩ : ∃ p, wr.cell? ⟨b2, j, none⟩ = some (.pointer p) ∧ Dead wr p := by
        have hb := HE.out.obj B2.out (fun e => e)
        have hc := blk_cell (HE.out.obj B1.out (fun e => e)) 2
        simp at hc
        have h01 : j = 0 ∨ j = 1 := by omega
        rcases h01 with rfl | rfl
        · exact ⟨none, by simpa using blk_cell hb 0, .inl rfl⟩
        · exact ⟨some ⟨b1, 0, none⟩, by simpa using blk_cell hb 1, .inr ⟨b1, rfl, hc⟩⟩
      have HD := Lib.hid hD
      have b0' := HE.out.obj B0.out (fun e => e)
      have e1 := blk_cell b0' 1
      have e2 := blk_cell b0' 2
      have e3 := blk_cell b0' 3
      have e4 := blk_cell b0' 4
      have hl0 := blk_lt b0'
      simp at e1 e2 e3 e4
      have B0' := Lib.hid b0'
      clear hD b0'
      go_wp2_with (first | (go_at_call 18; refine (Open_dead HD.out).mono ?_; rintro e w3 ⟨rfl, rfl⟩) | fail)
      refine (Ask_dead HD.out _ _).mono ?_
      rintro e w3 ⟨rfl, h3⟩
      unfold AskR.val
      have b3 := h3.obj B0'.out (fun e => e)
      have e1 := blk_cell b3 1
      have e2 := blk_cell b3 2
      have e3 := blk_cell b3 3
      have e4 := blk_cell b3 4
      have hl3 := blk_lt b3
      simp at e1 e2 e3 e4
      have E3 := Lib.hid h3
      have HD3 := Lib.hid (HD.out.ext h3)
      have HR3 : Hid (Rd Kd.u8 w3 ok (.slice A bs.length c) bs) := HH.out.ext0 ((E0.out.trans0 HE.out).trans0 h3)
      clear h3 b3
      go_wp2_with fail
      have g9 := heap_alloc_new w3 (.cells #[.int .i64 0, .int .i64 0] 25)
      have g0 := blk_alloc (w := w3) (g := b0) (B0'.out |> fun h => E3.out.obj h (fun e => e)) (.cells #[.int .i64 0, .int .i64 0] 25)
      have HD4 := Lib.hid (HD3.out.ext ((Ext.refl Non w3).alloc (.cells #[.int .i64 0, .int .i64 0] 25)))
      have HR4 := Lib.hid (HR3.out.ext0 ((Ext.refl Non w3).alloc (.cells #[.int .i64 0, .int .i64 0] 25)))
      have E4 := Lib.hid (E3.out.alloc (.cells #[.int .i64 0, .int .i64 0] 25))
      generalize w3.alloc (.cells #[.int .i64 0, .int .i64 0] 25) = w4 at g9 g0 HD4 HR4 E4 ⊢
      generalize w3.heap.size = b9 at g9 ⊢
      have g1 : w4.drew.cell? ⟨b0, 1, none⟩ = some (.int .i64 x.ses) := by simpa using blk_cell (w := w4.drew) g0 1
      have g2 : w4.drew.cell? ⟨b0, 2, none⟩ = some (.int .i64 x.seq) := by simpa using blk_cell (w := w4.drew) g0 2
      have g3 : w4.drew.cell? ⟨b0, 3, none⟩ = some (.int .i64 x.err) := by simpa using blk_cell (w := w4.drew) g0 3
      have g4 : w4.drew.cell? ⟨b0, 4, none⟩ = some (.int .i64 x.n) := by simpa using blk_cell (w := w4.drew) g0 4
      have f0 : w4.drew.cell? ⟨b9, 0, none⟩ = some (.int .i64 0) := by simpa using blk_cell (w := w4.drew) g9 0
      have f1 : w4.drew.cell? ⟨b9, 1, none⟩ = some (.int .i64 0) := by simpa using blk_cell (w := w4.drew) g9 1
      have HD5 := Lib.hid (HD4.out.ext (Ext.drew (Ext.refl Non w4)))
      have HR5 := Lib.hid (HR4.out.ext0 (Ext.drew (Ext.refl Non w4)))
      have E5 := Lib.hid (Ext.drew E4.out)
      have cv := conv_rd HR5.out
      clear g9 g0 e1 e2 e3 e4 hl3 hl0
      go_region_held3 (fun W => W.cell? ⟨b0, 1, none⟩ = some (.int .i64 x.ses) ∧ W.cell? ⟨b0, 2, none⟩ = some (.int .i64 x.seq) ∧ W.cell? ⟨b0, 3, none⟩ = some (.int .i64 x.err) ∧ W.cell? ⟨b0, 4, none⟩ = some (.int .i64 x.n) ∧ W.cell? ⟨b9, 0, none⟩ = some (.int .i64 0) ∧ W.cell? ⟨b9, 1, none⟩ = some (.int .i64 0) ∧ (convert 52 9 (.slice A bs.length c)).run Try.prog W = .ok (.string ⟨bs.toArray⟩) W) (first | assumption | exact ⟨g1, g2, g3, g4, f0, f1, cv⟩) (first
        | (go_at_call 20; refine (Close_dead HD5.out _).mono ?_; rintro e w5 ⟨rfl, rfl⟩)
        | (go_at_call 13; refine (Keep_dead HD5.out _ _ _ _).mono ?_; rintro e w5 ⟨rfl, h5⟩
           have g1 := h5.cell g1 (fun e => e)
           have g2 := h5.cell g2 (fun e => e)
           have g3 := h5.cell g3 (fun e => e)
           have g4 := h5.cell g4 (fun e => e)
           have f0 := h5.cell f0 (fun e => e)
           have f1 := h5.cell f1 (fun e => e)
           have HD6 := Lib.hid (HD5.out.ext h5)
           have HR6 := Lib.hid (HR5.out.ext0 h5)
           have E6 := Lib.hid (E5.out.trans0 h5)
           have cv := conv_rd HR6.out
           clear h5)
        | (go_at_call 23; refine (List_dead HD6.out).mono ?_; rintro e w6 ⟨rfl, rfl⟩)
        | (go_at_call 27; refine (Put_dead HD6.out _ _ _).mono ?_; rintro e w6 ⟨rfl, rfl⟩)
        | fail)
      all_goals
        go_wp2_with fail
        go_roundw
        case rel => exact ⟨j + 1, by simp, by omega, HE.out.trans0 E6.out⟩
        case measure => simp [intOf]; omega
    · obtain rfl : j = 2 := by omega
      go_wp2_with (first | (go_at_call 11; refine (awake_calls _).mono ?_; rintro e w4 ⟨rfl, he⟩; have HE4 := Lib.hid he; clear he) | fail)
      go_ret
      exact ⟨rfl, (E0.out.trans0 HE.out).trans0 HE4.out⟩
end Go.Proofs.Ytiebnjkjgobklaa
