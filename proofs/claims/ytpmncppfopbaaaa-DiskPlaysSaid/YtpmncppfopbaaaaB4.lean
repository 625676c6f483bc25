/- A plate behind an act: a slot; any act. -/
import Derived.Test.YtpmncppfopbaaaaB3
namespace Go.Proofs.Ytpmncppfopbaaaa
open Go.RowKit Go.TM

theorem pdoes0 {w : World} {ok : Nat → Prop} {A0 A1 A2 A3 : Option Addr} {n0 n1 n2 n3 c0 c1 c2 c3 : Nat} {p : Plate} {a : DAct}
    (H : PlateRd w ok (.slice A0 n0 c0) (.slice A1 n1 c1) (.slice A2 n2 c2) p) (K : Rd Kd.u8 w ok (.slice A3 n3 c3) a.b) (hk : a.kind = 0) :
    Calls Try.prog 48 #[.agg #[.slice A0 n0 c0, .slice A1 n1 c1, .slice A2 n2 c2], .agg #[.int .i64 a.kind, .slice A3 n3 c3]] w (PlatePost ok (p.does a) w) := by
  have HH := Lib.hid H
  have hd : Hid (p.does a = ⟨a.b, p.s1, p.tape⟩) := by
    show _ = _
    unfold Plate.does
    rw [if_neg (by omega), if_neg (by omega), if_pos hk]
  rw [hk]
  have HK := Lib.hid K
  clear H hk K
  obtain ⟨W0, hW, b0, b1, b2, e0, z0⟩ := boxes3 w (.cells #[.slice A0 n0 c0, .slice A1 n1 c1, .slice A2 n2 c2] 54) (.cells #[.int .i64 0, .slice A3 n3 c3] 74) (.cells #[.slice none 0 0, .slice none 0 0, .slice none 0 0] 54)
  have f00 := blk_cell b0 0
  have f01 := blk_cell b0 1
  have f02 := blk_cell b0 2
  have f10 := blk_cell b1 0
  have f11 := blk_cell b1 1
  have f20 := blk_cell b2 0
  have f21 := blk_cell b2 1
  have f22 := blk_cell b2 2
  simp at f00 f01 f02 f10 f11 f20 f21 f22
  have y02 := blk_frozen b0 0
  have y20 := blk_frozen b2 0
  have y21 := blk_frozen b2 1
  have y22 := blk_frozen b2 2
  have E0 := Lib.hid e0
  have b2 := Lib.hid b2
  clear e0 z0 b0 b1
  go_enter Try.func48, Try.ntmps48
  go_wp2_with fail
  clear hW
  have hblk : (((((W0.setCell ⟨w.heap.size, 0, none⟩ (.slice A3 n3 c3)).setCell ⟨w.heap.size + 1 + 1, 0, none⟩ (.slice A3 n3 c3)).setCell ⟨w.heap.size + 1 + 1, 1, none⟩ (.slice A1 n1 c1)).setCell ⟨w.heap.size + 1 + 1, 2, none⟩ (.slice A2 n2 c2))).heap[w.heap.size + 1 + 1]? = some (.cells #[.slice A3 n3 c3, .slice A1 n1 c1, .slice A2 n2 c2] 54 (0, 0)) := by
    have h := blk_set (blk_set (blk_set (blk_far b2.out (p := ⟨w.heap.size, 0, none⟩) (by simp only []; omega) (.slice A3 n3 c3)) 0 (.slice A3 n3 c3)) 1 (.slice A1 n1 c1)) 2 (.slice A2 n2 c2)
    simpa using h
  (try simp only [Exit.inBlock, Exit.then])
  refine bodyPost_ret (results_cell_row rfl _ _ (w.heap.size + 1 + 1) 54 #[.slice A3 n3 c3, .slice A1 n1 c1, .slice A2 n2 c2] (0, 0) _ rfl hblk Try.underlying54 rfl (by kernel_rfl)) rfl ?_
  have EF : Ext Non w ((((W0.setCell ⟨w.heap.size, 0, none⟩ (.slice A3 n3 c3)).setCell ⟨w.heap.size + 1 + 1, 0, none⟩ (.slice A3 n3 c3)).setCell ⟨w.heap.size + 1 + 1, 1, none⟩ (.slice A1 n1 c1)).setCell ⟨w.heap.size + 1 + 1, 2, none⟩ (.slice A2 n2 c2)) :=
    (((E0.out.setNew (by omega) _).setNew (by omega) _).setNew (by omega) _).setNew (by omega) _
  refine ⟨_, _, _, _, _, _, _, _, _, rfl, ?_, EF⟩
  rw [hd.out]
  exact ⟨HK.out.ext0 EF, HH.out.2.1.ext0 EF, HH.out.2.2.ext0 EF⟩
theorem pdoes1 {w : World} {ok : Nat → Prop} {A0 A1 A2 A3 : Option Addr} {n0 n1 n2 n3 c0 c1 c2 c3 : Nat} {p : Plate} {a : DAct}
    (H : PlateRd w ok (.slice A0 n0 c0) (.slice A1 n1 c1) (.slice A2 n2 c2) p) (K : Rd Kd.u8 w ok (.slice A3 n3 c3) a.b) (hk : a.kind = 1) :
    Calls Try.prog 48 #[.agg #[.slice A0 n0 c0, .slice A1 n1 c1, .slice A2 n2 c2], .agg #[.int .i64 a.kind, .slice A3 n3 c3]] w (PlatePost ok (p.does a) w) := by
  have HH := Lib.hid H
  have hd : Hid (p.does a = ⟨p.s0, a.b, p.tape⟩) := by
    show _ = _
    unfold Plate.does
    rw [if_neg (by omega), if_neg (by omega), if_neg (by omega)]
  rw [hk]
  have HK := Lib.hid K
  clear H hk K
  obtain ⟨W0, hW, b0, b1, b2, e0, z0⟩ := boxes3 w (.cells #[.slice A0 n0 c0, .slice A1 n1 c1, .slice A2 n2 c2] 54) (.cells #[.int .i64 1, .slice A3 n3 c3] 74) (.cells #[.slice none 0 0, .slice none 0 0, .slice none 0 0] 54)
  have f00 := blk_cell b0 0
  have f01 := blk_cell b0 1
  have f02 := blk_cell b0 2
  have f10 := blk_cell b1 0
  have f11 := blk_cell b1 1
  have f20 := blk_cell b2 0
  have f21 := blk_cell b2 1
  have f22 := blk_cell b2 2
  simp at f00 f01 f02 f10 f11 f20 f21 f22
  have y02 := blk_frozen b0 1
  have y20 := blk_frozen b2 0
  have y21 := blk_frozen b2 1
  have y22 := blk_frozen b2 2
  have E0 := Lib.hid e0
  have b2 := Lib.hid b2
  clear e0 z0 b0 b1
  go_enter Try.func48, Try.ntmps48
  go_wp2_with fail
  clear hW
  have hblk : (((((W0.setCell ⟨w.heap.size, 1, none⟩ (.slice A3 n3 c3)).setCell ⟨w.heap.size + 1 + 1, 0, none⟩ (.slice A0 n0 c0)).setCell ⟨w.heap.size + 1 + 1, 1, none⟩ (.slice A3 n3 c3)).setCell ⟨w.heap.size + 1 + 1, 2, none⟩ (.slice A2 n2 c2))).heap[w.heap.size + 1 + 1]? = some (.cells #[.slice A0 n0 c0, .slice A3 n3 c3, .slice A2 n2 c2] 54 (0, 0)) := by
    have h := blk_set (blk_set (blk_set (blk_far b2.out (p := ⟨w.heap.size, 1, none⟩) (by simp only []; omega) (.slice A3 n3 c3)) 0 (.slice A0 n0 c0)) 1 (.slice A3 n3 c3)) 2 (.slice A2 n2 c2)
    simpa using h
  (try simp only [Exit.inBlock, Exit.then])
  refine bodyPost_ret (results_cell_row rfl _ _ (w.heap.size + 1 + 1) 54 #[.slice A0 n0 c0, .slice A3 n3 c3, .slice A2 n2 c2] (0, 0) _ rfl hblk Try.underlying54 rfl (by kernel_rfl)) rfl ?_
  have EF : Ext Non w ((((W0.setCell ⟨w.heap.size, 1, none⟩ (.slice A3 n3 c3)).setCell ⟨w.heap.size + 1 + 1, 0, none⟩ (.slice A0 n0 c0)).setCell ⟨w.heap.size + 1 + 1, 1, none⟩ (.slice A3 n3 c3)).setCell ⟨w.heap.size + 1 + 1, 2, none⟩ (.slice A2 n2 c2)) :=
    (((E0.out.setNew (by omega) _).setNew (by omega) _).setNew (by omega) _).setNew (by omega) _
  refine ⟨_, _, _, _, _, _, _, _, _, rfl, ?_, EF⟩
  rw [hd.out]
  exact ⟨HH.out.1.ext0 EF, HK.out.ext0 EF, HH.out.2.2.ext0 EF⟩

theorem pdoes_calls {w : World} {ok : Nat → Prop} {A0 A1 A2 A3 : Option Addr} {n0 n1 n2 n3 c0 c1 c2 c3 : Nat} {p : Plate} {a : DAct}
    (H : PlateRd w ok (.slice A0 n0 c0) (.slice A1 n1 c1) (.slice A2 n2 c2) p) (K : Rd Kd.u8 w ok (.slice A3 n3 c3) a.b) (hk : 0 ≤ a.kind ∧ a.kind ≤ 3) (hf : ∀ k, w.heap.size ≤ k → ok k) (hl : a.kind = 2 → p.tape.length + a.b.length ≤ 140737488355328) :
    Calls Try.prog 48 #[.agg #[.slice A0 n0 c0, .slice A1 n1 c1, .slice A2 n2 c2], .agg #[.int .i64 a.kind, .slice A3 n3 c3]] w (PlatePost ok (p.does a) w) := by
  have h4 : a.kind = 0 ∨ a.kind = 1 ∨ a.kind = 2 ∨ a.kind = 3 := by omega
  rcases h4 with h | h | h | h
  · exact pdoes0 H K h
  · exact pdoes1 H K h
  · exact pdoes2 H K h hf (hl h)
  · exact pdoes3 H h

set_option maxHeartbeats 1000000 in
theorem ptorn_calls {w : World} {ok : Nat → Prop} {A0 A1 A2 A3 : Option Addr} {n0 n1 n2 n3 c0 c1 c2 c3 : Nat} {p : Plate} {a : DAct}
    (H : PlateRd w ok (.slice A0 n0 c0) (.slice A1 n1 c1) (.slice A2 n2 c2) p) (K : Rd Kd.u8 w ok (.slice A3 n3 c3) a.b) (hk : 0 ≤ a.kind ∧ a.kind ≤ 3) (hf : ∀ k, w.heap.size ≤ k → ok k) (hl : a.kind = 2 → p.tape.length + a.b.length ≤ 140737488355328) (n : Int) :
    Calls Try.prog 49 #[.agg #[.slice A0 n0 c0, .slice A1 n1 c1, .slice A2 n2 c2], .agg #[.int .i64 a.kind, .slice A3 n3 c3], .int .i64 n] w (PlatePost ok (p.torn a n) w) := by
  have HH := Lib.hid H
  have HF := Lib.hid hf
  obtain ⟨W0, hW, b0, b1, b2, e0, z0⟩ := boxes3 w (.cells #[.slice A0 n0 c0, .slice A1 n1 c1, .slice A2 n2 c2] 54) (.cells #[.int .i64 a.kind, .slice A3 n3 c3] 74) (.cells #[.slice none 0 0, .slice none 0 0, .slice none 0 0] 54)
  have f00 := blk_cell b0 0
  have f01 := blk_cell b0 1
  have f02 := blk_cell b0 2
  have f10 := blk_cell b1 0
  have f11 := blk_cell b1 1
  have f20 := blk_cell b2 0
  have f21 := blk_cell b2 1
  have f22 := blk_cell b2 2
  simp at f00 f01 f02 f10 f11 f20 f21 f22
  have y11 := blk_frozen b1 1
  have y20 := blk_frozen b2 0
  have y21 := blk_frozen b2 1
  have y22 := blk_frozen b2 2
  have E0 := Lib.hid e0
  have B2 := Lib.hid b2
  have hT := z0
  by_cases h0 : n ≤ 0 ∨ a.kind = 3
  · have hd : Hid (p.torn a n = p) := by
      show _ = _
      unfold Plate.torn
      rw [if_pos h0]
    have q : (n ≤ 0) ∨ (¬ n ≤ 0 ∧ (a.kind == 3) = true) := by
      rcases Int.lt_or_le 0 n with h | h
      · rcases h0 with h1 | h1
        · omega
        · exact .inr ⟨by omega, by simpa using h1⟩
      · exact .inl h
    clear H K hf hk hl e0 h0 b0 b1 b2
    rcases q with q | ⟨q, q2⟩
    all_goals
      go_enter Try.func49, Try.ntmps49
      go_wp2_with fail
      clear hW
      have hblk : (((W0.setCell ⟨w.heap.size + 1 + 1, 0, none⟩ (.slice A0 n0 c0)).setCell ⟨w.heap.size + 1 + 1, 1, none⟩ (.slice A1 n1 c1)).setCell ⟨w.heap.size + 1 + 1, 2, none⟩ (.slice A2 n2 c2)).heap[w.heap.size + 1 + 1]? = some (.cells #[.slice A0 n0 c0, .slice A1 n1 c1, .slice A2 n2 c2] 54 (0, 0)) := by
        have h := blk_set (blk_set (blk_set B2.out 0 (.slice A0 n0 c0)) 1 (.slice A1 n1 c1)) 2 (.slice A2 n2 c2)
        simpa using h
      (try simp only [Exit.inBlock, Exit.then])
      refine bodyPost_ret (results_cell_row rfl _ _ (w.heap.size + 1 + 1) 54 #[.slice A0 n0 c0, .slice A1 n1 c1, .slice A2 n2 c2] (0, 0) _ rfl hblk Try.underlying54 rfl (by kernel_rfl)) rfl ?_
      have EF : Ext Non w (((W0.setCell ⟨w.heap.size + 1 + 1, 0, none⟩ (.slice A0 n0 c0)).setCell ⟨w.heap.size + 1 + 1, 1, none⟩ (.slice A1 n1 c1)).setCell ⟨w.heap.size + 1 + 1, 2, none⟩ (.slice A2 n2 c2)) :=
        ((E0.out.setNew (by omega) _).setNew (by omega) _).setNew (by omega) _
      refine ⟨_, _, _, _, _, _, _, _, _, rfl, ?_, EF⟩
      rw [hd.out]
      exact ⟨HH.out.1.ext0 EF, HH.out.2.1.ext0 EF, HH.out.2.2.ext0 EF⟩
  · have hd : Hid (p.torn a n = p.does (a.cut n)) := by
      show _ = _
      unfold Plate.torn
      rw [if_neg h0]
    obtain ⟨A', c', he, hc, hm⟩ := K.slice
    simp only [Value.slice.injEq] at he
    obtain ⟨rfl, hn3, rfl⟩ := he
    have hcase : (∃ m : Nat, n = (m : Int) ∧ m ≤ n3 ∧ m = min n.toNat n3) ∨ (∃ m : Nat, m = n3 ∧ (m : Int) < n ∧ m = min n.toNat n3) := by
      rcases Int.lt_or_le (n3 : Int) n with h | h
      · exact .inr ⟨n3, rfl, h, by omega⟩
      · exact .inl ⟨n.toNat, by omega, by omega, by omega⟩
    have hcut : ∀ m : Nat, m = min n.toNat n3 → (a.cut n).b = a.b.take m := by
      intro m hm'
      unfold DAct.cut
      simp only []
      rw [hm', List.take_eq_take_iff]
      omega
    have hcl : (a.cut n).b.length ≤ a.b.length := by
      rw [hcut _ rfl, List.length_take]
      exact Nat.min_le_right _ _
    have hRT : ∀ m : Nat, m = min n.toNat n3 → Hid (Rd Kd.u8 w ok (.slice A3 m c3) (a.cut n).b) := by
      intro m hm'
      show Rd _ _ _ _ _
      rw [hcut m hm']
      exact K.take (by omega)
    have hck : (a.cut n).kind = a.kind := rfl
    have HK := Lib.hid hk
    have HL : Hid (a.kind = 2 → p.tape.length + (a.cut n).b.length ≤ 140737488355328) := fun h => by have := hl h; omega
    have HU := Lib.hid hck
    have HD := Lib.hid hd.out
    generalize a.cut n = a' at hRT HL HU HD
    have q1 : ¬ n ≤ 0 := by omega
    have q2 : (a.kind == 3) = false := by simpa using (show ¬ a.kind = 3 by omega)
    have hc3 : n3 ≤ c3 := by omega
    clear H K hf hk hl e0 h0 b0 b1 b2 hn3 hc hm hcut hcl hd hck
    rcases hcase with ⟨m, rfl, hm1, hm2⟩ | ⟨m, rfl, hm1, hm2⟩
    case' inl =>
      have RT := hRT m hm2
      have q3 : (m : Int) ≤ (n3 : Int) := by omega
      have q4 : (0 : Int) ≤ (m : Int) := by omega
      have q5 : (m : Int) ≤ (c3 : Int) := by omega
      clear hRT hm1 hm2 hc3
    case' inr =>
      have RT := hRT m hm2
      have q3 : ¬ n ≤ (m : Int) := by omega
      have q4 : (0 : Int) ≤ (m : Int) := by omega
      have q5 : (m : Int) ≤ (c3 : Int) := by omega
      clear hRT hm1 hm2 hc3
    all_goals
      go_enter Try.func49, Try.ntmps49
      go_wp2_with fail
      clear hW
      have EF1 : Ext Non w (W0.setCell ⟨w.heap.size + 1, 1, none⟩ (.slice A3 m c3)) := E0.out.setNew (by omega) _
      have EF := Lib.hid EF1
      clear EF1
      have hz : (W0.setCell ⟨w.heap.size + 1, 1, none⟩ (.slice A3 m c3)).heap.size = w.heap.size + 3 := by simpa [World.setCell] using hT
      have B2' := Lib.hid (blk_far B2.out (p := ⟨w.heap.size + 1, 1, none⟩) (by simp only []; omega) (.slice A3 m c3))
      generalize W0.setCell ⟨w.heap.size + 1, 1, none⟩ (.slice A3 m c3) = W1 at EF hz B2' ⊢
      have HC := pdoes_calls (w := W1) (ok := fun k => (ok k ∧ k < w.heap.size) ∨ w.heap.size + 3 ≤ k) (a := a')
        ⟨(HH.out.1.bound.ext0 EF.out).mono (fun _ h => Or.inl h), (HH.out.2.1.bound.ext0 EF.out).mono (fun _ h => Or.inl h), (HH.out.2.2.bound.ext0 EF.out).mono (fun _ h => Or.inl h)⟩
        ((RT.out.bound.ext0 EF.out).mono (fun _ h => Or.inl h)) (by rw [HU.out]; exact HK.out) (fun k h => Or.inr (by omega)) (by rw [HU.out]; exact HL.out)
      rw [HU.out] at HC
      refine HC.mono ?_
      rintro e w2 ⟨D0, m0, d0, D1, m1, d1, D2, m2, d2, rfl, hp, he⟩
      have b2 := he.out.obj B2'.out (fun e => e)
      have f20 := blk_cell b2 0
      have f21 := blk_cell b2 1
      have f22 := blk_cell b2 2
      simp at f20 f21 f22
      have y20 := blk_frozen b2 0
      have y21 := blk_frozen b2 1
      have y22 := blk_frozen b2 2
      have E2 := Lib.hid (EF.out.trans0 he.out)
      have B3 := Lib.hid b2
      clear he b2 HC
      go_wp2_with fail
      have hblk : (((w2.setCell ⟨w.heap.size + 1 + 1, 0, none⟩ (.slice D0 m0 d0)).setCell ⟨w.heap.size + 1 + 1, 1, none⟩ (.slice D1 m1 d1)).setCell ⟨w.heap.size + 1 + 1, 2, none⟩ (.slice D2 m2 d2)).heap[w.heap.size + 1 + 1]? = some (.cells #[.slice D0 m0 d0, .slice D1 m1 d1, .slice D2 m2 d2] 54 (0, 0)) := by
        have h := blk_set (blk_set (blk_set B3.out 0 (.slice D0 m0 d0)) 1 (.slice D1 m1 d1)) 2 (.slice D2 m2 d2)
        simpa using h
      (try simp only [Exit.inBlock, Exit.then])
      refine bodyPost_ret (results_cell_row rfl _ _ (w.heap.size + 1 + 1) 54 #[.slice D0 m0 d0, .slice D1 m1 d1, .slice D2 m2 d2] (0, 0) _ rfl hblk Try.underlying54 rfl (by kernel_rfl)) rfl ?_
      have EG : Ext Non w (((w2.setCell ⟨w.heap.size + 1 + 1, 0, none⟩ (.slice D0 m0 d0)).setCell ⟨w.heap.size + 1 + 1, 1, none⟩ (.slice D1 m1 d1)).setCell ⟨w.heap.size + 1 + 1, 2, none⟩ (.slice D2 m2 d2)) :=
        ((E2.out.setNew (by omega) _).setNew (by omega) _).setNew (by omega) _
      have EM : Ext (fun k => w.heap.size ≤ k ∧ k < w.heap.size + 3) w2 (((w2.setCell ⟨w.heap.size + 1 + 1, 0, none⟩ (.slice D0 m0 d0)).setCell ⟨w.heap.size + 1 + 1, 1, none⟩ (.slice D1 m1 d1)).setCell ⟨w.heap.size + 1 + 1, 2, none⟩ (.slice D2 m2 d2)) :=
        (((Ext.refl _ w2).setCell (fun _ => by simp only []; omega) _).setCell (fun _ => by simp only []; omega) _).setCell (fun _ => by simp only []; omega) _
      refine ⟨_, _, _, _, _, _, _, _, _, rfl, ?_, EG⟩
      rw [HD.out]
      have hmv : ∀ k, ((ok k ∧ k < w.heap.size) ∨ w.heap.size + 3 ≤ k) → k < w2.heap.size → ¬ (w.heap.size ≤ k ∧ k < w.heap.size + 3) := fun k h1 _ h2 => by omega
      have hok : ∀ k, ((ok k ∧ k < w.heap.size) ∨ w.heap.size + 3 ≤ k) → ok k := fun k h => h.elim (fun h => h.1) (fun h => HF.out k (by omega))
      exact ⟨(hp.out.1.ext EM hmv).mono hok, (hp.out.2.1.ext EM hmv).mono hok, (hp.out.2.2.ext EM hmv).mono hok⟩
end Go.Proofs.Ytpmncppfopbaaaa
