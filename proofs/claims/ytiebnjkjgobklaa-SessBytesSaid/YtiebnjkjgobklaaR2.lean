/- Sessions, the document's table: Ask. -/
import Derived.Test.YtiebnjkjgobklaaR1
namespace Go.Proofs.Ytiebnjkjgobklaa
open Go.RowKit Go.TM

theorem results17 (tmps : Array Value) (w : World) (g : Nat) (x y : Int) (h6 : tmps[6]? = some (.pointer (some ⟨g, 0, none⟩))) (hx : w.cell? ⟨g, 0, none⟩ = some (.int .i64 x)) (hy : w.cell? ⟨g, 1, none⟩ = some (.int .i64 y)) :
    (results Try.f17 tmps).run Try.prog w = .ok (.tuple #[.agg #[.int .i64 x, .int .i64 y], tmps.getD 7 undef, tmps.getD 8 undef]) w := by
  simp [results, Try.results17, h6, asAddr, go_sem, hx, hy]

set_option maxHeartbeats 400000 in
theorem AskR_calls {w : World} {ok : Nat → Prop} {g : Nat} {t : Tab} (hT : RefAt w ok g t) (HG : Good t.seats t.last) (n seq : Int) (hq0 : -9223372036854775808 ≤ seq) (hq : seq ≤ 9223372036854775807) :
    Calls Try.prog 17 #[.pointer (some ⟨g, 0, none⟩), .int .i64 n, .int .i64 seq] w (AskPost (ask t.seats n seq) w) := by
  have HT := Lib.hid (hT.ext ((Ext.refl Non w).alloc (.cells #[.int .i64 0, .int .i64 0] 25)))
  have h8 := HG.few
  clear hT
  go_enter Try.func17, Try.ntmps17
  go_wp2_with fail
  refine (place_calls HT.out h8 n).mono ?_
  rintro e w1 ⟨i, rfl, he, hf⟩
  have E : Ext Non w w1 := ((Ext.refl Non w).alloc _).trans0 he
  have b0 := he.obj (heap_alloc_new w _) (fun e => e)
  obtain ⟨v, hb, hr⟩ := HT.out.ext he
  obtain ⟨A, c, rfl, hc, hm⟩ := hr.slice
  have c1 := blk_cell hb 1
  simp at c1
  have f0 := blk_cell b0 0
  have f1 := blk_cell b0 1
  have z0 := frozen_of_row w1 w.heap.size 0 _ _ b0
  have z1 := frozen_of_row w1 w.heap.size 1 _ _ b0
  simp at f0 f1
  have hz : w.heap.size < w1.heap.size := (Array.getElem?_eq_some_iff.1 b0).1
  have HE := Lib.hid E
  have HR := Lib.hid hr
  clear E he b0 hb hr
  have fin : ∀ (r : AskR) (tmps : Array Value) (W : World) (x y : Int) (f : Bool) (er : Int), tmps[6]? = some (.pointer (some ⟨w.heap.size, 0, none⟩)) → tmps.getD 7 undef = .bool f → tmps.getD 8 undef = .int .i64 er →
      W.cell? ⟨w.heap.size, 0, none⟩ = some (.int .i64 x) → W.cell? ⟨w.heap.size, 1, none⟩ = some (.int .i64 y) → Ext Non w W → r = ⟨x, y, f, er⟩ → bodyPost Try.prog Try.f17 (AskPost r w) .ret ⟨tmps, []⟩ W := by
    intro r tmps W x y f er h6 h7 h8 hx hy hE hA
    refine bodyPost_ret (v := r.val) ?_ rfl ⟨rfl, hE⟩
    rw [results17 tmps W w.heap.size x y h6 hx hy, h7, h8, hA]
    rfl
  have FIN := Lib.hid fin
  clear fin
  rcases hf with ⟨k, s, rfl, hk, rfl⟩ | ⟨rfl, hno⟩
  case inr =>
    have HA := Lib.hid (ask_no (seq := seq) hno)
    clear hno
    go_wp2_with fail
    refine FIN.out _ _ _ 0 0 _ _ rfl rfl rfl (by go_simp) (by go_simp) ?_ HA.out
    · repeat (first | exact HE.out | refine Ext.alloc ?_ _ | refine Ext.setNew ?_ (Nat.le_refl _) _)
  have HY := Lib.hid (ask_yes HG hk seq)
  have hs0 := (HG.get hk).2.2.1
  obtain ⟨gs, off, rfl, hgs, d0, d1, d2, d3⟩ := seat_nat HR.out hk
  have hlt := (List.getElem?_eq_some_iff.1 hk).1
  have q0 : (k : Int) < (t.seats.length : Int) := by omega
  have q1 : (0 : Int) ≤ (k : Int) := by omega
  have HK := Lib.hid hk
  clear hk
  by_cases h1 : seq < s.seq ∨ seq < 1
  · have hA : askS s seq = ⟨0, 0, false, 91⟩ := if_pos h1
    have HA := Lib.hid (HY.out.trans hA)
    clear hA
    go_wp2_with fail
    all_goals
      refine FIN.out _ _ _ 0 0 _ _ rfl rfl rfl (by go_simp) (by go_simp) ?_ HA.out
      · repeat (first | exact HE.out | refine Ext.alloc ?_ _ | refine Ext.setNew ?_ (Nat.le_refl _) _)
  · have h2 : ¬ seq < s.seq := fun h => h1 (.inl h)
    have h3 : ¬ seq < 1 := fun h => h1 (.inr h)
    by_cases h4 : seq = s.seq
    · have hA : askS s seq = ⟨s.err, s.n, false, 0⟩ := by unfold askS; rw [if_neg h1, if_pos h4]
      have HA := Lib.hid (HY.out.trans hA)
      have h5 : (seq == s.seq) = true := by simpa using h4
      clear hA h4 h1
      go_wp2_with fail
      refine FIN.out _ _ _ s.err s.n _ _ rfl rfl rfl (by go_simp) (by go_simp) ?_ HA.out
      · repeat (first | exact HE.out | refine Ext.alloc ?_ _ | refine Ext.setNew ?_ (Nat.le_refl _) _)
    · have h5 : (seq == s.seq) = false := by simpa using h4
      have h6 : s.seq + 1 ≤ 9223372036854775807 := by omega
      by_cases h7 : seq = s.seq + 1
      · have hA : askS s seq = ⟨0, 0, true, 0⟩ := by unfold askS; rw [if_neg h1, if_neg h4, if_pos h7]
        have HA := Lib.hid (HY.out.trans hA)
        have h8 : ¬ 1 < seq - s.seq := by omega
        clear hA h1 h4
        go_wp2_with fail
        refine FIN.out _ _ _ 0 0 _ _ rfl rfl rfl (by go_simp) (by go_simp) ?_ HA.out
        · repeat (first | exact HE.out | refine Ext.alloc ?_ _ | refine Ext.setNew ?_ (Nat.le_refl _) _)
      · have hA : askS s seq = ⟨0, 0, false, 92⟩ := by unfold askS; rw [if_neg h1, if_neg h4, if_neg h7]
        have HA := Lib.hid (HY.out.trans hA)
        have h8 : 1 < seq - s.seq := by omega
        clear hA h7 h1 h4
        go_wp2_with fail
        refine FIN.out _ _ _ 0 0 _ _ rfl rfl rfl (by go_simp) (by go_simp) ?_ HA.out
        · repeat (first | exact HE.out | refine Ext.alloc ?_ _ | refine Ext.setNew ?_ (Nat.le_refl _) _)
end Go.Proofs.Ytiebnjkjgobklaa
