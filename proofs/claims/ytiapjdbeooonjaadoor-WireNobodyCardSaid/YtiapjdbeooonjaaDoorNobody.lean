/- WireNobody: readers that no call made; the walk of the law. -/
import Derived.Test.YtiapjdbeooonjaaDoorC0
import Derived.Test.YtiapjdbeooonjaaDoorE2
namespace Go.Proofs.YtiapjdbeooonjaaDoor
open Go.RowKit Go.TM

/-- nil, or one whose mark is not set. -/
def RDead (w : World) (p : Option Addr) : Prop := p = none ∨ ∃ g, p = some ⟨g, 0, none⟩ ∧ w.cell? ⟨g, 3, none⟩ = some (.bool false)
theorem RDead.ext {w w' : World} {p : Option Addr} (h : RDead w p) (he : Ext Non w w') : RDead w' p := by
  rcases h with h | ⟨g, h, hc⟩
  · exact .inl h
  · exact .inr ⟨g, h, he.cell hc (fun e => e)⟩
section
variable {w : World} {p : Option Addr}
theorem rdead (h : RDead w p) : Calls Tryd.prog 52 #[.pointer p] w fun e w' => e = .returned (.bool true) ∧ w = w' := by
  rcases h with rfl | ⟨g, rfl, hc⟩
  · exact rdead_nil w
  · exact rdead_at g w false hc
theorem Num_dead (h : RDead w p) : Calls Tryd.prog 22 #[.pointer p] w fun e w' => e = .returned (.int .i64 0) ∧ w = w' := by
  have HD := Lib.hid h
  clear h
  go_enter Tryd.func22, Tryd.ntmps22
  go_wp2_with (go_at_call 52; refine (rdead HD.out).mono ?_; rintro e w1 ⟨rfl, rfl⟩)
  go_ret
  exact ⟨rfl, rfl⟩
theorem Within_dead (h : RDead w p) (a b : Int) : Calls Tryd.prog 44 #[.pointer p, .int .i64 a, .int .i64 b] w fun e w' => e = .returned (.int .i64 0) ∧ w = w' := by
  have HD := Lib.hid h
  clear h
  go_enter Tryd.func44, Tryd.ntmps44
  go_wp2_with (go_at_call 52; refine (rdead HD.out).mono ?_; rintro e w1 ⟨rfl, rfl⟩)
  go_ret
  exact ⟨rfl, rfl⟩
theorem Signed_dead (h : RDead w p) : Calls Tryd.prog 42 #[.pointer p] w fun e w' => e = .returned (.int .i64 0) ∧ w = w' := by
  have HD := Lib.hid h
  clear h
  go_enter Tryd.func42, Tryd.ntmps42
  go_wp2_with (go_at_call 52; refine (rdead HD.out).mono ?_; rintro e w1 ⟨rfl, rfl⟩)
  go_ret
  exact ⟨rfl, rfl⟩
theorem Text_dead (h : RDead w p) (a : Int) : Calls Tryd.prog 40 #[.pointer p, .int .i64 a] w fun e w' => e = .returned (.string ⟨#[]⟩) ∧ w = w' := by
  have HD := Lib.hid h
  clear h
  go_enter Tryd.func40, Tryd.ntmps40
  go_wp2_with (go_at_call 52; refine (rdead HD.out).mono ?_; rintro e w1 ⟨rfl, rfl⟩)
  go_ret
  exact ⟨rfl, rfl⟩
theorem Flag_dead (h : RDead w p) : Calls Tryd.prog 41 #[.pointer p] w fun e w' => e = .returned (.bool false) ∧ w = w' := by
  have HD := Lib.hid h
  clear h
  go_enter Tryd.func41, Tryd.ntmps41
  go_wp2_with (go_at_call 52; refine (rdead HD.out).mono ?_; rintro e w1 ⟨rfl, rfl⟩)
  go_ret
  exact ⟨rfl, rfl⟩
theorem Left_dead (h : RDead w p) : Calls Tryd.prog 25 #[.pointer p] w fun e w' => e = .returned (.int .i64 0) ∧ w = w' := by
  have HD := Lib.hid h
  clear h
  go_enter Tryd.func25, Tryd.ntmps25
  go_wp2_with (go_at_call 52; refine (rdead HD.out).mono ?_; rintro e w1 ⟨rfl, rfl⟩)
  go_ret
  exact ⟨rfl, rfl⟩
theorem Err_dead (h : RDead w p) : Calls Tryd.prog 23 #[.pointer p] w fun e w' => e = .returned (.int .i64 6) ∧ w = w' := by
  have HD := Lib.hid h
  clear h
  go_enter Tryd.func23, Tryd.ntmps23
  go_wp2_with (go_at_call 52; refine (rdead HD.out).mono ?_; rintro e w1 ⟨rfl, rfl⟩)
  go_ret
  exact ⟨rfl, rfl⟩
theorem End_dead (h : RDead w p) : Calls Tryd.prog 43 #[.pointer p] w fun e w' => e = .returned (.int .i64 6) ∧ w = w' := by
  have HD := Lib.hid h
  clear h
  go_enter Tryd.func43, Tryd.ntmps43
  go_wp2_with fail
  refine (Err_dead HD.out).mono ?_
  rintro e w1 ⟨rfl, rfl⟩
  go_wp2_with fail
  refine (Err_dead HD.out).mono ?_
  rintro e w1 ⟨rfl, rfl⟩
  go_wp2_with fail
  go_ret
  exact ⟨rfl, rfl⟩
end

set_option maxHeartbeats 2000000 in
theorem nobody_calls {w : World} (a b c : Int) (HL : Laid w) :
    Calls Tryd.prog 12 #[.agg #[.int .i64 a, .int .i64 b, .int .i64 c]] w fun e w' => e = .returned (.bool true) ∧ Ext Non w w' := by
  have HT := Lib.hid HL
  clear HL
  go_enter Tryd.func12, Tryd.ntmps12
  go_wp2_with fail
  have hb0 : (((w.alloc (.cells #[.int .i64 a, .int .i64 b, .int .i64 c] 59)).alloc (.cells #[.slice none 0 0, .int .i64 0, .int .i64 0, .bool false] 61)).alloc (.cells #[.pointer none, .pointer (some ⟨w.heap.size + 1, 0, none⟩)] 36)).heap[w.heap.size]? = some (.cells #[.int .i64 a, .int .i64 b, .int .i64 c] 59) := blk_alloc (blk_alloc (heap_alloc_new w _) _) _
  have hb1 : (((w.alloc (.cells #[.int .i64 a, .int .i64 b, .int .i64 c] 59)).alloc (.cells #[.slice none 0 0, .int .i64 0, .int .i64 0, .bool false] 61)).alloc (.cells #[.pointer none, .pointer (some ⟨w.heap.size + 1, 0, none⟩)] 36)).heap[w.heap.size + 1]? = some (.cells #[.slice none 0 0, .int .i64 0, .int .i64 0, .bool false] 61) := by
    refine blk_alloc ?_ _
    have := heap_alloc_new (w.alloc (.cells #[.int .i64 a, .int .i64 b, .int .i64 c] 59)) (.cells #[.slice none 0 0, .int .i64 0, .int .i64 0, .bool false] 61)
    simpa using this
  have hb2 : (((w.alloc (.cells #[.int .i64 a, .int .i64 b, .int .i64 c] 59)).alloc (.cells #[.slice none 0 0, .int .i64 0, .int .i64 0, .bool false] 61)).alloc (.cells #[.pointer none, .pointer (some ⟨w.heap.size + 1, 0, none⟩)] 36)).heap[w.heap.size + 1 + 1]? = some (.cells #[.pointer none, .pointer (some ⟨w.heap.size + 1, 0, none⟩)] 36) := by
    have := heap_alloc_new ((w.alloc (.cells #[.int .i64 a, .int .i64 b, .int .i64 c] 59)).alloc (.cells #[.slice none 0 0, .int .i64 0, .int .i64 0, .bool false] 61)) (.cells #[.pointer none, .pointer (some ⟨w.heap.size + 1, 0, none⟩)] 36)
    simpa using this
  have hE0 : Ext Non w (((w.alloc (.cells #[.int .i64 a, .int .i64 b, .int .i64 c] 59)).alloc (.cells #[.slice none 0 0, .int .i64 0, .int .i64 0, .bool false] 61)).alloc (.cells #[.pointer none, .pointer (some ⟨w.heap.size + 1, 0, none⟩)] 36)) := (((Ext.refl Non w).alloc _).alloc _).alloc _
  generalize (((w.alloc (.cells #[.int .i64 a, .int .i64 b, .int .i64 c] 59)).alloc (.cells #[.slice none 0 0, .int .i64 0, .int .i64 0, .bool false] 61)).alloc (.cells #[.pointer none, .pointer (some ⟨w.heap.size + 1, 0, none⟩)] 36)) = w2 at hb0 hb1 hb2 hE0 ⊢
  generalize w.heap.size + 1 + 1 = b2 at hb2 ⊢
  generalize w.heap.size + 1 = b1 at hb1 hb2 ⊢
  generalize w.heap.size = b0 at hb0 ⊢
  have B0 := Lib.hid hb0
  have B1 := Lib.hid hb1
  have B2 := Lib.hid hb2
  have E0 := Lib.hid hE0
  clear hb0 hb1 hb2 hE0
  go_loopw [9] (fun i wr => ∃ j : Nat, i = .int .i64 j ∧ j ≤ 2 ∧ wr = w2) (fun i _ => 2 - (intOf i).toNat)
  case atStart => exact ⟨0, rfl, by omega, rfl⟩
  case round =>
    obtain ⟨j, rfl, hj, rfl⟩ := hrel
    by_cases hlt : j < 2
    · have q0 : (j : Int) < 2 := by omega
      have q1 : (0 : Int) ≤ (j : Int) := by omega
      obtain ⟨p, hp, hD⟩ : ∃ p, wr.cell? ⟨b2, j, none⟩ = some (.pointer p) ∧ RDead wr p := by
        have hc := blk_cell B1.out 3
        simp at hc
        have h01 : j = 0 ∨ j = 1 := by omega
        rcases h01 with rfl | rfl
        · exact ⟨none, by simpa using blk_cell B2.out 0, .inl rfl⟩
        · exact ⟨some ⟨b1, 0, none⟩, by simpa using blk_cell B2.out 1, .inr ⟨b1, rfl, hc⟩⟩
      have HD := Lib.hid hD
      have e1 := blk_cell B0.out 1
      have e2 := blk_cell B0.out 2
      have hl0 := blk_lt B0.out
      simp at e1 e2
      clear hD
      go_wp2_with fail
      refine (Num_dead HD.out).mono ?_
      rintro e w3 ⟨rfl, rfl⟩
      go_wp2_with fail
      refine (Within_dead HD.out _ _).mono ?_
      rintro e w3 ⟨rfl, rfl⟩
      go_wp2_with fail
      refine (Signed_dead HD.out).mono ?_
      rintro e w3 ⟨rfl, rfl⟩
      go_wp2_with fail
      refine (Text_dead HD.out _).mono ?_
      rintro e w3 ⟨rfl, rfl⟩
      go_wp2_with fail
      refine (Flag_dead HD.out).mono ?_
      rintro e w3 ⟨rfl, rfl⟩
      go_wp2_with fail
      refine (Left_dead HD.out).mono ?_
      rintro e w3 ⟨rfl, rfl⟩
      go_wp2_with fail
      refine (Err_dead HD.out).mono ?_
      rintro e w3 ⟨rfl, rfl⟩
      go_wp2_with fail
      refine (End_dead HD.out).mono ?_
      rintro e w3 ⟨rfl, rfl⟩
      go_wp2_with fail
      go_roundw
      case rel => exact ⟨j + 1, by simp, by omega, trivial⟩
      case measure => simp [intOf]; omega
    · obtain rfl : j = 2 := by omega
      go_wp2_with fail
      refine (awake_calls (HT.out.ext E0.out)).mono ?_
      rintro e w3 ⟨rfl, he⟩
      have E3 : Hid (Ext Non w w3) := E0.out.trans0 he
      clear he
      go_wp2_with fail
      go_ret
      exact ⟨rfl, E3.out⟩
end Go.Proofs.YtiapjdbeooonjaaDoor
