/- The document's holds and Holds. -/
import Derived.Test.YtdjfijdnhfmeeaaNA
import Derived.Test.YtdjfijdnhfmeeaaL
namespace Go.Proofs.Ytdjfijdnhfmeeaa
open Go.RowKit Go.TM
set_option maxRecDepth 100000 in
set_option maxHeartbeats 8000000 in
theorem rh0 {w : World} {key val : ByteArray} {A : Option Addr} {len cap : Nat} {e : Ev} : Calls Try.prog 95 #[.agg #[.int .i64 0, .string key, .string val, .slice A len cap], evV e] w (BoolPost (true) w) := by
  show Calls Try.prog 95 #[_, .agg #[.int .i64 e.pos, .string e.key, .bool e.had, .string e.old, .bool e.has, .string e.now]] w _
  go_enter Try.func95, Try.ntmps95
  go_wp2_with fail
  go_ret
  exact ⟨rfl, ((Ext.refl _ _).alloc _).alloc _⟩
set_option maxRecDepth 100000 in
set_option maxHeartbeats 8000000 in
theorem rh3 {w : World} {key val : ByteArray} {A : Option Addr} {len cap : Nat} {e : Ev} : Calls Try.prog 95 #[.agg #[.int .i64 3, .string key, .string val, .slice A len cap], evV e] w (BoolPost (e.has) w) := by
  show Calls Try.prog 95 #[_, .agg #[.int .i64 e.pos, .string e.key, .bool e.had, .string e.old, .bool e.has, .string e.now]] w _
  go_enter Try.func95, Try.ntmps95
  go_wp2_with fail
  go_ret
  exact ⟨rfl, ((Ext.refl _ _).alloc _).alloc _⟩
set_option maxRecDepth 100000 in
set_option maxHeartbeats 8000000 in
theorem rh1 {w : World} {key val : ByteArray} {A : Option Addr} {len cap : Nat} {e : Ev} (hk : e.key.size ≤ maxLen) (hv : val.size ≤ maxLen) : Calls Try.prog 95 #[.agg #[.int .i64 1, .string key, .string val, .slice A len cap], evV e] w (BoolPost (begins e.key val) w) := by
  show Calls Try.prog 95 #[_, .agg #[.int .i64 e.pos, .string e.key, .bool e.had, .string e.old, .bool e.has, .string e.now]] w _
  have hk1 : (e.key.size : Int) ≤ 9223372036854775807 := by simp only [maxLen] at hk; omega
  have hv1 : (val.size : Int) ≤ 9223372036854775807 := by simp only [maxLen] at hv; omega
  by_cases h : (val.size : Int) ≤ (e.key.size : Int)
  · have hb : Hid (begins e.key val = ((e.key.extract 0 val.size).toList == val.toList)) := by
      show begins e.key val = _
      unfold begins
      rw [decide_eq_true (by omega), Bool.true_and]
    go_enter Try.func95, Try.ntmps95
    go_wp2_with fail
    have E0 : Hid (Ext Non w ((w.alloc (.cells #[.int .i64 1, .string key, .string val, .slice A len cap] 24)).alloc (.cells #[.int .i64 e.pos, .string e.key, .bool e.had, .string e.old, .bool e.has, .string e.now] 43))) := ((Ext.refl _ _).alloc _).alloc _
    have B0 : Hid (((w.alloc (.cells #[.int .i64 1, .string key, .string val, .slice A len cap] 24)).alloc (.cells #[.int .i64 e.pos, .string e.key, .bool e.had, .string e.old, .bool e.has, .string e.now] 43)).heap[w.heap.size]? = some (.cells #[.int .i64 1, .string key, .string val, .slice A len cap] 24)) := blk_alloc (blk_new _ _) _
    have X0 : Hid (((w.alloc (.cells #[.int .i64 1, .string key, .string val, .slice A len cap] 24)).alloc (.cells #[.int .i64 e.pos, .string e.key, .bool e.had, .string e.old, .bool e.has, .string e.now] 43)).heap[w.heap.size + 1]? = some (.cells #[.int .i64 e.pos, .string e.key, .bool e.had, .string e.old, .bool e.has, .string e.now] 43)) := by
      have hsz1 : (w.alloc (.cells #[.int .i64 1, .string key, .string val, .slice A len cap] 24)).heap.size = w.heap.size + 1 := by simp
      have h := blk_new (w.alloc (.cells #[.int .i64 1, .string key, .string val, .slice A len cap] 24)) (.cells #[.int .i64 e.pos, .string e.key, .bool e.had, .string e.old, .bool e.has, .string e.now] 43)
      rw [hsz1] at h
      exact h
    obtain ⟨w0, hw0⟩ : ∃ w0, (w.alloc (.cells #[.int .i64 1, .string key, .string val, .slice A len cap] 24)).alloc (.cells #[.int .i64 e.pos, .string e.key, .bool e.had, .string e.old, .bool e.has, .string e.now] 43) = w0 := ⟨_, rfl⟩
    rw [hw0] at E0 B0 X0 ⊢
    clear hw0
    refine Last.start_ (S := fun W => W.cell? ⟨w.heap.size + 1, 1, none⟩ = some (.string e.key) ∧ W.cell? ⟨w.heap.size, 2, none⟩ = some (.string val)) (ds := []) #[false, false, false, false, false, false, false, false, false, false, false, false, false, false, false, false, false, false, false] (by kernel_rfl) (by rfl) (by rfl) ⟨blk_cell X0.out 1, blk_cell B0.out 2⟩ (fun hS => ?_)
    refine Last.take_ (i := 0) (N := some 16) (v := .pointer (some ⟨w.heap.size + 1, 1, none⟩)) #[true, false, false, false, false, false, false, false, false, false, false, false, false, false, false, false, false, false, false] (by simp only [List.getElem?_toArray, List.getElem?_cons_zero]; rfl) rfl (by kernel_rfl) (by exact fun _ _ _ h => h) (Or.inl ⟨by rfl, fun W hW => by first | rfl | (try dsimp only at hW); go_simp⟩) hS rfl ?_
    simp only [Act.put, List.setIfInBounds_toArray, List.set_cons_zero, List.set_cons_succ]
    refine Last.take_ (i := 1) (N := some 17) (v := .string e.key) #[true, true, false, false, false, false, false, false, false, false, false, false, false, false, false, false, false, false, false] (by simp only [List.getElem?_toArray, List.getElem?_cons_zero, List.getElem?_cons_succ]; rfl) rfl (by kernel_rfl) (by exact fun _ _ _ h => h) (Or.inl ⟨by rfl, fun W hW => by first | rfl | (try dsimp only at hW); go_simp⟩) hS rfl ?_
    simp only [Act.put, List.setIfInBounds_toArray, List.set_cons_zero, List.set_cons_succ]
    refine Last.take_ (i := 2) (N := some 18) (v := .int .i64 (e.key.size : Int)) #[true, true, true, false, false, false, false, false, false, false, false, false, false, false, false, false, false, false, false] (by simp only [List.getElem?_toArray, List.getElem?_cons_zero, List.getElem?_cons_succ]; rfl) rfl (by kernel_rfl) (by exact fun _ _ _ h => h) (Or.inl ⟨by rfl, fun W hW => by first | rfl | (try dsimp only at hW); go_simp⟩) hS rfl ?_
    simp only [Act.put, List.setIfInBounds_toArray, List.set_cons_zero, List.set_cons_succ]
    refine Last.take_ (i := 3) (N := some 19) (v := .pointer (some ⟨w.heap.size, 2, none⟩)) #[true, true, true, true, false, false, false, false, false, false, false, false, false, false, false, false, false, false, false] (by simp only [List.getElem?_toArray, List.getElem?_cons_zero, List.getElem?_cons_succ]; rfl) rfl (by kernel_rfl) (by exact fun _ _ _ h => h) (Or.inl ⟨by rfl, fun W hW => by first | rfl | (try dsimp only at hW); go_simp⟩) hS rfl ?_
    simp only [Act.put, List.setIfInBounds_toArray, List.set_cons_zero, List.set_cons_succ]
    refine Last.take_ (i := 4) (N := some 20) (v := .string val) #[true, true, true, true, true, false, false, false, false, false, false, false, false, false, false, false, false, false, false] (by simp only [List.getElem?_toArray, List.getElem?_cons_zero, List.getElem?_cons_succ]; rfl) rfl (by kernel_rfl) (by exact fun _ _ _ h => h) (Or.inl ⟨by rfl, fun W hW => by first | rfl | (try dsimp only at hW); go_simp⟩) hS rfl ?_
    simp only [Act.put, List.setIfInBounds_toArray, List.set_cons_zero, List.set_cons_succ]
    refine Last.take_ (i := 5) (N := some 21) (v := .int .i64 (val.size : Int)) #[true, true, true, true, true, true, false, false, false, false, false, false, false, false, false, false, false, false, false] (by simp only [List.getElem?_toArray, List.getElem?_cons_zero, List.getElem?_cons_succ]; rfl) rfl (by kernel_rfl) (by exact fun _ _ _ h => h) (Or.inl ⟨by rfl, fun W hW => by first | rfl | (try dsimp only at hW); go_simp⟩) hS rfl ?_
    simp only [Act.put, List.setIfInBounds_toArray, List.set_cons_zero, List.set_cons_succ]
    refine Last.take_ (i := 6) (N := some 22) (v := .bool true) #[true, true, true, true, true, true, true, false, false, false, false, false, false, false, false, false, false, false, false] (by simp only [List.getElem?_toArray, List.getElem?_cons_zero, List.getElem?_cons_succ]; rfl) rfl (by kernel_rfl) (by exact fun _ _ _ h => h) (Or.inl ⟨by rfl, fun W hW => by first | rfl | (try dsimp only at hW); go_simp⟩) hS rfl ?_
    simp only [Act.put, List.setIfInBounds_toArray, List.set_cons_zero, List.set_cons_succ]
    refine Last.take_ (i := 7) (N := some 23) (v := .bool true) #[true, true, true, true, true, true, true, true, false, false, false, false, false, false, false, false, false, false, false] (by simp only [List.getElem?_toArray, List.getElem?_cons_zero, List.getElem?_cons_succ]; rfl) rfl (by kernel_rfl) (by exact fun _ _ _ h => h) (Or.inl ⟨by rfl, fun W hW => by first | rfl | (try dsimp only at hW); go_simp⟩) hS rfl ?_
    simp only [Act.put, List.setIfInBounds_toArray, List.set_cons_zero, List.set_cons_succ]
    refine Last.take_ (i := 8) (N := some 24) (v := .pointer (some ⟨w.heap.size + 1, 1, none⟩)) #[true, true, true, true, true, true, true, true, true, false, false, false, false, false, false, false, false, false, false] (by simp only [List.getElem?_toArray, List.getElem?_cons_zero, List.getElem?_cons_succ]; rfl) rfl (by kernel_rfl) (by exact fun _ _ _ h => h) (Or.inl ⟨by rfl, fun W hW => by first | rfl | (try dsimp only at hW); go_simp⟩) hS rfl ?_
    simp only [Act.put, List.setIfInBounds_toArray, List.set_cons_zero, List.set_cons_succ]
    refine Last.take_ (i := 9) (N := some 25) (v := .string e.key) #[true, true, true, true, true, true, true, true, true, true, false, false, false, false, false, false, false, false, false] (by simp only [List.getElem?_toArray, List.getElem?_cons_zero, List.getElem?_cons_succ]; rfl) rfl (by kernel_rfl) (by exact fun _ _ _ h => h) (Or.inl ⟨by rfl, fun W hW => by first | rfl | (try dsimp only at hW); go_simp⟩) hS rfl ?_
    simp only [Act.put, List.setIfInBounds_toArray, List.set_cons_zero, List.set_cons_succ]
    refine Last.take_ (i := 10) (N := some 26) (v := .pointer (some ⟨w.heap.size, 2, none⟩)) #[true, true, true, true, true, true, true, true, true, true, true, false, false, false, false, false, false, false, false] (by simp only [List.getElem?_toArray, List.getElem?_cons_zero, List.getElem?_cons_succ]; rfl) rfl (by kernel_rfl) (by exact fun _ _ _ h => h) (Or.inl ⟨by rfl, fun W hW => by first | rfl | (try dsimp only at hW); go_simp⟩) hS rfl ?_
    simp only [Act.put, List.setIfInBounds_toArray, List.set_cons_zero, List.set_cons_succ]
    refine Last.take_ (i := 11) (N := some 27) (v := .string val) #[true, true, true, true, true, true, true, true, true, true, true, true, false, false, false, false, false, false, false] (by simp only [List.getElem?_toArray, List.getElem?_cons_zero, List.getElem?_cons_succ]; rfl) rfl (by kernel_rfl) (by exact fun _ _ _ h => h) (Or.inl ⟨by rfl, fun W hW => by first | rfl | (try dsimp only at hW); go_simp⟩) hS rfl ?_
    simp only [Act.put, List.setIfInBounds_toArray, List.set_cons_zero, List.set_cons_succ]
    refine Last.take_ (i := 12) (N := some 28) (v := .int .i64 (val.size : Int)) #[true, true, true, true, true, true, true, true, true, true, true, true, true, false, false, false, false, false, false] (by simp only [List.getElem?_toArray, List.getElem?_cons_zero, List.getElem?_cons_succ]; rfl) rfl (by kernel_rfl) (by exact fun _ _ _ h => h) (Or.inl ⟨by rfl, fun W hW => by first | rfl | (try dsimp only at hW); go_simp⟩) hS rfl ?_
    simp only [Act.put, List.setIfInBounds_toArray, List.set_cons_zero, List.set_cons_succ]
    refine Last.take_ (i := 13) (N := some 29) (v := .string (e.key.extract 0 val.size)) #[true, true, true, true, true, true, true, true, true, true, true, true, true, true, false, false, false, false, false] (by simp only [List.getElem?_toArray, List.getElem?_cons_zero, List.getElem?_cons_succ]; rfl) rfl (by kernel_rfl) (by exact fun _ _ _ h => h) (Or.inl ⟨by rfl, fun W hW => by first | rfl | (try dsimp only at hW); go_simp⟩) hS rfl ?_
    simp only [Act.put, List.setIfInBounds_toArray, List.set_cons_zero, List.set_cons_succ]
    refine Last.take_ (i := 14) (N := some 30) (v := .pointer (some ⟨w.heap.size, 2, none⟩)) #[true, true, true, true, true, true, true, true, true, true, true, true, true, true, true, false, false, false, false] (by simp only [List.getElem?_toArray, List.getElem?_cons_zero, List.getElem?_cons_succ]; rfl) rfl (by kernel_rfl) (by exact fun _ _ _ h => h) (Or.inl ⟨by rfl, fun W hW => by first | rfl | (try dsimp only at hW); go_simp⟩) hS rfl ?_
    simp only [Act.put, List.setIfInBounds_toArray, List.set_cons_zero, List.set_cons_succ]
    refine Last.take_ (i := 15) (N := some 31) (v := .string val) #[true, true, true, true, true, true, true, true, true, true, true, true, true, true, true, true, false, false, false] (by simp only [List.getElem?_toArray, List.getElem?_cons_zero, List.getElem?_cons_succ]; rfl) rfl (by kernel_rfl) (by exact fun _ _ _ h => h) (Or.inl ⟨by rfl, fun W hW => by first | rfl | (try dsimp only at hW); go_simp⟩) hS rfl ?_
    simp only [Act.put, List.setIfInBounds_toArray, List.set_cons_zero, List.set_cons_succ]
    refine Last.take_ (i := 16) (N := some 32) (v := .bool ((e.key.extract 0 val.size).toList == val.toList)) #[true, true, true, true, true, true, true, true, true, true, true, true, true, true, true, true, true, false, false] (by simp only [List.getElem?_toArray, List.getElem?_cons_zero, List.getElem?_cons_succ]; rfl) rfl (by kernel_rfl) (by exact fun _ _ _ h => h) (Or.inl ⟨by rfl, fun W hW => by first | rfl | (try dsimp only at hW); go_simp⟩) hS rfl ?_
    simp only [Act.put, List.setIfInBounds_toArray, List.set_cons_zero, List.set_cons_succ]
    refine Last.take_ (i := 17) (N := some 33) (v := .bool ((e.key.extract 0 val.size).toList == val.toList)) #[true, true, true, true, true, true, true, true, true, true, true, true, true, true, true, true, true, true, false] (by simp only [List.getElem?_toArray, List.getElem?_cons_zero, List.getElem?_cons_succ]; rfl) rfl (by kernel_rfl) (by exact fun _ _ _ h => h) (Or.inl ⟨by rfl, fun W hW => by first | rfl | (try dsimp only at hW); go_simp⟩) hS rfl ?_
    simp only [Act.put, List.setIfInBounds_toArray, List.set_cons_zero, List.set_cons_succ]
    refine Last.take_ (i := 18) (N := some 4) (v := .bool ((e.key.extract 0 val.size).toList == val.toList)) #[true, true, true, true, true, true, true, true, true, true, true, true, true, true, true, true, true, true, true] (by simp only [List.getElem?_toArray, List.getElem?_cons_zero, List.getElem?_cons_succ]; rfl) rfl (by kernel_rfl) (by exact fun _ _ _ h => h) (Or.inl ⟨by rfl, fun W hW => by first | rfl | (try dsimp only at hW); go_simp⟩) hS rfl ?_
    simp only [Act.put, List.setIfInBounds_toArray, List.set_cons_zero, List.set_cons_succ]
    refine Last.done_ (by kernel_rfl) ?_
    go_wp2_with fail
    go_ret
    exact ⟨by rw [hb.out]; rfl, E0.out.drew⟩
  · have hb : Hid (begins e.key val = false) := by
      show begins e.key val = _
      unfold begins
      rw [decide_eq_false (by omega), Bool.false_and]
    have HCMP := Lib.hid h
    go_enter Try.func95, Try.ntmps95
    go_wp2_with fail
    have E0 : Hid (Ext Non w ((w.alloc (.cells #[.int .i64 1, .string key, .string val, .slice A len cap] 24)).alloc (.cells #[.int .i64 e.pos, .string e.key, .bool e.had, .string e.old, .bool e.has, .string e.now] 43))) := ((Ext.refl _ _).alloc _).alloc _
    have B0 : Hid (((w.alloc (.cells #[.int .i64 1, .string key, .string val, .slice A len cap] 24)).alloc (.cells #[.int .i64 e.pos, .string e.key, .bool e.had, .string e.old, .bool e.has, .string e.now] 43)).heap[w.heap.size]? = some (.cells #[.int .i64 1, .string key, .string val, .slice A len cap] 24)) := blk_alloc (blk_new _ _) _
    have X0 : Hid (((w.alloc (.cells #[.int .i64 1, .string key, .string val, .slice A len cap] 24)).alloc (.cells #[.int .i64 e.pos, .string e.key, .bool e.had, .string e.old, .bool e.has, .string e.now] 43)).heap[w.heap.size + 1]? = some (.cells #[.int .i64 e.pos, .string e.key, .bool e.had, .string e.old, .bool e.has, .string e.now] 43)) := by
      have hsz1 : (w.alloc (.cells #[.int .i64 1, .string key, .string val, .slice A len cap] 24)).heap.size = w.heap.size + 1 := by simp
      have h := blk_new (w.alloc (.cells #[.int .i64 1, .string key, .string val, .slice A len cap] 24)) (.cells #[.int .i64 e.pos, .string e.key, .bool e.had, .string e.old, .bool e.has, .string e.now] 43)
      rw [hsz1] at h
      exact h
    obtain ⟨w0, hw0⟩ : ∃ w0, (w.alloc (.cells #[.int .i64 1, .string key, .string val, .slice A len cap] 24)).alloc (.cells #[.int .i64 e.pos, .string e.key, .bool e.had, .string e.old, .bool e.has, .string e.now] 43) = w0 := ⟨_, rfl⟩
    rw [hw0] at E0 B0 X0 ⊢
    clear hw0
    have hcmp : e.key.size < val.size := by have := HCMP.out; omega
    refine Last.start_ (S := fun W => W.cell? ⟨w.heap.size + 1, 1, none⟩ = some (.string e.key) ∧ W.cell? ⟨w.heap.size, 2, none⟩ = some (.string val)) (ds := []) #[false, false, false, false, false, false, false, false, false, false, false, false, false, false, false, false, false, false, false] (by kernel_rfl) (by rfl) (by rfl) ⟨blk_cell X0.out 1, blk_cell B0.out 2⟩ (fun hS => ?_)
    refine Last.take_ (i := 0) (N := some 16) (v := .pointer (some ⟨w.heap.size + 1, 1, none⟩)) #[true, false, false, false, false, false, false, false, false, false, false, false, false, false, false, false, false, false, false] (by simp only [List.getElem?_toArray, List.getElem?_cons_zero]; rfl) rfl (by kernel_rfl) (by exact fun _ _ _ h => h) (Or.inl ⟨by rfl, fun W hW => by first | rfl | (try dsimp only at hW); go_simp⟩) hS rfl ?_
    simp only [Act.put, List.setIfInBounds_toArray, List.set_cons_zero, List.set_cons_succ]
    refine Last.take_ (i := 1) (N := some 17) (v := .string e.key) #[true, true, false, false, false, false, false, false, false, false, false, false, false, false, false, false, false, false, false] (by simp only [List.getElem?_toArray, List.getElem?_cons_zero, List.getElem?_cons_succ]; rfl) rfl (by kernel_rfl) (by exact fun _ _ _ h => h) (Or.inl ⟨by rfl, fun W hW => by first | rfl | (try dsimp only at hW); go_simp⟩) hS rfl ?_
    simp only [Act.put, List.setIfInBounds_toArray, List.set_cons_zero, List.set_cons_succ]
    refine Last.take_ (i := 2) (N := some 18) (v := .int .i64 (e.key.size : Int)) #[true, true, true, false, false, false, false, false, false, false, false, false, false, false, false, false, false, false, false] (by simp only [List.getElem?_toArray, List.getElem?_cons_zero, List.getElem?_cons_succ]; rfl) rfl (by kernel_rfl) (by exact fun _ _ _ h => h) (Or.inl ⟨by rfl, fun W hW => by first | rfl | (try dsimp only at hW); go_simp⟩) hS rfl ?_
    simp only [Act.put, List.setIfInBounds_toArray, List.set_cons_zero, List.set_cons_succ]
    refine Last.take_ (i := 3) (N := some 19) (v := .pointer (some ⟨w.heap.size, 2, none⟩)) #[true, true, true, true, false, false, false, false, false, false, false, false, false, false, false, false, false, false, false] (by simp only [List.getElem?_toArray, List.getElem?_cons_zero, List.getElem?_cons_succ]; rfl) rfl (by kernel_rfl) (by exact fun _ _ _ h => h) (Or.inl ⟨by rfl, fun W hW => by first | rfl | (try dsimp only at hW); go_simp⟩) hS rfl ?_
    simp only [Act.put, List.setIfInBounds_toArray, List.set_cons_zero, List.set_cons_succ]
    refine Last.take_ (i := 4) (N := some 20) (v := .string val) #[true, true, true, true, true, false, false, false, false, false, false, false, false, false, false, false, false, false, false] (by simp only [List.getElem?_toArray, List.getElem?_cons_zero, List.getElem?_cons_succ]; rfl) rfl (by kernel_rfl) (by exact fun _ _ _ h => h) (Or.inl ⟨by rfl, fun W hW => by first | rfl | (try dsimp only at hW); go_simp⟩) hS rfl ?_
    simp only [Act.put, List.setIfInBounds_toArray, List.set_cons_zero, List.set_cons_succ]
    refine Last.take_ (i := 5) (N := some 21) (v := .int .i64 (val.size : Int)) #[true, true, true, true, true, true, false, false, false, false, false, false, false, false, false, false, false, false, false] (by simp only [List.getElem?_toArray, List.getElem?_cons_zero, List.getElem?_cons_succ]; rfl) rfl (by kernel_rfl) (by exact fun _ _ _ h => h) (Or.inl ⟨by rfl, fun W hW => by first | rfl | (try dsimp only at hW); go_simp⟩) hS rfl ?_
    simp only [Act.put, List.setIfInBounds_toArray, List.set_cons_zero, List.set_cons_succ]
    refine Last.take_ (i := 6) (N := some 22) (v := .bool false) #[true, true, true, true, true, true, true, false, false, false, false, false, false, false, false, false, false, false, false] (by simp only [List.getElem?_toArray, List.getElem?_cons_zero, List.getElem?_cons_succ]; rfl) rfl (by kernel_rfl) (by exact fun _ _ _ h => h) (Or.inl ⟨by rfl, fun W hW => by first | rfl | (try dsimp only at hW); go_simp⟩) hS rfl ?_
    simp only [Act.put, List.setIfInBounds_toArray, List.set_cons_zero, List.set_cons_succ]
    refine Last.take_ (i := 7) (N := some 23) (v := .bool false) #[true, true, true, true, true, true, true, true, false, false, false, false, false, false, false, false, false, false, false] (by simp only [List.getElem?_toArray, List.getElem?_cons_zero, List.getElem?_cons_succ]; rfl) rfl (by kernel_rfl) (by exact fun _ _ _ h => h) (Or.inl ⟨by rfl, fun W hW => by first | rfl | (try dsimp only at hW); go_simp⟩) hS rfl ?_
    simp only [Act.put, List.setIfInBounds_toArray, List.set_cons_zero, List.set_cons_succ]
    refine Last.take_ (i := 8) (N := some 24) (v := undef) #[true, true, true, true, true, true, true, true, true, false, false, false, false, false, false, false, false, false, false] (by simp only [List.getElem?_toArray, List.getElem?_cons_zero, List.getElem?_cons_succ]; rfl) rfl (by kernel_rfl) (by exact fun _ _ _ h => h) (Or.inr ⟨by rfl, rfl⟩) hS rfl ?_
    simp only [Act.put, List.setIfInBounds_toArray, List.set_cons_zero, List.set_cons_succ]
    refine Last.take_ (i := 9) (N := some 25) (v := undef) #[true, true, true, true, true, true, true, true, true, true, false, false, false, false, false, false, false, false, false] (by simp only [List.getElem?_toArray, List.getElem?_cons_zero, List.getElem?_cons_succ]; rfl) rfl (by kernel_rfl) (by exact fun _ _ _ h => h) (Or.inr ⟨by rfl, rfl⟩) hS rfl ?_
    simp only [Act.put, List.setIfInBounds_toArray, List.set_cons_zero, List.set_cons_succ]
    refine Last.take_ (i := 10) (N := some 26) (v := undef) #[true, true, true, true, true, true, true, true, true, true, true, false, false, false, false, false, false, false, false] (by simp only [List.getElem?_toArray, List.getElem?_cons_zero, List.getElem?_cons_succ]; rfl) rfl (by kernel_rfl) (by exact fun _ _ _ h => h) (Or.inr ⟨by rfl, rfl⟩) hS rfl ?_
    simp only [Act.put, List.setIfInBounds_toArray, List.set_cons_zero, List.set_cons_succ]
    refine Last.take_ (i := 11) (N := some 27) (v := undef) #[true, true, true, true, true, true, true, true, true, true, true, true, false, false, false, false, false, false, false] (by simp only [List.getElem?_toArray, List.getElem?_cons_zero, List.getElem?_cons_succ]; rfl) rfl (by kernel_rfl) (by exact fun _ _ _ h => h) (Or.inr ⟨by rfl, rfl⟩) hS rfl ?_
    simp only [Act.put, List.setIfInBounds_toArray, List.set_cons_zero, List.set_cons_succ]
    refine Last.take_ (i := 12) (N := some 28) (v := undef) #[true, true, true, true, true, true, true, true, true, true, true, true, true, false, false, false, false, false, false] (by simp only [List.getElem?_toArray, List.getElem?_cons_zero, List.getElem?_cons_succ]; rfl) rfl (by kernel_rfl) (by exact fun _ _ _ h => h) (Or.inr ⟨by rfl, rfl⟩) hS rfl ?_
    simp only [Act.put, List.setIfInBounds_toArray, List.set_cons_zero, List.set_cons_succ]
    refine Last.take_ (i := 13) (N := some 29) (v := undef) #[true, true, true, true, true, true, true, true, true, true, true, true, true, true, false, false, false, false, false] (by simp only [List.getElem?_toArray, List.getElem?_cons_zero, List.getElem?_cons_succ]; rfl) rfl (by kernel_rfl) (by exact fun _ _ _ h => h) (Or.inr ⟨by rfl, rfl⟩) hS rfl ?_
    simp only [Act.put, List.setIfInBounds_toArray, List.set_cons_zero, List.set_cons_succ]
    refine Last.take_ (i := 14) (N := some 30) (v := undef) #[true, true, true, true, true, true, true, true, true, true, true, true, true, true, true, false, false, false, false] (by simp only [List.getElem?_toArray, List.getElem?_cons_zero, List.getElem?_cons_succ]; rfl) rfl (by kernel_rfl) (by exact fun _ _ _ h => h) (Or.inr ⟨by rfl, rfl⟩) hS rfl ?_
    simp only [Act.put, List.setIfInBounds_toArray, List.set_cons_zero, List.set_cons_succ]
    refine Last.take_ (i := 15) (N := some 31) (v := undef) #[true, true, true, true, true, true, true, true, true, true, true, true, true, true, true, true, false, false, false] (by simp only [List.getElem?_toArray, List.getElem?_cons_zero, List.getElem?_cons_succ]; rfl) rfl (by kernel_rfl) (by exact fun _ _ _ h => h) (Or.inr ⟨by rfl, rfl⟩) hS rfl ?_
    simp only [Act.put, List.setIfInBounds_toArray, List.set_cons_zero, List.set_cons_succ]
    refine Last.take_ (i := 16) (N := some 32) (v := undef) #[true, true, true, true, true, true, true, true, true, true, true, true, true, true, true, true, true, false, false] (by simp only [List.getElem?_toArray, List.getElem?_cons_zero, List.getElem?_cons_succ]; rfl) rfl (by kernel_rfl) (by exact fun _ _ _ h => h) (Or.inr ⟨by rfl, rfl⟩) hS rfl ?_
    simp only [Act.put, List.setIfInBounds_toArray, List.set_cons_zero, List.set_cons_succ]
    refine Last.take_ (i := 17) (N := some 33) (v := .bool false) #[true, true, true, true, true, true, true, true, true, true, true, true, true, true, true, true, true, true, false] (by simp only [List.getElem?_toArray, List.getElem?_cons_zero, List.getElem?_cons_succ]; rfl) rfl (by kernel_rfl) (by exact fun _ _ _ h => h) (Or.inl ⟨by rfl, fun W hW => by first | rfl | (try dsimp only at hW); go_simp⟩) hS rfl ?_
    simp only [Act.put, List.setIfInBounds_toArray, List.set_cons_zero, List.set_cons_succ]
    refine Last.take_ (i := 18) (N := some 4) (v := .bool false) #[true, true, true, true, true, true, true, true, true, true, true, true, true, true, true, true, true, true, true] (by simp only [List.getElem?_toArray, List.getElem?_cons_zero, List.getElem?_cons_succ]; rfl) rfl (by kernel_rfl) (by exact fun _ _ _ h => h) (Or.inl ⟨by rfl, fun W hW => by first | rfl | (try dsimp only at hW); go_simp⟩) hS rfl ?_
    simp only [Act.put, List.setIfInBounds_toArray, List.set_cons_zero, List.set_cons_succ]
    refine Last.done_ (by kernel_rfl) ?_
    go_wp2_with fail
    go_ret
    exact ⟨by rw [hb.out]; rfl, E0.out.drew⟩
set_option maxRecDepth 100000 in
set_option maxHeartbeats 8000000 in
theorem rh2 {w : World} {key val : ByteArray} {A : Option Addr} {len cap : Nat} {e : Ev} (hs : e.now.size ≤ 1048576) : Calls Try.prog 95 #[.agg #[.int .i64 2, .string key, .string val, .slice A len cap], evV e] w (BoolPost (e.has && (fieldF e.now key).2 && ((fieldF e.now key).1.toList == val.toList)) w) := by
  show Calls Try.prog 95 #[_, .agg #[.int .i64 e.pos, .string e.key, .bool e.had, .string e.old, .bool e.has, .string e.now]] w _
  obtain ⟨r, hr⟩ : ∃ r, fieldF e.now key = r := ⟨_, rfl⟩
  obtain ⟨s, b⟩ := r
  have HRR := Lib.hid hr
  rw [hr]
  clear hr
  go_enter Try.func95, Try.ntmps95
  go_wp2_with fail
  have E0 : Hid (Ext Non w ((w.alloc (.cells #[.int .i64 2, .string key, .string val, .slice A len cap] 24)).alloc (.cells #[.int .i64 e.pos, .string e.key, .bool e.had, .string e.old, .bool e.has, .string e.now] 43))) := ((Ext.refl _ _).alloc _).alloc _
  have B0 : Hid (((w.alloc (.cells #[.int .i64 2, .string key, .string val, .slice A len cap] 24)).alloc (.cells #[.int .i64 e.pos, .string e.key, .bool e.had, .string e.old, .bool e.has, .string e.now] 43)).heap[w.heap.size]? = some (.cells #[.int .i64 2, .string key, .string val, .slice A len cap] 24)) := blk_alloc (blk_new _ _) _
  have X0 : Hid (((w.alloc (.cells #[.int .i64 2, .string key, .string val, .slice A len cap] 24)).alloc (.cells #[.int .i64 e.pos, .string e.key, .bool e.had, .string e.old, .bool e.has, .string e.now] 43)).heap[w.heap.size + 1]? = some (.cells #[.int .i64 e.pos, .string e.key, .bool e.had, .string e.old, .bool e.has, .string e.now] 43)) := by
    have hsz1 : (w.alloc (.cells #[.int .i64 2, .string key, .string val, .slice A len cap] 24)).heap.size = w.heap.size + 1 := by simp
    have h := blk_new (w.alloc (.cells #[.int .i64 2, .string key, .string val, .slice A len cap] 24)) (.cells #[.int .i64 e.pos, .string e.key, .bool e.had, .string e.old, .bool e.has, .string e.now] 43)
    rw [hsz1] at h
    exact h
  obtain ⟨w0, hw0⟩ : ∃ w0, (w.alloc (.cells #[.int .i64 2, .string key, .string val, .slice A len cap] 24)).alloc (.cells #[.int .i64 e.pos, .string e.key, .bool e.had, .string e.old, .bool e.has, .string e.now] 43) = w0 := ⟨_, rfl⟩
  rw [hw0] at E0 B0 X0 ⊢
  clear hw0
  have x0 : w0.cell? ⟨w.heap.size + 1, 0, none⟩ = some (.int .i64 e.pos) := blk_cell X0.out 0
  have x1 : w0.cell? ⟨w.heap.size + 1, 1, none⟩ = some (.string e.key) := blk_cell X0.out 1
  have x2 : w0.cell? ⟨w.heap.size + 1, 2, none⟩ = some (.bool e.had) := blk_cell X0.out 2
  have x3 : w0.cell? ⟨w.heap.size + 1, 3, none⟩ = some (.string e.old) := blk_cell X0.out 3
  have x4 : w0.cell? ⟨w.heap.size + 1, 4, none⟩ = some (.bool e.has) := blk_cell X0.out 4
  have x5 : w0.cell? ⟨w.heap.size + 1, 5, none⟩ = some (.string e.now) := blk_cell X0.out 5
  have y0 : w0.cell? ⟨w.heap.size, 0, none⟩ = some (.int .i64 2) := blk_cell (B0.out) 0
  have y1 : w0.cell? ⟨w.heap.size, 1, none⟩ = some (.string key) := blk_cell (B0.out) 1
  have y2 : w0.cell? ⟨w.heap.size, 2, none⟩ = some (.string val) := blk_cell (B0.out) 2
  have y3 : w0.cell? ⟨w.heap.size, 3, none⟩ = some (.slice A len cap) := blk_cell (B0.out) 3
  go_wp2_with fail
  refine (RField_calls _ e.now key hs).mono ?_
  rw [HRR.out]
  rintro e' w5 ⟨rfl, he⟩
  have x0 : w5.cell? ⟨w.heap.size + 1, 0, none⟩ = some (.int .i64 e.pos) := blk_cell (he.obj X0.out (fun h => h)) 0
  have x1 : w5.cell? ⟨w.heap.size + 1, 1, none⟩ = some (.string e.key) := blk_cell (he.obj X0.out (fun h => h)) 1
  have x2 : w5.cell? ⟨w.heap.size + 1, 2, none⟩ = some (.bool e.had) := blk_cell (he.obj X0.out (fun h => h)) 2
  have x3 : w5.cell? ⟨w.heap.size + 1, 3, none⟩ = some (.string e.old) := blk_cell (he.obj X0.out (fun h => h)) 3
  have x4 : w5.cell? ⟨w.heap.size + 1, 4, none⟩ = some (.bool e.has) := blk_cell (he.obj X0.out (fun h => h)) 4
  have x5 : w5.cell? ⟨w.heap.size + 1, 5, none⟩ = some (.string e.now) := blk_cell (he.obj X0.out (fun h => h)) 5
  have y0 : w5.cell? ⟨w.heap.size, 0, none⟩ = some (.int .i64 2) := blk_cell (he.obj B0.out (fun h => h)) 0
  have y1 : w5.cell? ⟨w.heap.size, 1, none⟩ = some (.string key) := blk_cell (he.obj B0.out (fun h => h)) 1
  have y2 : w5.cell? ⟨w.heap.size, 2, none⟩ = some (.string val) := blk_cell (he.obj B0.out (fun h => h)) 2
  have y3 : w5.cell? ⟨w.heap.size, 3, none⟩ = some (.slice A len cap) := blk_cell (he.obj B0.out (fun h => h)) 3
  have HE := Lib.hid (E0.out.trans0 he)
  clear he
  cases hb2 : e.has with
  | false =>
    rw [hb2] at x4
    go_wp2_with fail
    go_ret
    exact ⟨by rw [hb2]; rfl, HE.out⟩
  | true =>
    rw [hb2] at x4
    cases b with
    | false =>
      go_wp2_with fail
      go_ret
      exact ⟨by rw [hb2]; rfl, HE.out⟩
    | true =>
      go_wp2_with fail
      go_ret
      exact ⟨by rw [hb2]; rfl, HE.out⟩
def RhAt (n : Nat) : Prop := ∀ (f : Flt) (w : World) (ok : Nat → Prop) (v : Value) (e : Ev), Rd (fltK n) w ok v f.kids → okL (n + 1) f → (∃ d c, 0 ≤ c ∧ c ≤ 24 ∧ (chk (n + 1) f d c).1 = 0) → e.now.size ≤ 1048576 → e.key.size ≤ maxLen →
    Calls Try.prog 95 #[.agg #[.int .i64 f.op, .string f.key, .string f.val, v], evV e] w (BoolPost (holdsF fieldF (n + 1) f e) w)
set_option maxRecDepth 100000 in
set_option maxHeartbeats 8000000 in
theorem rh4 {m : Nat} (ih : RhAt m) {w : World} {key val : ByteArray} {A : Option Addr} {cap : Nat} {ok : Nat → Prop} {k : Flt} {e : Ev} (hr : Rd (fltK (m + 1)) w ok (.slice A 1 cap) [k]) (hkok : okL (m + 1) k) (hkc : ∃ d c, 0 ≤ c ∧ c ≤ 24 ∧ (chk (m + 1) k d c).1 = 0) (hs : e.now.size ≤ 1048576) (hke : e.key.size ≤ maxLen) :
    Calls Try.prog 95 #[.agg #[.int .i64 4, .string key, .string val, .slice A 1 cap], evV e] w (BoolPost (!holdsF fieldF (m + 1) k e) w) := by
  show Calls Try.prog 95 #[_, .agg #[.int .i64 e.pos, .string e.key, .bool e.had, .string e.old, .bool e.has, .string e.now]] w _
  have HR := Lib.hid hr.bound
  obtain ⟨bv, hbv⟩ : ∃ bv, holdsF fieldF (m + 1) k e = bv := ⟨_, rfl⟩
  have HBV := Lib.hid hbv
  rw [hbv]
  clear hr hbv
  go_enter Try.func95, Try.ntmps95
  go_wp2_with fail
  have E0 : Hid (Ext Non w ((w.alloc (.cells #[.int .i64 4, .string key, .string val, .slice A 1 cap] 24)).alloc (.cells #[.int .i64 e.pos, .string e.key, .bool e.had, .string e.old, .bool e.has, .string e.now] 43))) := ((Ext.refl _ _).alloc _).alloc _
  have B0 : Hid (((w.alloc (.cells #[.int .i64 4, .string key, .string val, .slice A 1 cap] 24)).alloc (.cells #[.int .i64 e.pos, .string e.key, .bool e.had, .string e.old, .bool e.has, .string e.now] 43)).heap[w.heap.size]? = some (.cells #[.int .i64 4, .string key, .string val, .slice A 1 cap] 24)) := blk_alloc (blk_new _ _) _
  have X0 : Hid (((w.alloc (.cells #[.int .i64 4, .string key, .string val, .slice A 1 cap] 24)).alloc (.cells #[.int .i64 e.pos, .string e.key, .bool e.had, .string e.old, .bool e.has, .string e.now] 43)).heap[w.heap.size + 1]? = some (.cells #[.int .i64 e.pos, .string e.key, .bool e.had, .string e.old, .bool e.has, .string e.now] 43)) := by
    have hsz1 : (w.alloc (.cells #[.int .i64 4, .string key, .string val, .slice A 1 cap] 24)).heap.size = w.heap.size + 1 := by simp
    have h := blk_new (w.alloc (.cells #[.int .i64 4, .string key, .string val, .slice A 1 cap] 24)) (.cells #[.int .i64 e.pos, .string e.key, .bool e.had, .string e.old, .bool e.has, .string e.now] 43)
    rw [hsz1] at h
    exact h
  obtain ⟨w0, hw0⟩ : ∃ w0, (w.alloc (.cells #[.int .i64 4, .string key, .string val, .slice A 1 cap] 24)).alloc (.cells #[.int .i64 e.pos, .string e.key, .bool e.had, .string e.old, .bool e.has, .string e.now] 43) = w0 := ⟨_, rfl⟩
  rw [hw0] at E0 B0 X0 ⊢
  clear hw0
  obtain ⟨gk, off, vk, mm, hnm, rfl, hgk, hgl, d0, d1, d2, d3, hrk⟩ := kid_at (k := 0) (f := k) (HR.out.ext0 E0.out) rfl
  obtain rfl : mm = m := by omega
  obtain ⟨A3, n3, c3, rfl, hn3⟩ := rd_abs hrk
  simp only [Nat.zero_mul, Nat.add_zero] at d0 d1 d2 d3
  have HKR := Lib.hid hrk
  clear hrk hn3
  refine Last.start_ (S := fun W => W.cell? ⟨w.heap.size, 3, none⟩ = some (.slice (some ⟨gk, off, none⟩) 1 cap) ∧ W.cell? ⟨gk, off, none⟩ = some (.int .i64 k.op) ∧ W.cell? ⟨gk, off + 1, none⟩ = some (.string k.key) ∧ W.cell? ⟨gk, off + 2, none⟩ = some (.string k.val) ∧ W.cell? ⟨gk, off + 3, none⟩ = some (.slice A3 n3 c3) ∧ W.cell? ⟨w.heap.size + 1, 0, none⟩ = some (.int .i64 e.pos) ∧ W.cell? ⟨w.heap.size + 1, 1, none⟩ = some (.string e.key) ∧ W.cell? ⟨w.heap.size + 1, 2, none⟩ = some (.bool e.had) ∧ W.cell? ⟨w.heap.size + 1, 3, none⟩ = some (.string e.old) ∧ W.cell? ⟨w.heap.size + 1, 4, none⟩ = some (.bool e.has) ∧ W.cell? ⟨w.heap.size + 1, 5, none⟩ = some (.string e.now)) (ds := []) #[false, false, false, false, false, false, false, false] (by kernel_rfl) (by rfl) (by rfl) ⟨blk_cell B0.out 3, d0, d1, d2, d3, blk_cell X0.out 0, blk_cell X0.out 1, blk_cell X0.out 2, blk_cell X0.out 3, blk_cell X0.out 4, blk_cell X0.out 5⟩ (fun hS => ?_)
  refine Last.take_ (i := 0) (N := some 61) (v := .pointer (some ⟨w.heap.size, 3, none⟩)) #[true, false, false, false, false, false, false, false] (by simp only [List.getElem?_toArray, List.getElem?_cons_zero]; rfl) rfl (by kernel_rfl) (by exact fun _ _ _ h => h) (Or.inl ⟨by rfl, fun W hW => by first | rfl | (try dsimp only at hW); go_simp⟩) hS rfl ?_
  simp only [Act.put, List.setIfInBounds_toArray, List.set_cons_zero, List.set_cons_succ]
  refine Last.take_ (i := 1) (N := some 62) (v := .slice (some ⟨gk, off, none⟩) 1 cap) #[true, true, false, false, false, false, false, false] (by simp only [List.getElem?_toArray, List.getElem?_cons_zero, List.getElem?_cons_succ]; rfl) rfl (by kernel_rfl) (by exact fun _ _ _ h => h) (Or.inl ⟨by rfl, fun W hW => by first | rfl | (try dsimp only at hW); go_simp⟩) hS rfl ?_
  simp only [Act.put, List.setIfInBounds_toArray, List.set_cons_zero, List.set_cons_succ]
  refine Last.take_ (i := 2) (N := some 63) (v := .pointer (some ⟨gk, off, none⟩)) #[true, true, true, false, false, false, false, false] (by simp only [List.getElem?_toArray, List.getElem?_cons_zero, List.getElem?_cons_succ]; rfl) rfl (by kernel_rfl) (by exact fun _ _ _ h => h) (Or.inl ⟨by rfl, fun W hW => by first | rfl | (try dsimp only at hW); go_simp⟩) hS rfl ?_
  simp only [Act.put, List.setIfInBounds_toArray, List.set_cons_zero, List.set_cons_succ]
  refine Last.take_ (i := 3) (N := some 64) (v := .agg #[.int .i64 k.op, .string k.key, .string k.val, .slice A3 n3 c3]) #[true, true, true, true, false, false, false, false] (by simp only [List.getElem?_toArray, List.getElem?_cons_zero, List.getElem?_cons_succ]; rfl) rfl (by kernel_rfl) (by exact fun _ _ _ h => h) (Or.inl ⟨by rfl, fun W hW => by first | rfl | (try dsimp only at hW); go_simp⟩) hS rfl ?_
  simp only [Act.put, List.setIfInBounds_toArray, List.set_cons_zero, List.set_cons_succ]
  refine Last.take_ (i := 4) (N := some 65) (v := .agg #[.int .i64 e.pos, .string e.key, .bool e.had, .string e.old, .bool e.has, .string e.now]) #[true, true, true, true, true, false, false, false] (by simp only [List.getElem?_toArray, List.getElem?_cons_zero, List.getElem?_cons_succ]; rfl) rfl (by kernel_rfl) (by exact fun _ _ _ h => h) (Or.inl ⟨by rfl, fun W hW => by first | rfl | (try dsimp only at hW); go_simp⟩) hS rfl ?_
  simp only [Act.put, List.setIfInBounds_toArray, List.set_cons_zero, List.set_cons_succ]
  refine Last.one_ (i := 5) (N := some 66) #[true, true, true, true, true, true, false, false] (by simp only [List.getElem?_toArray, List.getElem?_cons_zero, List.getElem?_cons_succ]; rfl) rfl (by kernel_rfl) (by decide) (fun K hK => ?_)
  refine Last.goes_ Try.func95 (by kernel_rfl) rfl #[.agg #[.int .i64 k.op, .string k.key, .string k.val, .slice A3 n3 c3], .agg #[.int .i64 e.pos, .string e.key, .bool e.had, .string e.old, .bool e.has, .string e.now]] (by rfl) rfl rfl (by simp [Act.eval]) ?_
  refine (ih k w0.drew _ (.slice A3 n3 c3) e (HKR.out.ext0 (Ext.refl _ _).drew) hkok hkc hs hke).mono ?_
  rw [HBV.out]
  rintro e' w6 ⟨rfl, he⟩
  have E6 := Lib.hid he
  clear he
  refine ⟨_, rfl, hK.out _ _ ⟨E6.out.cell (blk_cell (blk_drew B0.out) 3) (fun h => h), E6.out.cell d0 (fun h => h), E6.out.cell d1 (fun h => h), E6.out.cell d2 (fun h => h), E6.out.cell d3 (fun h => h), E6.out.cell (blk_cell (blk_drew X0.out) 0) (fun h => h), E6.out.cell (blk_cell (blk_drew X0.out) 1) (fun h => h), E6.out.cell (blk_cell (blk_drew X0.out) 2) (fun h => h), E6.out.cell (blk_cell (blk_drew X0.out) 3) (fun h => h), E6.out.cell (blk_cell (blk_drew X0.out) 4) (fun h => h), E6.out.cell (blk_cell (blk_drew X0.out) 5) (fun h => h)⟩ (fun hS => ?_)⟩
  try simp only [Act.put, List.setIfInBounds_toArray, List.set_cons_zero, List.set_cons_succ]
  refine Last.take_ (i := 6) (N := some 67) (v := .bool (!bv)) #[true, true, true, true, true, true, true, false] (by simp only [List.getElem?_toArray, List.getElem?_cons_zero, List.getElem?_cons_succ]; rfl) rfl (by kernel_rfl) (by exact fun _ _ _ h => h) (Or.inl ⟨by rfl, fun W hW => by first | rfl | (try dsimp only at hW); go_simp⟩) hS rfl ?_
  simp only [Act.put, List.setIfInBounds_toArray, List.set_cons_zero, List.set_cons_succ]
  refine Last.take_ (i := 7) (N := some 4) (v := .bool (!bv)) #[true, true, true, true, true, true, true, true] (by simp only [List.getElem?_toArray, List.getElem?_cons_zero, List.getElem?_cons_succ]; rfl) rfl (by kernel_rfl) (by exact fun _ _ _ h => h) (Or.inl ⟨by rfl, fun W hW => by first | rfl | (try dsimp only at hW); go_simp⟩) hS rfl ?_
  simp only [Act.put, List.setIfInBounds_toArray, List.set_cons_zero, List.set_cons_succ]
  refine Last.done_ (by kernel_rfl) ?_
  go_wp2_with fail
  go_ret
  exact ⟨rfl, E0.out.drew.trans0 E6.out⟩
set_option maxRecDepth 100000 in
set_option maxHeartbeats 8000000 in
theorem rh5 {n : Nat} (ih : ∀ m, n = m + 1 → RhAt m) {w : World} {key val : ByteArray} {A : Option Addr} {len cap : Nat} {ok : Nat → Prop} {kids : List Flt} {e : Ev} (hr : Rd (fltK n) w ok (.slice A len cap) kids) (hlen : len = kids.length) (hl : len ≤ 1000) (hkok : ∀ k ∈ kids, okL n k) (hkc : ∀ k ∈ kids, ∃ d c, 0 ≤ c ∧ c ≤ 24 ∧ (chk n k d c).1 = 0) (hs : e.now.size ≤ 1048576) (hke : e.key.size ≤ maxLen) :
    Calls Try.prog 95 #[.agg #[.int .i64 5, .string key, .string val, .slice A len cap], evV e] w (BoolPost (kids.all fun k => holdsF fieldF n k e) w) := by
  show Calls Try.prog 95 #[_, .agg #[.int .i64 e.pos, .string e.key, .bool e.had, .string e.old, .bool e.has, .string e.now]] w _
  have HR := Lib.hid hr.bound
  have HL := Lib.hid hlen
  have HKO := Lib.hid hkok
  have HKC := Lib.hid hkc
  have HIH := Lib.hid ih
  clear hr hlen hkok hkc ih
  go_enter Try.func95, Try.ntmps95
  go_wp2_with fail
  have E0 : Hid (Ext Non w ((w.alloc (.cells #[.int .i64 5, .string key, .string val, .slice A len cap] 24)).alloc (.cells #[.int .i64 e.pos, .string e.key, .bool e.had, .string e.old, .bool e.has, .string e.now] 43))) := ((Ext.refl _ _).alloc _).alloc _
  have B0 : Hid (((w.alloc (.cells #[.int .i64 5, .string key, .string val, .slice A len cap] 24)).alloc (.cells #[.int .i64 e.pos, .string e.key, .bool e.had, .string e.old, .bool e.has, .string e.now] 43)).heap[w.heap.size]? = some (.cells #[.int .i64 5, .string key, .string val, .slice A len cap] 24)) := blk_alloc (blk_new _ _) _
  have X0 : Hid (((w.alloc (.cells #[.int .i64 5, .string key, .string val, .slice A len cap] 24)).alloc (.cells #[.int .i64 e.pos, .string e.key, .bool e.had, .string e.old, .bool e.has, .string e.now] 43)).heap[w.heap.size + 1]? = some (.cells #[.int .i64 e.pos, .string e.key, .bool e.had, .string e.old, .bool e.has, .string e.now] 43)) := by
    have hsz1 : (w.alloc (.cells #[.int .i64 5, .string key, .string val, .slice A len cap] 24)).heap.size = w.heap.size + 1 := by simp
    have h := blk_new (w.alloc (.cells #[.int .i64 5, .string key, .string val, .slice A len cap] 24)) (.cells #[.int .i64 e.pos, .string e.key, .bool e.had, .string e.old, .bool e.has, .string e.now] 43)
    rw [hsz1] at h
    exact h
  obtain ⟨w0, hw0⟩ : ∃ w0, (w.alloc (.cells #[.int .i64 5, .string key, .string val, .slice A len cap] 24)).alloc (.cells #[.int .i64 e.pos, .string e.key, .bool e.had, .string e.old, .bool e.has, .string e.now] 43) = w0 := ⟨_, rfl⟩
  rw [hw0] at E0 B0 X0 ⊢
  clear hw0
  have y0 : w0.cell? ⟨w.heap.size, 0, none⟩ = some (.int .i64 5) := blk_cell (B0.out) 0
  have y1 : w0.cell? ⟨w.heap.size, 1, none⟩ = some (.string key) := blk_cell (B0.out) 1
  have y2 : w0.cell? ⟨w.heap.size, 2, none⟩ = some (.string val) := blk_cell (B0.out) 2
  have y3 : w0.cell? ⟨w.heap.size, 3, none⟩ = some (.slice A len cap) := blk_cell (B0.out) 3
  go_wp2_with fail
  go_loopw [7, 71] (fun c i wr => ∃ j N : Nat, i = .int .i64 (j : Int) ∧ c = .int .i64 (N : Int) ∧ j ≤ len ∧ N ≤ j ∧ Hid (N = (kids.take j).countP fun k => holdsF fieldF n k e) ∧ Hid (Ext Non w0 wr)) (fun _ i _ => len - (intOf i).toNat)
  case atStart => exact ⟨0, 0, rfl, rfl, by omega, by omega, by show _ = _; simp, Ext.refl _ _⟩
  case round =>
    obtain ⟨j, N, rfl, rfl, hj, hNj, HN, HE⟩ := hrel
    have x0 : wr.cell? ⟨w.heap.size + 1, 0, none⟩ = some (.int .i64 e.pos) := blk_cell (HE.out.obj X0.out (fun h => h)) 0
    have x1 : wr.cell? ⟨w.heap.size + 1, 1, none⟩ = some (.string e.key) := blk_cell (HE.out.obj X0.out (fun h => h)) 1
    have x2 : wr.cell? ⟨w.heap.size + 1, 2, none⟩ = some (.bool e.had) := blk_cell (HE.out.obj X0.out (fun h => h)) 2
    have x3 : wr.cell? ⟨w.heap.size + 1, 3, none⟩ = some (.string e.old) := blk_cell (HE.out.obj X0.out (fun h => h)) 3
    have x4 : wr.cell? ⟨w.heap.size + 1, 4, none⟩ = some (.bool e.has) := blk_cell (HE.out.obj X0.out (fun h => h)) 4
    have x5 : wr.cell? ⟨w.heap.size + 1, 5, none⟩ = some (.string e.now) := blk_cell (HE.out.obj X0.out (fun h => h)) 5
    have y0 : wr.cell? ⟨w.heap.size, 0, none⟩ = some (.int .i64 5) := blk_cell (HE.out.obj B0.out (fun h => h)) 0
    have y1 : wr.cell? ⟨w.heap.size, 1, none⟩ = some (.string key) := blk_cell (HE.out.obj B0.out (fun h => h)) 1
    have y2 : wr.cell? ⟨w.heap.size, 2, none⟩ = some (.string val) := blk_cell (HE.out.obj B0.out (fun h => h)) 2
    have y3 : wr.cell? ⟨w.heap.size, 3, none⟩ = some (.slice A len cap) := blk_cell (HE.out.obj B0.out (fun h => h)) 3
    by_cases hlt : j < len
    · obtain ⟨k, hk0⟩ : ∃ k, kids[j]? = some k := ⟨_, List.getElem?_eq_getElem (by rw [← HL.out]; exact hlt)⟩
      obtain ⟨gk, off, vk, m, hnm, rfl, hgk, hgl, d0, d1, d2, d3, hrk⟩ := kid_at (HR.out.ext0 (E0.out.trans0 HE.out)) hk0
      obtain ⟨A3, n3, c3, rfl, hn3⟩ := rd_abs hrk
      have HMEM := Lib.hid (List.mem_of_getElem? hk0)
      obtain ⟨bv, hbv⟩ : ∃ bv, holdsF fieldF n k e = bv := ⟨_, rfl⟩
      have hnx : (kids.take (j + 1)).countP (fun k => holdsF fieldF n k e) = (kids.take j).countP (fun k => holdsF fieldF n k e) + (if bv = true then 1 else 0) := by
        rw [List.take_add_one, hk0, List.countP_append]
        cases bv <;> simp [hbv]
      have HNX := Lib.hid hnx
      have HBV := Lib.hid hbv
      have HKR := Lib.hid hrk
      clear hrk hn3 hk0 hnx hbv
      have hlk := blk_lt (HE.out.obj X0.out (fun h => h))
      cases bv with
      | true =>
        go_wp2_with fail
        refine (HIH.out m hnm k _ _ _ e (HKR.out.ext0 ?_) (by have h := HKO.out k HMEM.out; rw [hnm] at h; exact h) (by have h := HKC.out k HMEM.out; rw [hnm] at h; exact h) hs hke).mono ?_
        · repeat (first | exact Ext.refl _ _ | refine Ext.alloc ?_ _)
        rw [← hnm, HBV.out]
        rintro e' w6 ⟨rfl, he⟩
        have HE6 : Hid (Ext Non w0 w6) := by
          refine Ext.trans0 ?_ he
          repeat (first | exact HE.out | refine Ext.alloc ?_ _)
        clear he
        go_wp2_with fail
        go_roundw
        case rel => exact ⟨j + 1, N + 1, by go_num, by go_num, by omega, by omega, by show _ = _; rw [HNX.out, HN.out]; simp, HE6.out⟩
        case measure => simp [intOf]; omega
      | false =>
        go_wp2_with fail
        refine (HIH.out m hnm k _ _ _ e (HKR.out.ext0 ?_) (by have h := HKO.out k HMEM.out; rw [hnm] at h; exact h) (by have h := HKC.out k HMEM.out; rw [hnm] at h; exact h) hs hke).mono ?_
        · repeat (first | exact Ext.refl _ _ | refine Ext.alloc ?_ _)
        rw [← hnm, HBV.out]
        rintro e' w6 ⟨rfl, he⟩
        have HE6 : Hid (Ext Non w0 w6) := by
          refine Ext.trans0 ?_ he
          repeat (first | exact HE.out | refine Ext.alloc ?_ _)
        clear he
        go_wp2_with fail
        go_roundw
        case rel => exact ⟨j + 1, N, by go_num, rfl, by omega, by omega, by show _ = _; rw [HNX.out, HN.out]; simp, HE6.out⟩
        case measure => simp [intOf]; omega
    · obtain rfl : j = len := by omega
      have hcnt : N = kids.countP fun k => holdsF fieldF n k e := by rw [HN.out, List.take_of_length_le (by rw [← HL.out]; omega)]
      by_cases hall : N = j
      · have hfin : Hid ((kids.all fun k => holdsF fieldF n k e) = true) := by
          show _ = _
          rw [List.all_eq_true]
          exact List.countP_eq_length.1 (by rw [← hcnt, hall, HL.out])
        clear hcnt
        subst hall
        go_wp2_with fail
        go_ret
        exact ⟨by rw [hfin.out]; first | rfl | simp, E0.out.trans0 HE.out⟩
      · have hfin : Hid ((kids.all fun k => holdsF fieldF n k e) = false) := by
          show _ = _
          rw [Bool.eq_false_iff]
          intro h
          rw [List.all_eq_true] at h
          exact hall (by rw [hcnt, List.countP_eq_length.2 h, HL.out])
        have hne : ¬ (N : Int) = (j : Int) := by omega
        clear hcnt
        go_wp2_with fail
        all_goals go_ret
        all_goals exact ⟨by rw [hfin.out]; first | rfl | simp [hne], E0.out.trans0 HE.out⟩
set_option maxRecDepth 100000 in
set_option maxHeartbeats 8000000 in
theorem rh6 {n : Nat} (ih : ∀ m, n = m + 1 → RhAt m) {w : World} {key val : ByteArray} {A : Option Addr} {len cap : Nat} {ok : Nat → Prop} {kids : List Flt} {e : Ev} (hr : Rd (fltK n) w ok (.slice A len cap) kids) (hlen : len = kids.length) (hl : len ≤ 1000) (hkok : ∀ k ∈ kids, okL n k) (hkc : ∀ k ∈ kids, ∃ d c, 0 ≤ c ∧ c ≤ 24 ∧ (chk n k d c).1 = 0) (hs : e.now.size ≤ 1048576) (hke : e.key.size ≤ maxLen) :
    Calls Try.prog 95 #[.agg #[.int .i64 6, .string key, .string val, .slice A len cap], evV e] w (BoolPost (kids.any fun k => holdsF fieldF n k e) w) := by
  show Calls Try.prog 95 #[_, .agg #[.int .i64 e.pos, .string e.key, .bool e.had, .string e.old, .bool e.has, .string e.now]] w _
  have HR := Lib.hid hr.bound
  have HL := Lib.hid hlen
  have HKO := Lib.hid hkok
  have HKC := Lib.hid hkc
  have HIH := Lib.hid ih
  clear hr hlen hkok hkc ih
  go_enter Try.func95, Try.ntmps95
  go_wp2_with fail
  have E0 : Hid (Ext Non w ((w.alloc (.cells #[.int .i64 6, .string key, .string val, .slice A len cap] 24)).alloc (.cells #[.int .i64 e.pos, .string e.key, .bool e.had, .string e.old, .bool e.has, .string e.now] 43))) := ((Ext.refl _ _).alloc _).alloc _
  have B0 : Hid (((w.alloc (.cells #[.int .i64 6, .string key, .string val, .slice A len cap] 24)).alloc (.cells #[.int .i64 e.pos, .string e.key, .bool e.had, .string e.old, .bool e.has, .string e.now] 43)).heap[w.heap.size]? = some (.cells #[.int .i64 6, .string key, .string val, .slice A len cap] 24)) := blk_alloc (blk_new _ _) _
  have X0 : Hid (((w.alloc (.cells #[.int .i64 6, .string key, .string val, .slice A len cap] 24)).alloc (.cells #[.int .i64 e.pos, .string e.key, .bool e.had, .string e.old, .bool e.has, .string e.now] 43)).heap[w.heap.size + 1]? = some (.cells #[.int .i64 e.pos, .string e.key, .bool e.had, .string e.old, .bool e.has, .string e.now] 43)) := by
    have hsz1 : (w.alloc (.cells #[.int .i64 6, .string key, .string val, .slice A len cap] 24)).heap.size = w.heap.size + 1 := by simp
    have h := blk_new (w.alloc (.cells #[.int .i64 6, .string key, .string val, .slice A len cap] 24)) (.cells #[.int .i64 e.pos, .string e.key, .bool e.had, .string e.old, .bool e.has, .string e.now] 43)
    rw [hsz1] at h
    exact h
  obtain ⟨w0, hw0⟩ : ∃ w0, (w.alloc (.cells #[.int .i64 6, .string key, .string val, .slice A len cap] 24)).alloc (.cells #[.int .i64 e.pos, .string e.key, .bool e.had, .string e.old, .bool e.has, .string e.now] 43) = w0 := ⟨_, rfl⟩
  rw [hw0] at E0 B0 X0 ⊢
  clear hw0
  have y0 : w0.cell? ⟨w.heap.size, 0, none⟩ = some (.int .i64 6) := blk_cell (B0.out) 0
  have y1 : w0.cell? ⟨w.heap.size, 1, none⟩ = some (.string key) := blk_cell (B0.out) 1
  have y2 : w0.cell? ⟨w.heap.size, 2, none⟩ = some (.string val) := blk_cell (B0.out) 2
  have y3 : w0.cell? ⟨w.heap.size, 3, none⟩ = some (.slice A len cap) := blk_cell (B0.out) 3
  go_wp2_with fail
  go_loopw [7, 71] (fun c i wr => ∃ j N : Nat, i = .int .i64 (j : Int) ∧ c = .int .i64 (N : Int) ∧ j ≤ len ∧ N ≤ j ∧ Hid (N = (kids.take j).countP fun k => holdsF fieldF n k e) ∧ Hid (Ext Non w0 wr)) (fun _ i _ => len - (intOf i).toNat)
  case atStart => exact ⟨0, 0, rfl, rfl, by omega, by omega, by show _ = _; simp, Ext.refl _ _⟩
  case round =>
    obtain ⟨j, N, rfl, rfl, hj, hNj, HN, HE⟩ := hrel
    have x0 : wr.cell? ⟨w.heap.size + 1, 0, none⟩ = some (.int .i64 e.pos) := blk_cell (HE.out.obj X0.out (fun h => h)) 0
    have x1 : wr.cell? ⟨w.heap.size + 1, 1, none⟩ = some (.string e.key) := blk_cell (HE.out.obj X0.out (fun h => h)) 1
    have x2 : wr.cell? ⟨w.heap.size + 1, 2, none⟩ = some (.bool e.had) := blk_cell (HE.out.obj X0.out (fun h => h)) 2
    have x3 : wr.cell? ⟨w.heap.size + 1, 3, none⟩ = some (.string e.old) := blk_cell (HE.out.obj X0.out (fun h => h)) 3
    have x4 : wr.cell? ⟨w.heap.size + 1, 4, none⟩ = some (.bool e.has) := blk_cell (HE.out.obj X0.out (fun h => h)) 4
    have x5 : wr.cell? ⟨w.heap.size + 1, 5, none⟩ = some (.string e.now) := blk_cell (HE.out.obj X0.out (fun h => h)) 5
    have y0 : wr.cell? ⟨w.heap.size, 0, none⟩ = some (.int .i64 6) := blk_cell (HE.out.obj B0.out (fun h => h)) 0
    have y1 : wr.cell? ⟨w.heap.size, 1, none⟩ = some (.string key) := blk_cell (HE.out.obj B0.out (fun h => h)) 1
    have y2 : wr.cell? ⟨w.heap.size, 2, none⟩ = some (.string val) := blk_cell (HE.out.obj B0.out (fun h => h)) 2
    have y3 : wr.cell? ⟨w.heap.size, 3, none⟩ = some (.slice A len cap) := blk_cell (HE.out.obj B0.out (fun h => h)) 3
    by_cases hlt : j < len
    · obtain ⟨k, hk0⟩ : ∃ k, kids[j]? = some k := ⟨_, List.getElem?_eq_getElem (by rw [← HL.out]; exact hlt)⟩
      obtain ⟨gk, off, vk, m, hnm, rfl, hgk, hgl, d0, d1, d2, d3, hrk⟩ := kid_at (HR.out.ext0 (E0.out.trans0 HE.out)) hk0
      obtain ⟨A3, n3, c3, rfl, hn3⟩ := rd_abs hrk
      have HMEM := Lib.hid (List.mem_of_getElem? hk0)
      obtain ⟨bv, hbv⟩ : ∃ bv, holdsF fieldF n k e = bv := ⟨_, rfl⟩
      have hnx : (kids.take (j + 1)).countP (fun k => holdsF fieldF n k e) = (kids.take j).countP (fun k => holdsF fieldF n k e) + (if bv = true then 1 else 0) := by
        rw [List.take_add_one, hk0, List.countP_append]
        cases bv <;> simp [hbv]
      have HNX := Lib.hid hnx
      have HBV := Lib.hid hbv
      have HKR := Lib.hid hrk
      clear hrk hn3 hk0 hnx hbv
      have hlk := blk_lt (HE.out.obj X0.out (fun h => h))
      cases bv with
      | true =>
        go_wp2_with fail
        refine (HIH.out m hnm k _ _ _ e (HKR.out.ext0 ?_) (by have h := HKO.out k HMEM.out; rw [hnm] at h; exact h) (by have h := HKC.out k HMEM.out; rw [hnm] at h; exact h) hs hke).mono ?_
        · repeat (first | exact Ext.refl _ _ | refine Ext.alloc ?_ _)
        rw [← hnm, HBV.out]
        rintro e' w6 ⟨rfl, he⟩
        have HE6 : Hid (Ext Non w0 w6) := by
          refine Ext.trans0 ?_ he
          repeat (first | exact HE.out | refine Ext.alloc ?_ _)
        clear he
        go_wp2_with fail
        go_roundw
        case rel => exact ⟨j + 1, N + 1, by go_num, by go_num, by omega, by omega, by show _ = _; rw [HNX.out, HN.out]; simp, HE6.out⟩
        case measure => simp [intOf]; omega
      | false =>
        go_wp2_with fail
        refine (HIH.out m hnm k _ _ _ e (HKR.out.ext0 ?_) (by have h := HKO.out k HMEM.out; rw [hnm] at h; exact h) (by have h := HKC.out k HMEM.out; rw [hnm] at h; exact h) hs hke).mono ?_
        · repeat (first | exact Ext.refl _ _ | refine Ext.alloc ?_ _)
        rw [← hnm, HBV.out]
        rintro e' w6 ⟨rfl, he⟩
        have HE6 : Hid (Ext Non w0 w6) := by
          refine Ext.trans0 ?_ he
          repeat (first | exact HE.out | refine Ext.alloc ?_ _)
        clear he
        go_wp2_with fail
        go_roundw
        case rel => exact ⟨j + 1, N, by go_num, rfl, by omega, by omega, by show _ = _; rw [HNX.out, HN.out]; simp, HE6.out⟩
        case measure => simp [intOf]; omega
    · obtain rfl : j = len := by omega
      have hcnt : N = kids.countP fun k => holdsF fieldF n k e := by rw [HN.out, List.take_of_length_le (by rw [← HL.out]; omega)]
      by_cases hall : N = 0
      · have hfin : Hid ((kids.any fun k => holdsF fieldF n k e) = false) := by
          show _ = _
          rw [Bool.eq_false_iff]
          intro h
          rw [List.any_eq_true] at h
          rw [hall] at hcnt
          have h2 := List.countP_eq_zero.1 hcnt.symm
          obtain ⟨x, hx, hy⟩ := h
          exact h2 x hx hy
        clear hcnt
        subst hall
        go_wp2_with fail
        all_goals go_ret
        all_goals exact ⟨by rw [hfin.out]; first | rfl | simp, E0.out.trans0 HE.out⟩
      · have hfin : Hid ((kids.any fun k => holdsF fieldF n k e) = true) := by
          show _ = _
          rw [List.any_eq_true]
          have h2 : 0 < kids.countP fun k => holdsF fieldF n k e := by omega
          obtain ⟨x, hx, hy⟩ := List.countP_pos_iff.1 h2
          exact ⟨x, hx, hy⟩
        have hNp : 0 < N := by omega
        clear hcnt
        go_wp2_with fail
        all_goals go_ret
        all_goals exact ⟨by rw [hfin.out]; first | rfl | (simp; omega), E0.out.trans0 HE.out⟩
end Go.Proofs.Ytdjfijdnhfmeeaa
