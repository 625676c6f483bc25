/- FilterChecks: the law holds of every filter. -/
import Derived.Test.YtooafilbmjnfmaaK0
import Derived.Test.YtooafilbmjnfmaaL
namespace Go.Proofs.Ytooafilbmjnfmaa
open Go.RowKit Go.TM
theorem cells4 {w : World} {g : Nat} {a0 a1 a2 a3 : Value} {t : TypeId} (h : w.heap[g]? = some (.cells #[a0, a1, a2, a3] t (0, 0))) : w.cell? ⟨g, 0, none⟩ = some a0 ∧ w.cell? ⟨g, 1, none⟩ = some a1 ∧ w.cell? ⟨g, 2, none⟩ = some a2 ∧ w.cell? ⟨g, 3, none⟩ = some a3 := ⟨blk_cell h 0, blk_cell h 1, blk_cell h 2, blk_cell h 3⟩
set_option maxRecDepth 100000 in
set_option maxHeartbeats 8000000 in
theorem checks_calls {n : Nat} {f : Flt} {w : World} {ok : Nat → Prop} {x : Value} (hx : FV n w ok x f) (hok : okF (n + 1) f) : Calls Try.prog 3 #[x] w fun e w' => e = .returned (.bool true) ∧ Ext Non w w' := by
  obtain ⟨b, hb⟩ : ∃ b, lightF (n + 1) f = b := ⟨_, rfl⟩
  have HLO : Hid (b = true → okL (n + 1) f) := fun h => light_ok hok (hb.trans h)
  have HX := Lib.hid hx
  have HOK := Lib.hid hok
  have HB := Lib.hid hb
  clear hb hok
  obtain ⟨v, rfl, hr⟩ := hx
  obtain ⟨op, key, val, kids⟩ := f
  obtain ⟨A, n, c, rfl, hlen⟩ := rd_abs hr
  clear hr hlen
  dsimp only [Flt.op, Flt.key, Flt.val] at HX ⊢
  go_enter Try.func3, Try.ntmps3
  go_wp2_with fail
  have E0 : Hid (Ext Non w (w.alloc (.cells #[.int .i64 op, .string key, .string val, .slice A n c] 24))) := (Ext.refl _ _).alloc _
  have BX : Hid ((w.alloc (.cells #[.int .i64 op, .string key, .string val, .slice A n c] 24)).heap[w.heap.size]? = some (.cells #[.int .i64 op, .string key, .string val, .slice A n c] 24)) := blk_new _ _
  obtain ⟨w0, hw0⟩ : ∃ w0, w.alloc (.cells #[.int .i64 op, .string key, .string val, .slice A n c] 24) = w0 := ⟨_, rfl⟩
  rw [hw0] at E0 BX ⊢
  have VX := Lib.hid (HX.out.ext0 E0.out)
  clear hw0
  cases b with
  | false =>
    clear HLO
    refine Last.start_ (S := fun W => W.cell? ⟨w.heap.size, 0, none⟩ = some (.int .i64 op) ∧ W.cell? ⟨w.heap.size, 1, none⟩ = some (.string key) ∧ W.cell? ⟨w.heap.size, 2, none⟩ = some (.string val) ∧ W.cell? ⟨w.heap.size, 3, none⟩ = some (.slice A n c)) (ds := []) #[false, false, false, false, false, false, false, false, false, false, false, false, false, false] (by kernel_rfl) (by rfl) (by rfl) (cells4 BX.out) (fun hS => ?_)
    refine Last.take_ (i := 0) (N := some 3) (v := .agg #[.int .i64 op, .string key, .string val, .slice A n c]) #[true, false, false, false, false, false, false, false, false, false, false, false, false, false] (by simp only [List.getElem?_toArray, List.getElem?_cons_zero]; rfl) rfl (by kernel_rfl) (by exact fun _ _ _ h => h) (Or.inl ⟨by rfl, fun W hW => by first | rfl | (try dsimp only at hW); go_simp⟩) hS rfl ?_
    simp only [Act.put, List.setIfInBounds_toArray, List.set_cons_zero, List.set_cons_succ]
    refine Last.one_ (i := 1) (N := some 4) #[true, true, false, false, false, false, false, false, false, false, false, false, false, false] (by simp only [List.getElem?_toArray, List.getElem?_cons_zero, List.getElem?_cons_succ]; rfl) rfl (by kernel_rfl) (by decide) (fun K hK => ?_)
    refine Last.goes_ Try.func13 (by kernel_rfl) rfl #[.agg #[.int .i64 op, .string key, .string val, .slice A n c]] (by rfl) rfl rfl (by simp [Act.eval]) ?_
    refine (light_calls (VX.out.ext0 (Ext.refl _ _).drew) HOK.out).mono ?_
    rw [HB.out]
    rintro e w1 ⟨rfl, he⟩
    have E1 := Lib.hid ((Ext.refl Non w0).drew.trans0 he)
    clear he
    refine ⟨_, rfl, hK.out _ _ (cells4 (E1.out.obj BX.out (fun h => h))) (fun hS => ?_)⟩
    try simp only [Act.put, List.setIfInBounds_toArray, List.set_cons_zero, List.set_cons_succ]
    refine Last.take_ (i := 2) (N := some 5) (v := .bool true) #[true, true, true, false, false, false, false, false, false, false, false, false, false, false] (by simp only [List.getElem?_toArray, List.getElem?_cons_zero, List.getElem?_cons_succ]; rfl) rfl (by kernel_rfl) (by exact fun _ _ _ h => h) (Or.inl ⟨by rfl, fun W hW => by first | rfl | (try dsimp only at hW); go_simp⟩) hS rfl ?_
    simp only [Act.put, List.setIfInBounds_toArray, List.set_cons_zero, List.set_cons_succ]
    refine Last.take_ (i := 3) (N := some 6) (v := .bool true) #[true, true, true, true, false, false, false, false, false, false, false, false, false, false] (by simp only [List.getElem?_toArray, List.getElem?_cons_zero, List.getElem?_cons_succ]; rfl) rfl (by kernel_rfl) (by exact fun _ _ _ h => h) (Or.inl ⟨by rfl, fun W hW => by first | rfl | (try dsimp only at hW); go_simp⟩) hS rfl ?_
    simp only [Act.put, List.setIfInBounds_toArray, List.set_cons_zero, List.set_cons_succ]
    refine Last.take_ (i := 4) (N := some 7) (v := undef) #[true, true, true, true, true, false, false, false, false, false, false, false, false, false] (by simp only [List.getElem?_toArray, List.getElem?_cons_zero, List.getElem?_cons_succ]; rfl) rfl (by kernel_rfl) (by exact fun _ _ _ h => h) (Or.inr ⟨by rfl, rfl⟩) hS rfl ?_
    simp only [Act.put, List.setIfInBounds_toArray, List.set_cons_zero, List.set_cons_succ]
    refine Last.take_ (i := 6) (N := some 9) (v := undef) #[true, true, true, true, true, false, true, false, false, false, false, false, false, false] (by simp only [List.getElem?_toArray, List.getElem?_cons_zero, List.getElem?_cons_succ]; rfl) rfl (by kernel_rfl) (by exact fun _ _ _ h => h) (Or.inr ⟨by rfl, rfl⟩) hS rfl ?_
    simp only [Act.put, List.setIfInBounds_toArray, List.set_cons_zero, List.set_cons_succ]
    refine Last.take_ (i := 5) (N := some 8) (v := undef) #[true, true, true, true, true, true, true, false, false, false, false, false, false, false] (by simp only [List.getElem?_toArray, List.getElem?_cons_zero, List.getElem?_cons_succ]; rfl) rfl (by kernel_rfl) (by exact fun _ _ _ h => h) (Or.inr ⟨by rfl, rfl⟩) hS rfl ?_
    simp only [Act.put, List.setIfInBounds_toArray, List.set_cons_zero, List.set_cons_succ]
    refine Last.take_ (i := 7) (N := some 10) (v := undef) #[true, true, true, true, true, true, true, true, false, false, false, false, false, false] (by simp only [List.getElem?_toArray, List.getElem?_cons_zero, List.getElem?_cons_succ]; rfl) rfl (by kernel_rfl) (by exact fun _ _ _ h => h) (Or.inr ⟨by rfl, rfl⟩) hS rfl ?_
    simp only [Act.put, List.setIfInBounds_toArray, List.set_cons_zero, List.set_cons_succ]
    refine Last.take_ (i := 8) (N := some 11) (v := undef) #[true, true, true, true, true, true, true, true, true, false, false, false, false, false] (by simp only [List.getElem?_toArray, List.getElem?_cons_zero, List.getElem?_cons_succ]; rfl) rfl (by kernel_rfl) (by exact fun _ _ _ h => h) (Or.inr ⟨by rfl, rfl⟩) hS rfl ?_
    simp only [Act.put, List.setIfInBounds_toArray, List.set_cons_zero, List.set_cons_succ]
    refine Last.take_ (i := 9) (N := some 12) (v := .bool true) #[true, true, true, true, true, true, true, true, true, true, false, false, false, false] (by simp only [List.getElem?_toArray, List.getElem?_cons_zero, List.getElem?_cons_succ]; rfl) rfl (by kernel_rfl) (by exact fun _ _ _ h => h) (Or.inl ⟨by rfl, fun W hW => by first | rfl | (try dsimp only at hW); go_simp⟩) hS rfl ?_
    simp only [Act.put, List.setIfInBounds_toArray, List.set_cons_zero, List.set_cons_succ]
    refine Last.take_ (i := 10) (N := some 13) (v := .bool true) #[true, true, true, true, true, true, true, true, true, true, true, false, false, false] (by simp only [List.getElem?_toArray, List.getElem?_cons_zero, List.getElem?_cons_succ]; rfl) rfl (by kernel_rfl) (by exact fun _ _ _ h => h) (Or.inl ⟨by rfl, fun W hW => by first | rfl | (try dsimp only at hW); go_simp⟩) hS rfl ?_
    simp only [Act.put, List.setIfInBounds_toArray, List.set_cons_zero, List.set_cons_succ]
    refine Last.one_ (i := 11) (N := some 14) #[true, true, true, true, true, true, true, true, true, true, true, true, false, false] (by simp only [List.getElem?_toArray, List.getElem?_cons_zero, List.getElem?_cons_succ]; rfl) rfl (by kernel_rfl) (by decide) (fun K hK => ?_)
    refine Last.goes_ Try.func16 (by kernel_rfl) rfl #[] (by rfl) rfl rfl (by simp [Act.eval]) ?_
    refine (awake_calls _).mono ?_
    rintro e w4 ⟨rfl, he⟩
    have E4 := Lib.hid (E1.out.trans0 he)
    clear he
    refine ⟨_, rfl, hK.out _ _ (cells4 (E4.out.obj BX.out (fun h => h))) (fun hS => ?_)⟩
    try simp only [Act.put, List.setIfInBounds_toArray, List.set_cons_zero, List.set_cons_succ]
    refine Last.take_ (i := 12) (N := some 15) (v := .bool true) #[true, true, true, true, true, true, true, true, true, true, true, true, true, false] (by simp only [List.getElem?_toArray, List.getElem?_cons_zero, List.getElem?_cons_succ]; rfl) rfl (by kernel_rfl) (by exact fun _ _ _ h => h) (Or.inl ⟨by rfl, fun W hW => by first | rfl | (try dsimp only at hW); go_simp⟩) hS rfl ?_
    simp only [Act.put, List.setIfInBounds_toArray, List.set_cons_zero, List.set_cons_succ]
    refine Last.take_ (i := 13) (N := some 2) (v := .bool true) #[true, true, true, true, true, true, true, true, true, true, true, true, true, true] (by simp only [List.getElem?_toArray, List.getElem?_cons_zero, List.getElem?_cons_succ]; rfl) rfl (by kernel_rfl) (by exact fun _ _ _ h => h) (Or.inl ⟨by rfl, fun W hW => by first | rfl | (try dsimp only at hW); go_simp⟩) hS rfl ?_
    simp only [Act.put, List.setIfInBounds_toArray, List.set_cons_zero, List.set_cons_succ]
    refine Last.done_ (by kernel_rfl) ?_
    go_wp2_with fail
    go_ret
    exact ⟨rfl, E0.out.trans0 E4.out⟩
  | true =>
    have HLO := Lib.hid (HLO.out rfl)
    refine Last.start_ (S := fun W => W.cell? ⟨w.heap.size, 0, none⟩ = some (.int .i64 op) ∧ W.cell? ⟨w.heap.size, 1, none⟩ = some (.string key) ∧ W.cell? ⟨w.heap.size, 2, none⟩ = some (.string val) ∧ W.cell? ⟨w.heap.size, 3, none⟩ = some (.slice A n c)) (ds := []) #[false, false, false, false, false, false, false, false, false, false, false, false, false, false] (by kernel_rfl) (by rfl) (by rfl) (cells4 BX.out) (fun hS => ?_)
    refine Last.take_ (i := 0) (N := some 3) (v := .agg #[.int .i64 op, .string key, .string val, .slice A n c]) #[true, false, false, false, false, false, false, false, false, false, false, false, false, false] (by simp only [List.getElem?_toArray, List.getElem?_cons_zero]; rfl) rfl (by kernel_rfl) (by exact fun _ _ _ h => h) (Or.inl ⟨by rfl, fun W hW => by first | rfl | (try dsimp only at hW); go_simp⟩) hS rfl ?_
    simp only [Act.put, List.setIfInBounds_toArray, List.set_cons_zero, List.set_cons_succ]
    refine Last.one_ (i := 1) (N := some 4) #[true, true, false, false, false, false, false, false, false, false, false, false, false, false] (by simp only [List.getElem?_toArray, List.getElem?_cons_zero, List.getElem?_cons_succ]; rfl) rfl (by kernel_rfl) (by decide) (fun K hK => ?_)
    refine Last.goes_ Try.func13 (by kernel_rfl) rfl #[.agg #[.int .i64 op, .string key, .string val, .slice A n c]] (by rfl) rfl rfl (by simp [Act.eval]) ?_
    refine (light_calls (VX.out.ext0 (Ext.refl _ _).drew) HOK.out).mono ?_
    rw [HB.out]
    rintro e w1 ⟨rfl, he⟩
    have E1 := Lib.hid ((Ext.refl Non w0).drew.trans0 he)
    clear he
    refine ⟨_, rfl, hK.out _ _ (cells4 (E1.out.obj BX.out (fun h => h))) (fun hS => ?_)⟩
    try simp only [Act.put, List.setIfInBounds_toArray, List.set_cons_zero, List.set_cons_succ]
    refine Last.take_ (i := 2) (N := some 5) (v := .bool false) #[true, true, true, false, false, false, false, false, false, false, false, false, false, false] (by simp only [List.getElem?_toArray, List.getElem?_cons_zero, List.getElem?_cons_succ]; rfl) rfl (by kernel_rfl) (by exact fun _ _ _ h => h) (Or.inl ⟨by rfl, fun W hW => by first | rfl | (try dsimp only at hW); go_simp⟩) hS rfl ?_
    simp only [Act.put, List.setIfInBounds_toArray, List.set_cons_zero, List.set_cons_succ]
    refine Last.take_ (i := 3) (N := some 6) (v := .bool false) #[true, true, true, true, false, false, false, false, false, false, false, false, false, false] (by simp only [List.getElem?_toArray, List.getElem?_cons_zero, List.getElem?_cons_succ]; rfl) rfl (by kernel_rfl) (by exact fun _ _ _ h => h) (Or.inl ⟨by rfl, fun W hW => by first | rfl | (try dsimp only at hW); go_simp⟩) hS rfl ?_
    simp only [Act.put, List.setIfInBounds_toArray, List.set_cons_zero, List.set_cons_succ]
    refine Last.take_ (i := 4) (N := some 7) (v := .agg #[.int .i64 op, .string key, .string val, .slice A n c]) #[true, true, true, true, true, false, false, false, false, false, false, false, false, false] (by simp only [List.getElem?_toArray, List.getElem?_cons_zero, List.getElem?_cons_succ]; rfl) rfl (by kernel_rfl) (by exact fun _ _ _ h => h) (Or.inl ⟨by rfl, fun W hW => by first | rfl | (try dsimp only at hW); go_simp⟩) hS rfl ?_
    simp only [Act.put, List.setIfInBounds_toArray, List.set_cons_zero, List.set_cons_succ]
    refine Last.take_ (i := 6) (N := some 9) (v := .agg #[.int .i64 op, .string key, .string val, .slice A n c]) #[true, true, true, true, true, false, true, false, false, false, false, false, false, false] (by simp only [List.getElem?_toArray, List.getElem?_cons_zero, List.getElem?_cons_succ]; rfl) rfl (by kernel_rfl) (by exact fun _ _ _ h => h) (Or.inl ⟨by rfl, fun W hW => by first | rfl | (try dsimp only at hW); go_simp⟩) hS rfl ?_
    simp only [Act.put, List.setIfInBounds_toArray, List.set_cons_zero, List.set_cons_succ]
    refine Last.one_ (i := 5) (N := some 8) #[true, true, true, true, true, true, true, false, false, false, false, false, false, false] (by simp only [List.getElem?_toArray, List.getElem?_cons_zero, List.getElem?_cons_succ]; rfl) rfl (by kernel_rfl) (by decide) (fun K hK => ?_)
    refine Last.goes_ Try.func14 (by kernel_rfl) rfl #[.agg #[.int .i64 op, .string key, .string val, .slice A n c]] (by rfl) rfl rfl (by simp [Act.eval]) ?_
    refine (Check_calls (VX.out.ext0 E1.out) HOK.out).mono ?_
    rintro e w2 ⟨rfl, he⟩
    have E2 := Lib.hid (E1.out.trans0 he)
    clear he
    refine ⟨_, rfl, hK.out _ _ (cells4 (E2.out.obj BX.out (fun h => h))) (fun hS => ?_)⟩
    try simp only [Act.put, List.setIfInBounds_toArray, List.set_cons_zero, List.set_cons_succ]
    refine Last.one_ (i := 7) (N := some 10) #[true, true, true, true, true, true, true, true, false, false, false, false, false, false] (by simp only [List.getElem?_toArray, List.getElem?_cons_zero, List.getElem?_cons_succ]; rfl) rfl (by kernel_rfl) (by decide) (fun K hK => ?_)
    refine Last.goes_ Try.func15 (by kernel_rfl) rfl #[.agg #[.int .i64 op, .string key, .string val, .slice A n c]] (by rfl) rfl rfl (by simp [Act.eval]) ?_
    refine (RCheck_calls (VX.out.ext0 E2.out) HLO.out).mono ?_
    rintro e w3 ⟨rfl, he⟩
    have E3 := Lib.hid (E2.out.trans0 he)
    clear he
    refine ⟨_, rfl, hK.out _ _ (cells4 (E3.out.obj BX.out (fun h => h))) (fun hS => ?_)⟩
    try simp only [Act.put, List.setIfInBounds_toArray, List.set_cons_zero, List.set_cons_succ]
    refine Last.take_ (i := 8) (N := some 11) (v := .bool true) #[true, true, true, true, true, true, true, true, true, false, false, false, false, false] (by simp only [List.getElem?_toArray, List.getElem?_cons_zero, List.getElem?_cons_succ]; rfl) rfl (by kernel_rfl) (by exact fun _ _ _ h => h) (Or.inl ⟨by rfl, fun W hW => by first | rfl | (try dsimp only at hW); go_simp⟩) hS rfl ?_
    simp only [Act.put, List.setIfInBounds_toArray, List.set_cons_zero, List.set_cons_succ]
    refine Last.take_ (i := 9) (N := some 12) (v := .bool true) #[true, true, true, true, true, true, true, true, true, true, false, false, false, false] (by simp only [List.getElem?_toArray, List.getElem?_cons_zero, List.getElem?_cons_succ]; rfl) rfl (by kernel_rfl) (by exact fun _ _ _ h => h) (Or.inl ⟨by rfl, fun W hW => by first | rfl | (try dsimp only at hW); go_simp⟩) hS rfl ?_
    simp only [Act.put, List.setIfInBounds_toArray, List.set_cons_zero, List.set_cons_succ]
    refine Last.take_ (i := 10) (N := some 13) (v := .bool true) #[true, true, true, true, true, true, true, true, true, true, true, false, false, false] (by simp only [List.getElem?_toArray, List.getElem?_cons_zero, List.getElem?_cons_succ]; rfl) rfl (by kernel_rfl) (by exact fun _ _ _ h => h) (Or.inl ⟨by rfl, fun W hW => by first | rfl | (try dsimp only at hW); go_simp⟩) hS rfl ?_
    simp only [Act.put, List.setIfInBounds_toArray, List.set_cons_zero, List.set_cons_succ]
    refine Last.one_ (i := 11) (N := some 14) #[true, true, true, true, true, true, true, true, true, true, true, true, false, false] (by simp only [List.getElem?_toArray, List.getElem?_cons_zero, List.getElem?_cons_succ]; rfl) rfl (by kernel_rfl) (by decide) (fun K hK => ?_)
    refine Last.goes_ Try.func16 (by kernel_rfl) rfl #[] (by rfl) rfl rfl (by simp [Act.eval]) ?_
    refine (awake_calls _).mono ?_
    rintro e w4 ⟨rfl, he⟩
    have E4 := Lib.hid (E3.out.trans0 he)
    clear he
    refine ⟨_, rfl, hK.out _ _ (cells4 (E4.out.obj BX.out (fun h => h))) (fun hS => ?_)⟩
    try simp only [Act.put, List.setIfInBounds_toArray, List.set_cons_zero, List.set_cons_succ]
    refine Last.take_ (i := 12) (N := some 15) (v := .bool true) #[true, true, true, true, true, true, true, true, true, true, true, true, true, false] (by simp only [List.getElem?_toArray, List.getElem?_cons_zero, List.getElem?_cons_succ]; rfl) rfl (by kernel_rfl) (by exact fun _ _ _ h => h) (Or.inl ⟨by rfl, fun W hW => by first | rfl | (try dsimp only at hW); go_simp⟩) hS rfl ?_
    simp only [Act.put, List.setIfInBounds_toArray, List.set_cons_zero, List.set_cons_succ]
    refine Last.take_ (i := 13) (N := some 2) (v := .bool true) #[true, true, true, true, true, true, true, true, true, true, true, true, true, true] (by simp only [List.getElem?_toArray, List.getElem?_cons_zero, List.getElem?_cons_succ]; rfl) rfl (by kernel_rfl) (by exact fun _ _ _ h => h) (Or.inl ⟨by rfl, fun W hW => by first | rfl | (try dsimp only at hW); go_simp⟩) hS rfl ?_
    simp only [Act.put, List.setIfInBounds_toArray, List.set_cons_zero, List.set_cons_succ]
    refine Last.done_ (by kernel_rfl) ?_
    go_wp2_with fail
    go_ret
    exact ⟨rfl, E0.out.trans0 E4.out⟩
end Go.Proofs.Ytooafilbmjnfmaa
