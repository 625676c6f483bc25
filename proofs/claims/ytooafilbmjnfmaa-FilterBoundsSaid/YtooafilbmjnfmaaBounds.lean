/- FilterBounds: the law holds of every filter and number. -/
import Derived.Test.YtooafilbmjnfmaaK0
import Derived.Test.YtooafilbmjnfmaaW1
import Derived.Test.YtooafilbmjnfmaaL
namespace Go.Proofs.Ytooafilbmjnfmaa
open Go.RowKit Go.TM
theorem bareE : bare ⟨#[]⟩ ⟨#[]⟩ = true := by kernel_rfl
theorem mayW6 (l : Nat) : mayW 6 ⟨#[]⟩ ⟨#[]⟩ l = true := by simp [mayW, bareE]
theorem mayW4 : mayW 4 ⟨#[]⟩ ⟨#[]⟩ 1 = true := by simp [mayW, bareE]
theorem mayNo : mayF noF = true := by kernel_rfl
theorem chk_leaf {d c : Int} (hd : d ≤ 6) : chk 1 noF d c = if 24 ≤ c then (51, c) else (0, c + 1) := by
  by_cases h : 24 ≤ c
  · rw [chk_deep (.inr h), if_pos h]
  · rw [chk_go (f := noF) (by omega) mayNo, if_neg h]
    rfl
theorem fold_leaf {d : Int} (hd : d ≤ 6) : ∀ (j : Nat) (c : Int), c ≤ 24 → foldE (fun k c => chk 1 k d c) (List.replicate j noF) c = if c + (j : Int) ≤ 24 then (0, c + (j : Int)) else (51, 24)
  | 0, c, h => by rw [if_pos (by simpa using h)]; simp [foldE]
  | j + 1, c, h => by
    rw [List.replicate_succ]
    by_cases h1 : 24 ≤ c
    · rw [foldE_no (by show (chk 1 noF d c).1 ≠ 0; rw [chk_leaf hd, if_pos h1]; simp)]
      show chk 1 noF d c = _
      rw [chk_leaf hd, if_pos h1, if_neg (by omega), show c = 24 by omega]
    · have e1 : (fun k c => chk 1 k d c) noF c = (0, c + 1) := by show chk 1 noF d c = _; rw [chk_leaf hd, if_neg h1]
      rw [foldE_yes e1, fold_leaf hd j (c + 1) (by omega)]
      by_cases h2 : c + ((j + 1 : Nat) : Int) ≤ 24
      · rw [if_pos h2, if_pos (by omega)]
        congr 1
        omega
      · rw [if_neg h2, if_neg (by omega)]
def wideF (j : Nat) : Flt := .mk 6 ⟨#[]⟩ ⟨#[]⟩ (List.replicate j noF)
theorem wide_check (j : Nat) : checkE 2 (wideF j) = if (j : Int) < 24 then 0 else 51 := by
  unfold checkE
  rw [chk_go (f := wideF j) (by omega) (mayW6 _)]
  show (foldE (fun k c => chk 1 k 2 c) (List.replicate j noF) 1).1 = _
  rw [fold_leaf (by omega) j 1 (by omega)]
  by_cases h : (j : Int) < 24
  · rw [if_pos h, if_pos (by omega)]
  · rw [if_neg h, if_neg (by omega)]
def notF : Nat → Flt → Flt
  | 0, f => f
  | j + 1, f => .mk 4 ⟨#[]⟩ ⟨#[]⟩ [notF j f]
theorem chk_not {m j : Nat} {f : Flt} {d c : Int} (hd : d ≤ 6) (hc : c < 24) (h : (chk m (notF j f) (d + 1) (c + 1)).1 = 51) : (chk (m + 1) (notF (j + 1) f) d c).1 = 51 := by
  rw [chk_go (f := notF (j + 1) f) (by omega) mayW4]
  show (foldE (fun k c => chk m k (d + 1) c) [notF j f] (c + 1)).1 = 51
  rw [foldE_no (by show (chk m (notF j f) (d + 1) (c + 1)).1 ≠ 0; rw [h]; decide)]
  exact h
theorem not_check (m : Nat) (f : Flt) : checkE (m + 7) (notF 6 f) = 51 := by
  unfold checkE
  refine chk_not (by omega) (by omega) (chk_not (by omega) (by omega) (chk_not (by omega) (by omega) (chk_not (by omega) (by omega) (chk_not (by omega) (by omega) (chk_not (by omega) (by omega) ?_)))))
  show (chk (m + 1) f _ _).1 = 51
  rw [chk_deep (.inl (by omega))]
theorem emp_len : (⟨#[]⟩ : ByteArray).size ≤ maxLen := Nat.zero_le _
theorem wide_ok (j : Nat) (hj : j ≤ 100) : okF 2 (wideF j) := by
  refine ⟨⟨by show (-9223372036854775808 : Int) ≤ 6; decide, by show (6 : Int) ≤ _; decide⟩, emp_len, emp_len, ?_, fun k hk => ?_⟩
  · show (List.replicate j noF).length ≤ maxLen
    rw [List.length_replicate]
    simp only [maxLen]
    omega
  · have h : k = noF := List.eq_of_mem_replicate hk
    subst h
    exact ⟨⟨by decide, by decide⟩, emp_len, emp_len, Nat.zero_le _, fun k hk => by cases hk⟩
theorem not_ok {n : Nat} {f : Flt} (h : okF n f) : ∀ j, okF (n + j) (notF j f)
  | 0 => h
  | j + 1 => ⟨⟨by show (-9223372036854775808 : Int) ≤ 4; decide, by show (4 : Int) ≤ _; decide⟩, emp_len, emp_len, by show 1 ≤ maxLen; decide, fun k hk => by
      have hk' : k ∈ [notF j f] := hk
      rw [List.mem_singleton] at hk'
      subst hk'
      exact not_ok h j⟩
theorem thirty (n : Int) : ∃ k : Nat, k < 30 ∧ (IntKind.u64.wrap n).tmod 30 = (k : Int) := by
  have h0 : 0 ≤ IntKind.u64.wrap n := by rw [IntKind.wrap_u64]; omega
  refine ⟨((IntKind.u64.wrap n) % 30).toNat, by omega, ?_⟩
  rw [Int.tmod_eq_emod_of_nonneg h0]
  omega
set_option maxRecDepth 100000 in
set_option maxHeartbeats 16000000 in
theorem bounds_calls {n : Nat} {f : Flt} {w : World} {ok : Nat → Prop} {x : Value} (hx : FV n w ok x f) (hok : okF (n + 1) f) (num : Int) : Calls Try.prog 6 #[x, .int .i64 num] w fun e w' => e = .returned (.bool true) ∧ Ext Non w w' := by
  obtain ⟨b, hb⟩ : ∃ b, lightF (n + 1) f = b := ⟨_, rfl⟩
  obtain ⟨z, hz⟩ : ∃ z, checkE (n + 1) f = z := ⟨_, rfl⟩
  have HZ := Lib.hid hz
  obtain ⟨N, hN, hNN⟩ := thirty num
  have HNN := Lib.hid hNN
  have HX := Lib.hid hx
  have HOK := Lib.hid hok
  have HB := Lib.hid hb
  clear hb hok hz
  obtain ⟨v, rfl, hr⟩ := hx
  have HF : ∃ F, F = f := ⟨_, rfl⟩
  obtain ⟨F, hF⟩ := HF
  obtain ⟨op, key, val, kids⟩ := f
  obtain ⟨A, m, c, rfl, hlen⟩ := rd_abs hr
  have HF := Lib.hid hF
  clear hr hlen hF
  dsimp only [Flt.op, Flt.key, Flt.val] at HX ⊢
  go_enter Try.func6, Try.ntmps6
  go_wp2_with fail
  have E0 : Hid (Ext Non w (w.alloc (.cells #[.int .i64 op, .string key, .string val, .slice A m c] 24))) := (Ext.refl _ _).alloc _
  have BX : Hid ((w.alloc (.cells #[.int .i64 op, .string key, .string val, .slice A m c] 24)).heap[w.heap.size]? = some (.cells #[.int .i64 op, .string key, .string val, .slice A m c] 24)) := blk_new _ _
  obtain ⟨w0, hw0⟩ : ∃ w0, w.alloc (.cells #[.int .i64 op, .string key, .string val, .slice A m c] 24) = w0 := ⟨_, rfl⟩
  rw [hw0] at E0 BX ⊢
  have VX := Lib.hid (HX.out.ext0 E0.out)
  clear hw0
  refine (light_calls VX.out HOK.out).mono ?_
  rw [HB.out]
  rintro e w1 ⟨rfl, he⟩
  have E1 := Lib.hid (E0.out.trans0 he)
  have V1 := Lib.hid (VX.out.ext0 he)
  have B1 := Lib.hid (he.obj BX.out (fun h => h))
  have y0 : w1.cell? ⟨w.heap.size, 0, none⟩ = some (.int .i64 op) := blk_cell B1.out 0
  have y1 : w1.cell? ⟨w.heap.size, 1, none⟩ = some (.string key) := blk_cell B1.out 1
  have y2 : w1.cell? ⟨w.heap.size, 2, none⟩ = some (.string val) := blk_cell B1.out 2
  have y3 : w1.cell? ⟨w.heap.size, 3, none⟩ = some (.slice A m c) := blk_cell B1.out 3
  clear he
  cases b with
  | false =>
    clear hNN
    go_wp2_with fail
    refine (awake_calls _).mono ?_
    rintro e wz ⟨rfl, he⟩
    have EZ := Lib.hid (E1.out.trans0 he)
    clear he
    go_wp2_with fail
    go_ret
    exact ⟨rfl, EZ.out⟩
  | true =>
    go_wp2_with fail
    refine (Check_calls V1.out HOK.out).mono ?_
    rw [HZ.out]
    rintro e w2 ⟨rfl, he⟩
    have E2 := Lib.hid (E1.out.trans0 he)
    have V2 := Lib.hid (V1.out.ext0 he)
    have B2 := Lib.hid (he.obj B1.out (fun h => h))
    clear he y0 y1 y2 y3
    by_cases hz0 : z = 0
    case neg =>
      go_wp2_with fail
      refine (awake_calls _).mono ?_
      rintro e wz ⟨rfl, he⟩
      have EZ := Lib.hid (E2.out.trans0 he)
      clear he
      go_wp2_with fail
      go_ret
      exact ⟨rfl, EZ.out⟩
    subst hz0
    go_wp2_with fail
    clear hNN
    refine (kind_calls _ 6 none 0 0).mono ?_
    rintro e w3 ⟨rfl, he⟩
    have E3 := Lib.hid (E2.out.trans0 he)
    have V3 := Lib.hid (V2.out.ext0 he)
    have B3 := Lib.hid (he.obj B2.out (fun h => h))
    clear he
    obtain ⟨q, hq⟩ : ∃ q, w3.heap.size = q := ⟨_, rfl⟩
    obtain ⟨w4, hw4⟩ : ∃ w4, w3.alloc (.cells #[.int .i64 6, .string ⟨#[]⟩, .string ⟨#[]⟩, .slice none 0 0] 24) = w4 := ⟨_, rfl⟩
    have hB4 : w4.heap[q]? = some (.cells #[.int .i64 6, .string ⟨#[]⟩, .string ⟨#[]⟩, .slice none 0 0] 24) := by rw [← hw4, ← hq]; exact blk_new _ _
    have hE4 : Ext Non w3 w4 := by rw [← hw4]; exact (Ext.refl _ _).alloc _
    have E4 := Lib.hid (E3.out.trans0 hE4)
    have V4 := Lib.hid (V3.out.ext0 hE4)
    have B4 := Lib.hid hB4
    have X4 := Lib.hid (hE4.obj B3.out (fun h => h))
    have hqz : w.heap.size < q := by rw [← hq]; exact blk_lt B3.out
    have hs4 : w4.heap.size = q + 1 := by rw [← hw4, ← hq]; simp
    have HS4 := Lib.hid hs4
    clear hs4
    have HW4 := Lib.hid hw4
    have HQ := Lib.hid hq
    clear hB4 hE4 hw4 hq
    go_wp2_with fail
    rw [HQ.out, HW4.out]
    go_loopw [22] (fun i wr => ∃ (j : Nat) (A3 : Option Addr) (n3 c3 : Nat), i = .int .i64 (j : Int) ∧ j ≤ N ∧ Hid (wr.heap[q]? = some (.cells #[.int .i64 6, .string ⟨#[]⟩, .string ⟨#[]⟩, .slice A3 n3 c3] 24)) ∧ Hid (Own (fltK 1) 24 wr (q + 1) (fun j => q < j) (.slice A3 n3 c3) (List.replicate j noF)) ∧ Hid (Ext (Only q) w4 wr)) (fun i _ => N - (intOf i).toNat)
    case atStart => exact ⟨0, none, 0, 0, rfl, by omega, B4, Own.nil _ _ _ _ _, Ext.refl _ _⟩
    case round =>
      obtain ⟨j, A3, n3, c3, rfl, hj, BJ, OJ, EJ⟩ := hrel
      have hqlt := blk_lt BJ.out
      by_cases hlt : j < N
      · have HBL := Lib.hid OJ.out.base_le
        have d3 : wr.cell? ⟨q, 3, none⟩ = some (.slice A3 n3 c3) := blk_cell BJ.out 3
        go_wp2_with fail
        refine Last.start_ (S := fun W => W.cell? ⟨q, 3, none⟩ = some (.slice A3 n3 c3)) (ds := [6]) #[false, false, false, false, false, false, false] (by kernel_rfl) (by rfl) (by rfl) d3 (fun hS => ?_)
        refine Last.take_ (i := 0) (N := some 24) (v := .pointer (some ⟨q, 3, none⟩)) #[true, false, false, false, false, false, false] (by simp only [List.getElem?_toArray, List.getElem?_cons_zero]; rfl) rfl (by kernel_rfl) (by exact fun _ _ _ h => h) (Or.inl ⟨by rfl, fun W hW => by first | rfl | (try dsimp only at hW); go_simp⟩) hS rfl ?_
        simp only [Act.put, List.setIfInBounds_toArray, List.set_cons_zero, List.set_cons_succ]
        refine Last.take_ (i := 1) (N := some 25) (v := .slice A3 n3 c3) #[true, true, false, false, false, false, false] (by simp only [List.getElem?_toArray, List.getElem?_cons_zero, List.getElem?_cons_succ]; rfl) rfl (by kernel_rfl) (by exact fun _ _ _ h => h) (Or.inl ⟨by rfl, fun W hW => by first | rfl | (try dsimp only at hW); go_simp⟩) hS rfl ?_
        simp only [Act.put, List.setIfInBounds_toArray, List.set_cons_zero, List.set_cons_succ]
        refine Last.one_ (i := 2) (N := some 26) #[true, true, true, false, false, false, false] (by simp only [List.getElem?_toArray, List.getElem?_cons_zero, List.getElem?_cons_succ]; rfl) rfl (by kernel_rfl) (by decide) (fun K hK => ?_)
        refine Last.goes_ Try.func25 (by kernel_rfl) rfl #[.int .i64 0, .slice none 0 0] (by rfl) rfl rfl (by simp [Act.eval]) ?_
        refine (kind_calls _ 0 none 0 0).mono ?_
        rintro e' w9 ⟨rfl, he⟩
        have X9 : Hid (Ext Non wr w9) := ((Ext.refl Non wr).drew).trans0 he
        have B9 := Lib.hid (X9.out.obj BJ.out (fun h => h))
        have O9 := Lib.hid (OJ.out.ext0 X9.out)
        have z9 := X9.out.size
        clear he
        refine ⟨_, rfl, hK.out _ _ (blk_cell B9.out 3) (fun hS => ?_)⟩
        try simp only [Act.put, List.setIfInBounds_toArray, List.set_cons_zero, List.set_cons_succ]
        refine Last.one_ (i := 3) (N := some 27) #[true, true, true, true, false, false, false] (by simp only [List.getElem?_toArray, List.getElem?_cons_zero, List.getElem?_cons_succ]; rfl) rfl (by kernel_rfl) (by decide) (fun K hK => ?_)
        go_simp
        refine hK.out _ _ (blk_cell (blk_alloc B9.out _) 3) (fun hS => ?_)
        try simp only [Act.put, List.setIfInBounds_toArray, List.set_cons_zero, List.set_cons_succ]
        refine Last.one_ (i := 4) (N := some 28) #[true, true, true, true, true, false, false] (by simp only [List.getElem?_toArray, List.getElem?_cons_zero, List.getElem?_cons_succ]; rfl) rfl (by kernel_rfl) (by decide) (fun K hK => ?_)
        refine step_app (fltK 1) (ok := fun j => q < j) (v := .slice A3 n3 c3) (vx := .slice (some ⟨w9.heap.size, 0, none⟩) 1 1) (xs := List.replicate j noF) (ys := [noF]) (q + 1) (by rfl) _ _ 22 24 _ 64 (by rfl) Try.underlying22 (info24take _) rfl (by rw [fltK_sz]; decide) (by simp [Act.eval]) (by simp [Act.eval]) (O9.out.ext0 ((Ext.refl _ _).alloc _)) ?_ ?_ ?_ ?_ ?_ ?_
        · exact Rd.lit_at (cs := [.int .i64 0, .string ⟨#[]⟩, .string ⟨#[]⟩, .slice none 0 0]) (e := 24) (fr := (0, 0)) (heap_alloc_new w9 _) ⟨.slice none 0 0, rfl, Rd.nil _ _ _⟩ ⟨by omega, fun h => by have := (HBL.out _ h.symm).2; omega⟩
        · intro j hj
          simp at hj
          omega
        · simp; omega
        · simp; omega
        · simp; omega
        intro v' wA hown hext hblk
        obtain ⟨A2, n2, c2, rfl⟩ : ∃ A n c, v' = .slice A n c := by obtain ⟨A2, c2, h2, _, _⟩ := hown.slice; exact ⟨_, _, _, h2⟩
        have EA : Hid (Ext (fun k => some k = (Value.slice A3 n3 c3).ownBlock) w9 wA) := Ext.trans ((Ext.refl _ _).alloc _) hext (fun _ _ e => e)
        have OA : Hid (Own (fltK 1) 24 wA (q + 1) (fun j => q < j) (.slice A2 n2 c2) (List.replicate j noF ++ [noF])) := hown
        have BA := Lib.hid (EA.out.obj B9.out (fun e => by have := (HBL.out _ e.symm).1; omega))
        have g3 : wA.cell? ⟨q, 3, none⟩ = some (.slice A3 n3 c3) := blk_cell BA.out 3
        have gz := blk_frozen BA.out 3
        have hlqA := blk_lt BA.out
        clear hown hext hblk
        refine hK.out _ _ g3 (fun hS => ?_)
        try simp only [Act.put, List.setIfInBounds_toArray, List.set_cons_zero, List.set_cons_succ]
        refine Last.take_ (i := 5) (N := some 29) (v := .pointer (some ⟨q, 3, none⟩)) #[true, true, true, true, true, true, false] (by simp only [List.getElem?_toArray, List.getElem?_cons_zero, List.getElem?_cons_succ]; rfl) rfl (by kernel_rfl) (by exact fun _ _ _ h => h) (Or.inl ⟨by rfl, fun W hW => by first | rfl | (try dsimp only at hW); go_simp⟩) hS rfl ?_
        simp only [Act.put, List.setIfInBounds_toArray, List.set_cons_zero, List.set_cons_succ]
        refine Last.last_ (i := 6) (N := none) #[true, true, true, true, true, true, true] (by simp only [List.getElem?_toArray, List.getElem?_cons_zero, List.getElem?_cons_succ]; rfl) rfl (by kernel_rfl) (by decide) (fun K hK => ?_)
        obtain ⟨wB, hwB⟩ : ∃ wB, wA.setCell ⟨q, 3, none⟩ (.slice A2 n2 c2) = wB := ⟨_, rfl⟩
        have eB : Ext (Only q) wA wB := by rw [← hwB]; exact (Ext.refl (Only q) wA).setCell (p := ⟨q, 3, none⟩) (fun _ => rfl) _
        have bB : wB.heap[q]? = some (.cells #[.int .i64 6, .string ⟨#[]⟩, .string ⟨#[]⟩, .slice A2 n2 c2] 24) := by rw [← hwB]; simpa using blk_set BA.out 3 (.slice A2 n2 c2)
        have HWB := Lib.hid hwB
        have EB := Lib.hid (((EJ.out.trans0 X9.out).trans EA.out (fun i hi e => by have := (HBL.out _ e.symm).1; have := HS4.out; omega)).trans eB (fun i hi e => by have e1 : i = q := e; omega))
        have OB := Lib.hid (OA.out.ext eB (fun k hk _ e => by have e1 : k = q := e; omega))
        have BB := Lib.hid bB
        clear hwB eB bB BA
        go_simp
        rw [HWB.out]
        refine hK.out _ _ ?_
        try simp only [Act.put, List.setIfInBounds_toArray, List.set_cons_zero, List.set_cons_succ]
        refine Last.done_ (by kernel_rfl) ?_
        go_wp2_with fail
        go_roundw
        case rel =>
          refine ⟨j + 1, A2, n2, c2, by go_num, by omega, BB, ?_, EB⟩
          show Own _ _ _ _ _ _ _
          rw [List.replicate_succ']
          exact OB.out
        case measure => simp [intOf]; omega
      · obtain rfl : j = N := by omega
        have XJ := Lib.hid (EJ.out.obj X4.out (fun h => by have h : w.heap.size = q := h; omega))
        have VJ : Hid (FV n wr (fun k => k < w4.heap.size ∧ k ≠ q) (.agg #[.int .i64 op, .string key, .string val, .slice A m c]) F) := by
          show FV n wr _ _ F
          rw [HF.out]
          obtain ⟨v, hv, hr⟩ := HX.out
          refine ⟨v, hv, ?_⟩
          have h1 := hr.bound.ext0 E4.out
          exact (h1.ext EJ.out (fun k hk _ h => by have h : k = q := h; have := hk.2; omega)).mono (fun k hk => ⟨by have := hk.2; have := E4.out.size; omega, by have := hk.2; omega⟩)
        have y0 : wr.cell? ⟨w.heap.size, 0, none⟩ = some (.int .i64 op) := blk_cell XJ.out 0
        have y1 : wr.cell? ⟨w.heap.size, 1, none⟩ = some (.string key) := blk_cell XJ.out 1
        have y2 : wr.cell? ⟨w.heap.size, 2, none⟩ = some (.string val) := blk_cell XJ.out 2
        have y3 : wr.cell? ⟨w.heap.size, 3, none⟩ = some (.slice A m c) := blk_cell XJ.out 3
        obtain ⟨w5, hw5⟩ : ∃ w5, wr.alloc (.cells #[.int .i64 op, .string key, .string val, .slice A m c] 24) = w5 := ⟨_, rfl⟩
        obtain ⟨r, hr⟩ : ∃ r, wr.heap.size = r := ⟨_, rfl⟩
        have hB5 : w5.heap[r]? = some (.cells #[.int .i64 op, .string key, .string val, .slice A m c] 24) := by rw [← hw5, ← hr]; exact blk_new _ _
        have hE5 : Ext Non wr w5 := by rw [← hw5]; exact (Ext.refl _ _).alloc _
        have V5 : Hid (FV n w5 (fun k => k ≠ r) (.agg #[.int .i64 op, .string key, .string val, .slice A m c]) F) := by
          obtain ⟨v, hv, hr2⟩ := VJ.out
          exact ⟨v, hv, (hr2.bound.ext0 hE5).mono (fun k hk => by have := hk.2; omega)⟩
        have B5 := Lib.hid hB5
        have Q5 := Lib.hid (hE5.obj BJ.out (fun h => h))
        have O5 := Lib.hid (OJ.out.bound.ext0 hE5)
        have E5 : Hid (Ext Non w w5) := (E4.out.trans EJ.out (fun i hi h => by have h : i = q := h; omega)).trans0 hE5
        have hrz : q < r := by rw [← hr]; exact hqlt
        have hwr : w.heap.size < r := by omega
        have hsr := Lib.hid hr
        have HW5 := Lib.hid hw5
        clear hB5 hE5 hw5 hr
        go_wp2_with fail
        rw [hsr.out, HW5.out]
        obtain ⟨wo, hwo⟩ : ∃ wo, wo = wr := ⟨_, rfl⟩
        subst hwo
        clear y0 y1 y2 y3
        go_loopw [32] (fun i wr => ∃ (s : Nat) (op' : Int) (key' val' : ByteArray) (A' : Option Addr) (m' c' : Nat), i = .int .i64 (s : Int) ∧ s ≤ 6 ∧ Hid (wr.heap[r]? = some (.cells #[.int .i64 op', .string key', .string val', .slice A' m' c'] 24)) ∧ Hid (FV (n + s) wr (fun k => k ≠ r) (.agg #[.int .i64 op', .string key', .string val', .slice A' m' c']) (notF s F)) ∧ Hid (Ext (Only r) w5 wr)) (fun i _ => 6 - (intOf i).toNat)
        case atStart => exact ⟨0, op, key, val, A, m, c, rfl, by omega, B5, V5, Ext.refl _ _⟩
        case round =>
          obtain ⟨s, op', key', val', A', m', c', rfl, hs, BS, VS, ES⟩ := hrel
          have y0 : wr.cell? ⟨r, 0, none⟩ = some (.int .i64 op') := blk_cell BS.out 0
          have y1 : wr.cell? ⟨r, 1, none⟩ = some (.string key') := blk_cell BS.out 1
          have y2 : wr.cell? ⟨r, 2, none⟩ = some (.string val') := blk_cell BS.out 2
          have y3 : wr.cell? ⟨r, 3, none⟩ = some (.slice A' m' c') := blk_cell BS.out 3
          have hlr := blk_lt BS.out
          by_cases hlt2 : s < 6
          · go_wp2_with fail
            refine (kind_calls _ 4 _ 1 1).mono ?_
            rintro e w6 ⟨rfl, he⟩
            have X6 : Ext Non wr w6 := ((Ext.refl _ _).alloc _).trans0 he
            have hnew := he.obj (blk_new wr (.cells #[.int .i64 op', .string key', .string val', .slice A' m' c'] 24)) (fun h => h)
            have F6 : Hid (Rd (fltK (n + s + 1)) w6 (fun k => k ≠ r) (.slice (some ⟨wr.heap.size, 0, none⟩) 1 1) [notF s F]) := by
              refine Rd.lit_at hnew ?_ (by omega)
              obtain ⟨v, hv, hr2⟩ := VS.out
              refine ⟨v, ?_, hr2.ext0 X6⟩
              simp only [Value.agg.injEq] at hv
              exact congrArg Array.toList hv
            have B6 := Lib.hid (X6.obj BS.out (fun h => h))
            have E6 := Lib.hid (ES.out.trans0 X6)
            have z0 := blk_frozen B6.out 0
            have z1 := blk_frozen B6.out 1
            have z2 := blk_frozen B6.out 2
            have z3 := blk_frozen B6.out 3
            have y0 : w6.cell? ⟨r, 0, none⟩ = some (.int .i64 op') := blk_cell B6.out 0
            have y1 : w6.cell? ⟨r, 1, none⟩ = some (.string key') := blk_cell B6.out 1
            have y2 : w6.cell? ⟨r, 2, none⟩ = some (.string val') := blk_cell B6.out 2
            have y3 : w6.cell? ⟨r, 3, none⟩ = some (.slice A' m' c') := blk_cell B6.out 3
            have hlr6 := blk_lt B6.out
            clear he hnew X6
            obtain ⟨g6, hg6⟩ : ∃ g6, wr.heap.size = g6 := ⟨_, rfl⟩
            rw [hg6] at F6 ⊢
            clear hg6
            go_wp2_with fail
            have EF := ext_set4 w6 r (.int .i64 4) (.string ⟨#[]⟩) (.string ⟨#[]⟩) (.slice (some ⟨g6, 0, none⟩) 1 1)
            go_roundw
            case rel =>
              refine ⟨s + 1, 4, ⟨#[]⟩, ⟨#[]⟩, some ⟨g6, 0, none⟩, 1, 1, by go_num, by omega, row_set4 B6.out _ _ _ _, ⟨_, rfl, ?_⟩, E6.out.trans EF (fun _ _ e => e)⟩
              exact F6.out.ext EF (fun k hk _ e => hk e)
            case measure => simp [intOf]; omega
          · obtain rfl : s = 6 := by omega
            have QS := Lib.hid (ES.out.obj Q5.out (fun h => by have h : q = r := h; omega))
            have OS := Lib.hid (O5.out.ext ES.out (fun k hk _ h => by have h : k = r := h; have := hk.2; have := hsr.out; omega))
            have EZ5 : Hid (Ext Non w wr) := E5.out.trans ES.out (fun i hi h => by have h : i = r := h; omega)
            have u0 : wr.cell? ⟨q, 0, none⟩ = some (.int .i64 6) := blk_cell QS.out 0
            have u1 : wr.cell? ⟨q, 1, none⟩ = some (.string ⟨#[]⟩) := blk_cell QS.out 1
            have u2 : wr.cell? ⟨q, 2, none⟩ = some (.string ⟨#[]⟩) := blk_cell QS.out 2
            have u3 : wr.cell? ⟨q, 3, none⟩ = some (.slice A3 n3 c3) := blk_cell QS.out 3
            go_wp2_with fail
            refine (Check_calls (n := 1) (f := wideF j) ⟨_, rfl, OS.out.rd⟩ (wide_ok j (by omega))).mono ?_
            rw [wide_check]
            rintro e w7 ⟨rfl, he⟩
            have E7 := Lib.hid (EZ5.out.trans0 he)
            have V7 := Lib.hid (VS.out.ext0 he)
            have B7 := Lib.hid (he.obj BS.out (fun h => h))
            have y0 : w7.cell? ⟨r, 0, none⟩ = some (.int .i64 op') := blk_cell B7.out 0
            have y1 : w7.cell? ⟨r, 1, none⟩ = some (.string key') := blk_cell B7.out 1
            have y2 : w7.cell? ⟨r, 2, none⟩ = some (.string val') := blk_cell B7.out 2
            have y3 : w7.cell? ⟨r, 3, none⟩ = some (.slice A' m' c') := blk_cell B7.out 3
            clear he u0 u1 u2 u3
            have HNF : Hid (okF (n + 1 + 6) (notF 6 F)) := not_ok (by rw [HF.out]; exact HOK.out) 6
            by_cases hj24 : (j : Int) < 24
            · rw [if_pos hj24]
              go_wp2_with fail
              refine (Check_calls (n := n + 6) (f := notF 6 F) V7.out (by have h := HNF.out; rw [show n + 1 + 6 = n + 6 + 1 by omega] at h; exact h)).mono ?_
              rw [not_check]
              rintro e w8 ⟨rfl, he⟩
              have E8 := Lib.hid (E7.out.trans0 he)
              clear he
              go_wp2_with fail
              refine (awake_calls _).mono ?_
              rintro e wz ⟨rfl, he⟩
              have EZ := Lib.hid (E8.out.trans0 he)
              clear he
              go_wp2_with fail
              go_ret
              exact ⟨rfl, EZ.out⟩
            · rw [if_neg hj24]
              have HJ := Lib.hid hj24
              go_wp2_with fail
              refine (Check_calls (n := n + 6) (f := notF 6 F) V7.out (by have h := HNF.out; rw [show n + 1 + 6 = n + 6 + 1 by omega] at h; exact h)).mono ?_
              rw [not_check]
              rintro e w8 ⟨rfl, he⟩
              have E8 := Lib.hid (E7.out.trans0 he)
              clear he
              go_wp2_with fail
              refine (awake_calls _).mono ?_
              rintro e wz ⟨rfl, he⟩
              have EZ := Lib.hid (E8.out.trans0 he)
              clear he
              go_wp2_with fail
              go_ret
              refine ⟨?_, EZ.out⟩
              show Ending.returned (.bool (!decide ((j : Int) < 24))) = _
              rw [decide_eq_false (by have := HJ.out; omega)]
              rfl
end Go.Proofs.Ytooafilbmjnfmaa
