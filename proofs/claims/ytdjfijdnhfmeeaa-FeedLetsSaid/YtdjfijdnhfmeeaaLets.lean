/- FeedLets: nobody is let go but by a Note behind which more than 32 events would be kept, and then who is furthest behind: for all lists of calls and calls within the law's bounds. -/
import Derived.Test.YtdjfijdnhfmeeaaS3
import Derived.Test.YtdjfijdnhfmeeaaS4
import Derived.Test.YtdjfijdnhfmeeaaL
namespace Go.Proofs.Ytdjfijdnhfmeeaa
open Go.RowKit Go.TM
set_option maxRecDepth 100000 in
set_option maxHeartbeats 16000000 in
theorem lets_calls {w : World} {n0 n1 : Nat} {x : Value} {k : Dc} {A : Option Addr} {c : Nat} {l : List Dc} (hr0 : Rd (doK n0) w (fun k => k < w.heap.size) (.slice A l.length c) l) (hv0 : ∀ k ∈ l, DcV n0 k) (hlen : l.length * 128 ≤ reachBytes) (hx0 : DV n1 w (fun k => k < w.heap.size) x k) (hk0 : DcV n1 k) :
    Calls Try.prog 7 #[.slice A l.length c, x] w fun e w' => e = .returned (.bool true) ∧ Ext Non w w' := by
  obtain ⟨n, hn⟩ : ∃ n, max n0 n1 = n := ⟨_, rfl⟩
  have hr := dos_up (m := n) (by omega) hr0
  have hv : ∀ k ∈ l, DcV n k := fun k hk => (hv0 k hk).up (by omega)
  have hx := hx0.up (m := n) (by omega)
  have hk := hk0.up (m := n) (by omega)
  clear hr0 hv0 hx0 hk0 hn
  obtain ⟨u, v, rfl, hu, hq⟩ := hx
  obtain ⟨B, bl, bd, rfl, -⟩ := rd_abs hu
  obtain ⟨C, cl, cd, rfl, -⟩ := rd_abs hq
  have hbig : l.length * 128 ≤ 140737488351232 := hlen
  have hlm : (l.length : Int) ≤ 9223372036854775807 := by omega
  have HR := Lib.hid hr
  have HV := Lib.hid hv
  have HU := Lib.hid hu
  have HQ := Lib.hid hq
  have HK := Lib.hid hk
  obtain ⟨q, hq'⟩ : ∃ q, w.heap.size = q := ⟨_, rfl⟩
  obtain ⟨w1, hw1⟩ : ∃ w1, w.alloc (.cells #[.int .i64 k.op, .int .i64 k.step, .int .i64 k.id, .int .i64 k.pos, .int .i64 k.most, .slice B bl bd, .int .i64 k.q.op, .string k.q.key, .string k.q.val, .slice C cl cd] 36) = w1 := ⟨_, rfl⟩
  have E1 : Hid (Ext Non w w1) := by rw [← hw1]; exact (Ext.refl _ _).alloc _
  have BQ : Hid (w1.heap[q]? = some (.cells #[.int .i64 k.op, .int .i64 k.step, .int .i64 k.id, .int .i64 k.pos, .int .i64 k.most, .slice B bl bd, .int .i64 k.q.op, .string k.q.key, .string k.q.val, .slice C cl cd] 36 (0, 0))) := by rw [← hw1, ← hq']; exact blk_new w _
  obtain ⟨t0, t1, t2, t3, t4, t5, t6, t7, t8, t9⟩ := doS BQ.out
  have hql := blk_lt BQ.out
  have hwq : w.heap.size ≤ w1.heap.size := E1.out.size
  have OW : Hid (Own (doK n) 36 (w1.alloc (.cells #[.int .i64 k.op, .int .i64 k.step, .int .i64 k.id, .int .i64 k.pos, .int .i64 k.most, .slice B bl bd, .int .i64 k.q.op, .string k.q.key, .string k.q.val, .slice C cl cd] 36)) w1.heap.size (fun j => j < w.heap.size ∨ w1.heap.size ≤ j) (.slice (some ⟨w1.heap.size, 0, none⟩) 1 1) [k]) := by
    have hk1 : (doK n).K w1 (fun j => j < w.heap.size ∨ w1.heap.size ≤ j) k [.int .i64 k.op, .int .i64 k.step, .int .i64 k.id, .int .i64 k.pos, .int .i64 k.most, .slice B bl bd, .int .i64 k.q.op, .string k.q.key, .string k.q.val, .slice C cl cd] :=
      ⟨_, _, rfl, (HU.out.ext0 E1.out).mono (fun _ h => .inl h), (HQ.out.ext0 E1.out).mono (fun _ h => .inl h)⟩
    exact Own.lit (xs := [k]) (Reps.single hk1) (Nat.le_refl _) (by show 1 ≤ _; decide) (.inr (Nat.le_refl _))
  have EA : Hid (Ext Non w (w1.alloc (.cells #[.int .i64 k.op, .int .i64 k.step, .int .i64 k.id, .int .i64 k.pos, .int .i64 k.most, .slice B bl bd, .int .i64 k.q.op, .string k.q.key, .string k.q.val, .slice C cl cd] 36))) := E1.out.alloc _
  have HFRS : Hid (∀ j, (w1.alloc (.cells #[.int .i64 k.op, .int .i64 k.step, .int .i64 k.id, .int .i64 k.pos, .int .i64 k.most, .slice B bl bd, .int .i64 k.q.op, .string k.q.key, .string k.q.val, .slice C cl cd] 36)).heap.size ≤ j → j < w.heap.size ∨ w1.heap.size ≤ j) := by
    intro j hj
    have h2 : w1.heap.size + 1 ≤ j := by simpa using hj
    exact .inr (by omega)
  clear hr hv hu hq hk
  go_enter Try.func7, Try.ntmps7
  go_wp2_with (first
    | (at_builtin
       refine wpList_app (doK n) (ok := fun j => j < w.heap.size ∨ w1.heap.size ≤ j) (v := .slice (some ⟨w1.heap.size, 0, none⟩) 1 1) (vx := .slice A l.length c) (xs := [k]) (ys := l) w1.heap.size rfl _ _ 25 36 _ 128 rfl Try.underlying25 (info36 n) rfl (by show 0 < 10; decide) (by simp [Act.eval]) (by simp [Act.eval]) OW.out ((HR.out.ext0 EA.out).mono (fun j hj => ⟨.inl hj, fun h => by simp [Value.ownBlock] at h; omega⟩)) HFRS.out (by simp only [List.length_singleton]; omega) (by simp only [List.length_singleton]; omega) (by simp) ?_
       intro v' w' hown hext hblk)
    | fail)
  obtain ⟨A4, n4, c4, rfl⟩ : ∃ A n c, v' = .slice A n c := by obtain ⟨A4, c4, h4, _, _⟩ := hown.slice; exact ⟨_, _, _, h4⟩
  have E4 : Hid (Ext Non w w') := EA.out.trans hext (fun i hi h => by simp [Value.ownBlock] at h; omega)
  have BQ4 : Hid (w'.heap[q]? = some (.cells #[.int .i64 k.op, .int .i64 k.step, .int .i64 k.id, .int .i64 k.pos, .int .i64 k.most, .slice B bl bd, .int .i64 k.q.op, .string k.q.key, .string k.q.val, .slice C cl cd] 36 (0, 0))) := hext.obj (blk_alloc BQ.out _) (fun h => by simp [Value.ownBlock] at h; omega)
  refine (short_calls (n := n) (l := [k] ++ l) hown.rd (fun y hy => by
    rcases List.mem_append.1 hy with h | h
    · rw [List.mem_singleton] at h; rw [h]; exact HK.out
    · exact HV.out y h)).mono ?_
  rintro e w5 ⟨b, rfl, he5, hsh⟩
  have E5 : Hid (Ext Non w w5) := E4.out.trans0 he5
  have BQ5 : Hid (w5.heap[q]? = some _) := he5.obj BQ4.out (fun e => e)
  have HSH := Lib.hid hsh
  have AWW : Hid (∀ w4, Ext Non w w4 → (Calls Try.prog 13 #[] w4 fun e w' => e = .returned (.bool true) ∧ Ext Non w w')) := fun w4 h4 => (awake_calls w4).mono (fun _ _ h => ⟨h.1, h4.trans0 h.2⟩)
  clear hown hext hblk he5 hsh t0 t1 t2 t3 t4 t5 t6 t7 t8 t9
  cases b with
  | false =>
    go_wp2_with fail
    refine (AWW.out _ E5.out).mono ?_
    rintro e w6 ⟨rfl, he⟩
    have E6 := Lib.hid he
    clear he
    go_wp2_with fail
    go_ret
    exact ⟨rfl, E6.out⟩
  | true =>
    have HC : Hid (∀ y ∈ [k] ++ l, EvsS y ∧ LitS n y) := (HSH.out rfl).2
    have HCO : Hid (∀ y ∈ l, CallOk n y) := fun y hy => callOk (HV.out y hy) (HC.out y (List.mem_append.2 (.inr hy))).1 (HC.out y (List.mem_append.2 (.inr hy))).2
    have HCK : Hid (CallOk n k) := callOk HK.out (HC.out k (List.mem_append.2 (.inl (List.mem_singleton.2 rfl)))).1 (HC.out k (List.mem_append.2 (.inl (List.mem_singleton.2 rfl)))).2
    have HGD : Hid (Good n (madeD n l)) := madeD_good HCO.out
    obtain ⟨g, hg⟩ : ∃ g, w5.heap.size = g := ⟨_, rfl⟩
    have hwg : w.heap.size ≤ g := by have := E5.out.size; omega
    have hqg : q < g := by have := blk_lt BQ5.out; omega
    go_wp2_with fail
    refine (made_calls (n := n) (ok := fun j => j ≠ g) (by rw [hg]; exact fun h => h rfl) (fun j hj => by show j ≠ g; omega) (HR.out.ext0 E5.out) HCO.out).mono ?_
    rintro e w6 ⟨rfl, hf6, he6⟩
    rw [hg] at hf6 ⊢
    have F6 := Lib.hid hf6
    have X6 := Lib.hid he6
    have E6 : Hid (Ext Non w w6) := E5.out.trans0 he6
    have hgg : g < w6.heap.size := by
      obtain ⟨se, ss, hb⟩ := hf6.blk
      exact blk_lt hb
    have HFR : Hid (∀ w8, w6.heap.size ≤ w8.heap.size → Fresh (fun j => j ≠ g) w8) := fun w8 h j hj => by show j ≠ g; omega
    have HN0 : Hid ((madeD n l).next ≠ 0) := by have := HGD.out.next; show _ ≠ _; omega
    have HOR : Hid (Ord (madeD n l)) := madeD_ord HCO.out
    clear hf6 he6
    go_wp2_with fail
    refine (List_calls F6.out HN0.out (by have := HGD.out.subs; omega) (fun s hs => (HGD.out.q s hs).2.1)).mono ?_
    rintro e w7 ⟨B7, m7, d7, rfl, hr7, he7⟩
    have R7 := Lib.hid hr7.bound
    have F7 := Lib.hid (F6.out.ext0 he7)
    have X7 := Lib.hid he7
    have hs7 := he7.size
    clear he7 hr7
    go_wp2_with fail
    refine (Kept_calls F7.out HN0.out (by have := HGD.out.evs; omega) (HFR.out _ hs7)).mono ?_
    rintro e w8 ⟨B8, m8, d8, rfl, ho8, he8⟩
    have hm8 : m8 = (madeD n l).evs.length := by
      obtain ⟨_, _, hs, _, _⟩ := ho8.slice
      simp only [Value.slice.injEq] at hs
      exact hs.2.1
    have HM8 := Lib.hid hm8
    have hm32 : m8 ≤ 32 := by have := HGD.out.evs; omega
    have F8 := Lib.hid (F7.out.ext0 he8)
    have R8 := Lib.hid (R7.out.ext0 he8)
    have hs8 := he8.size
    have E8 : Hid (Ext Non w w8) := (E6.out.trans0 X7.out).trans0 he8
    have BQ8 : Hid (w8.heap[q]? = some _) := he8.obj (X7.out.obj (X6.out.obj BQ5.out (fun e => e)) (fun e => e)) (fun e => e)
    obtain ⟨t0, t1, t2, t3, t4, t5, t6, t7, t8, t9⟩ := doS BQ8.out
    have hql8 := blk_lt BQ8.out
    obtain ⟨ev, hev⟩ : ∃ ev, (noteR (madeD n l) (nextP (madeD n l) k) k.evs).1 = ev := ⟨_, rfl⟩
    obtain ⟨nb, hnb⟩ : ∃ nb, (ev == 0) = nb := ⟨_, rfl⟩
    obtain ⟨D2, hD2⟩ : ∃ D2, (noteR (madeD n l) (nextP (madeD n l) k) k.evs).2 = D2 := ⟨_, rfl⟩
    have HEV := Lib.hid hev
    have HD2 := Lib.hid hD2
    have HNB := Lib.hid hnb
    clear he8 ho8 hev hD2 hm8
    go_wp2_with fail
    refine Last.start_ (S := fun W => W.cell? ⟨q, 0, none⟩ = some (.int .i64 k.op) ∧ W.cell? ⟨q, 1, none⟩ = some (.int .i64 k.step) ∧ W.cell? ⟨q, 2, none⟩ = some (.int .i64 k.id) ∧ W.cell? ⟨q, 3, none⟩ = some (.int .i64 k.pos) ∧ W.cell? ⟨q, 4, none⟩ = some (.int .i64 k.most) ∧ W.cell? ⟨q, 5, none⟩ = some (.slice B bl bd) ∧ W.cell? ⟨q, 6, none⟩ = some (.int .i64 k.q.op) ∧ W.cell? ⟨q, 7, none⟩ = some (.string k.q.key) ∧ W.cell? ⟨q, 8, none⟩ = some (.string k.q.val) ∧ W.cell? ⟨q, 9, none⟩ = some (.slice C cl cd)) (ds := []) #[false, false, false, false, false, false, false, false, false] (by kernel_rfl) (by rfl) (by rfl) (doS BQ8.out) (fun hS => ?_)
    refine Last.take_ (i := 0) (N := some 28) (v := .pointer (some ⟨g, 0, none⟩)) #[true, false, false, false, false, false, false, false, false] (by simp only [List.getElem?_toArray, List.getElem?_cons_zero]; rfl) rfl (by kernel_rfl) (by exact fun _ _ _ h => h) (Or.inl ⟨by rfl, fun W hW => by first | rfl | (try dsimp only at hW); go_simp⟩) hS rfl ?_
    simp only [Act.put, List.setIfInBounds_toArray, List.set_cons_zero, List.set_cons_succ]
    refine Last.take_ (i := 1) (N := some 29) (v := .pointer (some ⟨g, 0, none⟩)) #[true, true, false, false, false, false, false, false, false] (by simp only [List.getElem?_toArray, List.getElem?_cons_zero, List.getElem?_cons_succ]; rfl) rfl (by kernel_rfl) (by exact fun _ _ _ h => h) (Or.inl ⟨by rfl, fun W hW => by first | rfl | (try dsimp only at hW); go_simp⟩) hS rfl ?_
    simp only [Act.put, List.setIfInBounds_toArray, List.set_cons_zero, List.set_cons_succ]
    refine Last.take_ (i := 2) (N := some 30) (v := .agg #[.int .i64 k.op, .int .i64 k.step, .int .i64 k.id, .int .i64 k.pos, .int .i64 k.most, .slice B bl bd, .int .i64 k.q.op, .string k.q.key, .string k.q.val, .slice C cl cd]) #[true, true, true, false, false, false, false, false, false] (by simp only [List.getElem?_toArray, List.getElem?_cons_zero, List.getElem?_cons_succ]; rfl) rfl (by kernel_rfl) (by exact fun _ _ _ h => h) (Or.inl ⟨by rfl, fun W hW => by first | rfl | (try dsimp only at hW); go_simp⟩) hS rfl ?_
    simp only [Act.put, List.setIfInBounds_toArray, List.set_cons_zero, List.set_cons_succ]
    refine Last.take_ (i := 4) (N := some 32) (v := .pointer (some ⟨q, 5, none⟩)) #[true, true, true, false, true, false, false, false, false] (by simp only [List.getElem?_toArray, List.getElem?_cons_zero, List.getElem?_cons_succ]; rfl) rfl (by kernel_rfl) (by exact fun _ _ _ h => h) (Or.inl ⟨by rfl, fun W hW => by first | rfl | (try dsimp only at hW); go_simp⟩) hS rfl ?_
    simp only [Act.put, List.setIfInBounds_toArray, List.set_cons_zero, List.set_cons_succ]
    refine Last.take_ (i := 5) (N := some 33) (v := .slice B bl bd) #[true, true, true, false, true, true, false, false, false] (by simp only [List.getElem?_toArray, List.getElem?_cons_zero, List.getElem?_cons_succ]; rfl) rfl (by kernel_rfl) (by exact fun _ _ _ h => h) (Or.inl ⟨by rfl, fun W hW => by first | rfl | (try dsimp only at hW); go_simp⟩) hS rfl ?_
    simp only [Act.put, List.setIfInBounds_toArray, List.set_cons_zero, List.set_cons_succ]
    refine Last.one_ (i := 3) (N := some 31) #[true, true, true, true, true, true, false, false, false] (by simp only [List.getElem?_toArray, List.getElem?_cons_zero, List.getElem?_cons_succ]; rfl) rfl (by kernel_rfl) (by decide) (fun K hK => ?_)
    refine Last.goes_ Try.func17 (by kernel_rfl) rfl #[.pointer (some ⟨g, 0, none⟩), .agg #[.int .i64 k.op, .int .i64 k.step, .int .i64 k.id, .int .i64 k.pos, .int .i64 k.most, .slice B bl bd, .int .i64 k.q.op, .string k.q.key, .string k.q.val, .slice C cl cd]] (by rfl) rfl rfl (by simp [Act.eval]) ?_
    refine (next_calls (k := k) (F8.out.ext0 (Ext.refl Non w8).drew) HGD.out ⟨_, _, rfl, HU.out.ext0 E8.out.drew, HQ.out.ext0 E8.out.drew⟩).mono ?_
    rintro e w9 ⟨rfl, he⟩
    have X9 : Hid (Ext Non w8 w9) := (Ext.refl Non w8).drew.trans0 he
    have BQ9 := Lib.hid (X9.out.obj (g := q) BQ8.out (fun e => e))
    clear he
    refine ⟨_, rfl, ?_⟩
    refine hK.out _ _ (doS BQ9.out) (fun hS => ?_)
    try simp only [Act.put, List.setIfInBounds_toArray, List.set_cons_zero, List.set_cons_succ]
    refine Last.one_ (i := 6) (N := some 34) #[true, true, true, true, true, true, true, false, false] (by simp only [List.getElem?_toArray, List.getElem?_cons_zero, List.getElem?_cons_succ]; rfl) rfl (by kernel_rfl) (by decide) (fun K hK => ?_)
    refine Last.goes_ Try.func16 (by kernel_rfl) rfl #[.pointer (some ⟨g, 0, none⟩), .int .i64 (nextP (madeD n l) k), .slice B bl bd] (by rfl) rfl rfl (by simp [Act.eval]) ?_
    refine (Note_calls (F8.out.ext0 X9.out) (by have := HGD.out.next; omega) (by have := HGD.out.evs; omega) (by have := HGD.out.subs; omega) (HFR.out _ (by have := X9.out.size; omega)) (HU.out.ext0 (E8.out.trans0 X9.out)) (fun h => by have h' : g < w.heap.size := h; omega) (by have := HCK.out.len; omega) (nextP (madeD n l) k)).mono ?_
    rintro e w10 ⟨rfl, hf10, he10⟩
    have F10 := Lib.hid hf10
    have X10 : Hid (Ext (Only g) w8 w10) := X9.out.of0.trans he10 (fun _ _ h => h)
    have BQ10 := Lib.hid (he10.obj BQ9.out (fun h => by have h' : q = g := h; omega))
    clear hf10 he10
    rw [HEV.out]
    refine ⟨_, rfl, ?_⟩
    refine hK.out _ _ (doS BQ10.out) (fun hS => ?_)
    try simp only [Act.put, List.setIfInBounds_toArray, List.set_cons_zero, List.set_cons_succ]
    refine Last.take_ (i := 7) (N := some 35) (v := .bool nb) #[true, true, true, true, true, true, true, true, false] (by simp only [List.getElem?_toArray, List.getElem?_cons_zero, List.getElem?_cons_succ]; rfl) rfl (by kernel_rfl) (by exact fun _ _ _ h => h) (Or.inl ⟨by rfl, fun W hW => by first | rfl | (try dsimp only at hW); go_simp⟩) hS rfl ?_
    simp only [Act.put, List.setIfInBounds_toArray, List.set_cons_zero, List.set_cons_succ]
    refine Last.take_ (i := 8) (N := some 8) (v := .bool nb) #[true, true, true, true, true, true, true, true, true] (by simp only [List.getElem?_toArray, List.getElem?_cons_zero, List.getElem?_cons_succ]; rfl) rfl (by kernel_rfl) (by exact fun _ _ _ h => h) (Or.inl ⟨by rfl, fun W hW => by first | rfl | (try dsimp only at hW); go_simp⟩) hS rfl ?_
    simp only [Act.put, List.setIfInBounds_toArray, List.set_cons_zero, List.set_cons_succ]
    refine Last.done_ (by kernel_rfl) ?_
    have F11 : Hid (Fd n (fun j => j ≠ g) w10 g D2) := by rw [← HD2.out]; exact F10.out
    have HG2 : Hid (Good n D2) := by rw [← HD2.out]; exact note_good HGD.out HCK.out.now
    have HLE : Hid (SubsLe (madeD n l).subs D2.subs) := by rw [← HD2.out]; exact (noteR_le _ _).1
    have HO2 : Hid (Ord D2) := by rw [← HD2.out]; exact HOR.out.le (noteR_le _ _).1 (noteR_le _ _).2.1 (noteR_le _ _).2.2
    have HLET : Hid (∀ (i : Nat) (s s' : Sb), (madeD n l).subs[i]? = some s → s.gone = false → D2.subs[i]? = some s' → s'.gone = true → nb = true ∧ 32 < m8 + k.evs.length ∧ ∀ (j : Nat) (t' : Sb), D2.subs[j]? = some t' → t'.gone = false → s'.at_ ≤ t'.at_) := by
      intro i s s' h1 h2 h3 h4
      rw [← HD2.out] at h3
      obtain ⟨a, b, c⟩ := note_lets h1 h2 h3 h4
      rw [HEV.out] at a
      rw [HD2.out] at c
      exact ⟨by rw [← HNB.out, a]; rfl, by rw [HM8.out]; exact b, c⟩
    have R10 := Lib.hid (R8.out.ext X10.out (fun j hj _ h => by have h' : j = g := h; have := hj.1; omega))
    have hs10 := X10.out.size
    have HKL := Lib.hid HCK.out.len
    have hbl : bl = k.evs.length := by
      obtain ⟨_, _, hs, _, _⟩ := HU.out.slice
      simp only [Value.slice.injEq] at hs
      exact hs.2.1
    have HBL := Lib.hid hbl
    have hbl2 : bl ≤ 32768 := by rw [hbl]; exact HKL.out
    clear hbl hnb t0 t1 t2 t3 t4 t5 t6 t7 t8 t9
    go_wp2_with fail
    refine (List_calls F11.out (by have := HG2.out.next; omega) (by have := HG2.out.subs; omega) (fun s hs => (HG2.out.q s hs).2.1)).mono ?_
    rintro e w11 ⟨B11, m11, d11, rfl, hr11, he11⟩
    have R11 := Lib.hid hr11
    have R7b := Lib.hid (R10.out.ext0 he11)
    have E11 : Hid (Ext Non w w11) := (E8.out.trans X10.out (fun i hi h => by have h' : i = g := h; omega)).trans0 he11
    have BQ11 : Hid (w11.heap[q]? = some _) := he11.obj BQ10.out (fun e => e)
    have hm11 : m11 = D2.subs.length := by
      obtain ⟨_, _, hs, _, _⟩ := hr11.slice
      simp only [Value.slice.injEq] at hs
      exact hs.2.1
    have HM11 := Lib.hid hm11
    have hm7 : m7 = (madeD n l).subs.length := by
      obtain ⟨_, _, hs, _, _⟩ := R7.out.slice
      simp only [Value.slice.injEq] at hs
      exact hs.2.1
    have h711 : m7 = m11 := by rw [hm7, hm11]; exact HLE.out.1.symm
    have hm4 : m11 ≤ 4 := by rw [hm11]; exact HG2.out.subs
    have HM7 := Lib.hid hm7
    have q5 := blk_cell BQ11.out 5
    have hql11 := blk_lt BQ11.out
    clear he11 hr11 hm11 hm7
    go_wp2_with fail
    go_loopw [10, 40] (fun s10 i wr => ∃ (j : Nat) (far : Int), s10 = .int .i64 far ∧ i = .int .i64 (j : Int) ∧ j ≤ m11 ∧ Hid (Ext Non w11 wr) ∧ Hid (∀ (j : Nat) (t' : Sb), D2.subs[j]? = some t' → t'.gone = false → far ≤ t'.at_)) (fun _ i _ => m11 - (intOf i).toNat)
    case atStart => exact ⟨0, -1, rfl, rfl, by omega, Ext.refl _ _, fun j t' ht _ => by have := HO2.out.cur t' (List.mem_of_getElem? ht); omega⟩
    case round =>
      obtain ⟨j, far, rfl, rfl, hj, HE, HFAR⟩ := hrel
      by_cases hlt : j < m11
      · obtain ⟨y, hy⟩ : ∃ y, D2.subs[j]? = some y := ⟨_, List.getElem?_eq_getElem (by have := HM11.out; omega)⟩
        obtain ⟨z, hz⟩ : ∃ z, (madeD n l).subs[j]? = some z := ⟨_, List.getElem?_eq_getElem (by have := HM7.out; omega)⟩
        obtain ⟨ga, offa, Ba, la, da, rfl, hga, hgla, a0, a1, a2, a3, a4, a5, a6, a7, ar⟩ := sb_at (R11.out.ext0 HE.out) hy
        obtain ⟨gb, offb, Bb, lb, db, rfl, hgb, hglb, b0, b1, b2, b3, b4, b5, b6, b7, br⟩ := sb_at (R7b.out.ext0 HE.out) hz
        have hj7 : j < m7 := by omega
        have hyt := HO2.out.cur y (List.mem_of_getElem? hy)
        have HY := Lib.hid hy
        have HZ := Lib.hid hz
        have r5 := HE.out.cell q5 (fun e => e)
        clear ar br hga hgb a0 a1 a3 a4 a5 a6 b0 b1 b2 b3 b4 b5 b6 hy hz
        cases hgy : y.gone with
        | false =>
          rw [hgy] at a7
          clear hgy
          go_wp2_with fail
          go_roundw
          case rel => exact ⟨j + 1, far, rfl, by go_num, by omega, HE.out, HFAR.out⟩
          case measure => simp [intOf]; omega
        | true =>
          rw [hgy] at a7
          cases hgz : z.gone with
          | true =>
            rw [hgz] at b7
            clear hgy hgz
            go_wp2_with fail
            go_roundw
            case rel => exact ⟨j + 1, far, rfl, by go_num, by omega, HE.out, HFAR.out⟩
            case measure => simp [intOf]; omega
          | false =>
            rw [hgz] at b7
            obtain ⟨hnbt, hk32, hmin⟩ := HLET.out j z y HZ.out hgz HY.out hgy
            have hk32' : 32 < m8 + bl := by rw [HBL.out]; exact hk32
            have hnb' : (!nb) = false := by rw [hnbt]; rfl
            have HMIN := Lib.hid hmin
            subst hnbt
            clear hgy hgz hk32 hmin hnb'
            rcases (show far < y.at_ ∨ y.at_ ≤ far by omega) with c1 | c1
            · go_wp2_with fail
              go_roundw
              case rel => exact ⟨j + 1, y.at_, by first | rfl | simp; omega, by go_num, by omega, HE.out, HMIN.out⟩
              case measure => simp [intOf]; omega
            · go_wp2_with fail
              go_roundw
              case rel => exact ⟨j + 1, far, by first | rfl | simp; omega, by go_num, by omega, HE.out, HFAR.out⟩
              case measure => simp [intOf]; omega
      · obtain rfl : j = m11 := by omega
        go_wp2_with fail
        go_loopw [76] (fun i wr2 => ∃ j2 : Nat, i = .int .i64 (j2 : Int) ∧ j2 ≤ j ∧ Hid (Ext Non w11 wr2)) (fun i _ => j - (intOf i).toNat)
        case atStart => exact ⟨0, rfl, by omega, HE.out⟩
        case round =>
          obtain ⟨j2, rfl, hj2, HE2⟩ := hrel
          by_cases hlt2 : j2 < j
          · obtain ⟨y, hy⟩ : ∃ y, D2.subs[j2]? = some y := ⟨_, List.getElem?_eq_getElem (by have := HM11.out; omega)⟩
            obtain ⟨ga, offa, Ba, la, da, rfl, hga, hgla, a0, a1, a2, a3, a4, a5, a6, a7, ar⟩ := sb_at (R11.out.ext0 HE2.out) hy
            have HY := Lib.hid hy
            clear ar hga hy
            cases hgy : y.gone with
            | true =>
              rw [hgy] at a7
              clear hgy
              go_wp2_with fail
              go_roundw
              case rel =>
                refine ⟨j2 + 1, by go_num, by omega, HE2.out.trans0 ?_⟩
                repeat (first | exact Ext.refl _ _ | refine Ext.drew ?_ | refine Ext.alloc ?_ _ | refine Ext.setNew ?_ (Nat.le_refl _) _)
              case measure => simp [intOf]; omega
            | false =>
              have hfa : ¬ y.at_ < far := by have := HFAR.out j2 y HY.out hgy; omega
              rw [hgy] at a7
              clear hgy
              go_wp2_with fail
              go_roundw
              case rel =>
                refine ⟨j2 + 1, by go_num, by omega, HE2.out.trans0 ?_⟩
                repeat (first | exact Ext.refl _ _ | refine Ext.drew ?_ | refine Ext.alloc ?_ _ | refine Ext.setNew ?_ (Nat.le_refl _) _)
              case measure => simp [intOf]; omega
          · obtain rfl : j2 = j := by omega
            go_wp2_with fail
            refine (AWW.out _ (E11.out.trans0 HE2.out)).mono ?_
            rintro e w12 ⟨rfl, he⟩
            have E12 := Lib.hid he
            clear he
            go_wp2_with fail
            go_ret
            exact ⟨rfl, E12.out⟩
end Go.Proofs.Ytdjfijdnhfmeeaa
