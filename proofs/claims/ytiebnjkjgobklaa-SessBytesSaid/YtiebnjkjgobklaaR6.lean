/- Sessions, the document's table: Open. -/
import Derived.Test.YtiebnjkjgobklaaR4
import Derived.Test.YtiebnjkjgobklaaL
namespace Go.Proofs.Ytiebnjkjgobklaa
open Go.RowKit Go.TM

def OpenRPost (ok : Nat → Prop) (g : Nat) (r : OpenR) (w : World) (e : Ending) (w' : World) : Prop :=
  e = .returned (.tuple #[.int .i64 r.id, .int .i64 r.e]) ∧ RefAt w' ok g r.tab ∧ Ext (Only g) w w'

set_option maxHeartbeats 4000000 in
theorem OpenR_calls {w : World} {ok : Nat → Prop} {g : Nat} {t : Tab} (hT : RefAt w ok g t) (HG : Good t.seats t.last) (hf : ∀ k, w.heap.size ≤ k → ok k) (hg : ¬ ok g) :
    Calls Try.prog 19 #[.pointer (some ⟨g, 0, none⟩)] w (OpenRPost ok g (open_ t) w) := by
  have HT := Lib.hid hT
  have h8 := HG.few
  have hl0 := HG.last0
  have hl1 := HG.last1
  obtain ⟨v, hb, hr⟩ := hT
  obtain ⟨A, c, rfl, hc, hm⟩ := hr.slice
  have c0 := blk_cell hb 0
  have c1 := blk_cell hb 1
  have z0 := blk_frozen hb 0
  have z1 := blk_frozen hb 1
  simp at c0 c1
  have HR := Lib.hid hr
  have HB := Lib.hid hb
  clear hb hr
  by_cases h1 : 8 ≤ t.seats.length
  · have hA : open_ t = ⟨0, 7, t⟩ := if_pos h1
    rw [hA]
    have h1' : ((t.seats.length : Int) == 8) = true := by rw [beq_iff_eq]; omega
    clear hA
    go_enter Try.func19, Try.ntmps19
    go_wp2_with fail
    go_ret2
    exact ⟨rfl, HT.out, Ext.refl _ _⟩
  have h1' : ((t.seats.length : Int) == 8) = false := by rw [beq_eq_false_iff_ne]; omega
  by_cases h2 : 1099511627776 ≤ t.last
  · have hA : open_ t = ⟨0, 5, t⟩ := by unfold open_; rw [if_neg h1, if_pos h2]
    rw [hA]
    have h2' : (t.last == 1099511627776) = true := by rw [beq_iff_eq]; omega
    clear hA
    go_enter Try.func19, Try.ntmps19
    go_wp2_with fail
    go_ret2
    exact ⟨rfl, HT.out, Ext.refl _ _⟩
  have h2' : (t.last == 1099511627776) = false := by rw [beq_eq_false_iff_ne]; omega
  have hA : open_ t = ⟨t.last + 1, 0, ⟨t.seats ++ [⟨t.last + 1, 0, 0, 0⟩], t.last + 1⟩⟩ := by unfold open_; rw [if_neg h1, if_neg h2]
  rw [hA]
  clear hA
  go_enter Try.func19, Try.ntmps19
  go_wp2_with fail
  have e1 : Ext (Only g) w (w.setCell ⟨g, 0, none⟩ (.int .i64 (t.last + 1))) := (Ext.refl (Only g) w).setCell (p := ⟨g, 0, none⟩) (fun _ => rfl) _
  have b1 := blk_set HB.out 0 (.int .i64 (t.last + 1))
  have s1 : (w.setCell ⟨g, 0, none⟩ (.int .i64 (t.last + 1))).heap.size = w.heap.size := by simp [World.setCell]
  have r1 := HR.out.ext e1 (fun k hk _ e => hg (e ▸ hk))
  generalize w.setCell ⟨g, 0, none⟩ (.int .i64 (t.last + 1)) = w1 at e1 b1 r1 s1 ⊢
  simp at b1
  have d0 := blk_cell b1 0
  have d1 := blk_cell b1 1
  have y1 := blk_frozen b1 1
  have hlt := blk_lt b1
  simp at d0 d1
  have B1 := Lib.hid b1
  have E1 := Lib.hid e1
  have R1 := Lib.hid r1
  have HF : Hid (∀ k, w1.heap.size ≤ k → ok k) := fun k hk => hf k (by omega)
  have OA : Hid (Own seatK 47 (w1.drew.alloc (.cells #[] 47)) w1.heap.size ok (.slice (some ⟨w1.heap.size, 0, none⟩) 0 0) []) := Own.lit (d := seatK) (w := w1.drew) (Reps.nil _ _ _) (Nat.le_refl _) (by simp) (HF.out _ (Nat.le_refl _))
  have OB : Hid (Own seatK 47 ((w1.drew.alloc (.cells #[] 47)).alloc (.cells #[.int .i64 (t.last + 1), .int .i64 0, .int .i64 0, .int .i64 0] 47)) w1.heap.size ok (.slice (some ⟨w1.heap.size, 0, none⟩) 0 0) []) := OA.out.ext0 ((Ext.refl _ _).alloc _)
  have OC : Hid (Own seatK 47 ((w1.drew.alloc (.cells #[.int .i64 (t.last + 1), .int .i64 0, .int .i64 0, .int .i64 0] 47)).alloc (.cells #[] 47)) w1.heap.size ok (.slice (some ⟨w1.heap.size + 1, 0, none⟩) 0 0) []) := by
    have := Own.lit (d := seatK) (e := 47) (w := w1.drew.alloc (.cells #[.int .i64 (t.last + 1), .int .i64 0, .int .i64 0, .int .i64 0] 47)) (base := w1.heap.size) (ok := ok) (Reps.nil _ _ _) (by simp) (by simp) (HF.out _ (by simp))
    simpa [Lib.hid, Hid] using this
  have LB : Hid (((w1.drew.alloc (.cells #[] 47)).alloc (.cells #[.int .i64 (t.last + 1), .int .i64 0, .int .i64 0, .int .i64 0] 47)).heap[w1.heap.size + 1]? = some (.cells #[.int .i64 (t.last + 1), .int .i64 0, .int .i64 0, .int .i64 0] 47)) := by
    have := heap_alloc_new (w1.drew.alloc (.cells #[] 47)) (.cells #[.int .i64 (t.last + 1), .int .i64 0, .int .i64 0, .int .i64 0] 47)
    simpa [Hid] using this
  have LC : Hid (((w1.drew.alloc (.cells #[.int .i64 (t.last + 1), .int .i64 0, .int .i64 0, .int .i64 0] 47)).alloc (.cells #[] 47)).heap[w1.heap.size]? = some (.cells #[.int .i64 (t.last + 1), .int .i64 0, .int .i64 0, .int .i64 0] 47)) :=
    blk_alloc (heap_alloc_new w1.drew _) _
  clear b1 e1 r1 s1 hf c0 c1 z0 z1
  refine Last.start_ (S := fun W => W.cell? ⟨g, 0, none⟩ = some (.int .i64 (t.last + 1)) ∧ W.cell? ⟨g, 1, none⟩ = some (.slice A t.seats.length c)) (ds := [16]) #[false, false, false, false, false, false, false, false, false, false, false, false, false, false, false, false, false] (by kernel_rfl) (by rfl) (by rfl) ⟨d0, d1⟩ (fun hS => ?_)
  refine Last.take_ (i := 0) (N := some 22) (v := .pointer (some ⟨g, 0, none⟩)) #[true, false, false, false, false, false, false, false, false, false, false, false, false, false, false, false, false] (by simp only [List.getElem?_toArray, List.getElem?_cons_zero, List.getElem?_cons_succ]; rfl) rfl (by kernel_rfl) (by exact fun _ _ _ h => h) (Or.inl ⟨by rfl, fun W hW => by first | rfl | (try dsimp only at hW); go_simp⟩) hS rfl ?_
  simp only [Act.put, List.setIfInBounds_toArray, List.set_cons_zero, List.set_cons_succ]
  refine Last.take_ (i := 2) (N := some 24) (v := .pointer (some ⟨g, 0, none⟩)) #[true, false, true, false, false, false, false, false, false, false, false, false, false, false, false, false, false] (by simp only [List.getElem?_toArray, List.getElem?_cons_zero, List.getElem?_cons_succ]; rfl) rfl (by kernel_rfl) (by exact fun _ _ _ h => h) (Or.inl ⟨by rfl, fun W hW => by first | rfl | (try dsimp only at hW); go_simp⟩) hS rfl ?_
  simp only [Act.put, List.setIfInBounds_toArray, List.set_cons_zero, List.set_cons_succ]
  refine Last.take_ (i := 3) (N := some 25) (v := .pointer (some ⟨g, 0, none⟩)) #[true, false, true, true, false, false, false, false, false, false, false, false, false, false, false, false, false] (by simp only [List.getElem?_toArray, List.getElem?_cons_zero, List.getElem?_cons_succ]; rfl) rfl (by kernel_rfl) (by exact fun _ _ _ h => h) (Or.inl ⟨by rfl, fun W hW => by first | rfl | (try dsimp only at hW); go_simp⟩) hS rfl ?_
  simp only [Act.put, List.setIfInBounds_toArray, List.set_cons_zero, List.set_cons_succ]
  refine Last.take_ (i := 4) (N := some 26) (v := .pointer (some ⟨g, 1, none⟩)) #[true, false, true, true, true, false, false, false, false, false, false, false, false, false, false, false, false] (by simp only [List.getElem?_toArray, List.getElem?_cons_zero, List.getElem?_cons_succ]; rfl) rfl (by kernel_rfl) (by exact fun _ _ _ h => h) (Or.inl ⟨by rfl, fun W hW => by first | rfl | (try dsimp only at hW); go_simp⟩) hS rfl ?_
  simp only [Act.put, List.setIfInBounds_toArray, List.set_cons_zero, List.set_cons_succ]
  refine Last.take_ (i := 5) (N := some 27) (v := .slice A t.seats.length c) #[true, false, true, true, true, true, false, false, false, false, false, false, false, false, false, false, false] (by simp only [List.getElem?_toArray, List.getElem?_cons_zero, List.getElem?_cons_succ]; rfl) rfl (by kernel_rfl) (by exact fun _ _ _ h => h) (Or.inl ⟨by rfl, fun W hW => by first | rfl | (try dsimp only at hW); go_simp⟩) hS rfl ?_
  simp only [Act.put, List.setIfInBounds_toArray, List.set_cons_zero, List.set_cons_succ]
  refine Last.take_ (i := 7) (N := some 29) (v := .pointer (some ⟨g, 0, none⟩)) #[true, false, true, true, true, true, false, true, false, false, false, false, false, false, false, false, false] (by simp only [List.getElem?_toArray, List.getElem?_cons_zero, List.getElem?_cons_succ]; rfl) rfl (by kernel_rfl) (by exact fun _ _ _ h => h) (Or.inl ⟨by rfl, fun W hW => by first | rfl | (try dsimp only at hW); go_simp⟩) hS rfl ?_
  simp only [Act.put, List.setIfInBounds_toArray, List.set_cons_zero, List.set_cons_succ]
  refine Last.take_ (i := 8) (N := some 30) (v := .pointer (some ⟨g, 0, none⟩)) #[true, false, true, true, true, true, false, true, true, false, false, false, false, false, false, false, false] (by simp only [List.getElem?_toArray, List.getElem?_cons_zero, List.getElem?_cons_succ]; rfl) rfl (by kernel_rfl) (by exact fun _ _ _ h => h) (Or.inl ⟨by rfl, fun W hW => by first | rfl | (try dsimp only at hW); go_simp⟩) hS rfl ?_
  simp only [Act.put, List.setIfInBounds_toArray, List.set_cons_zero, List.set_cons_succ]
  refine Last.take_ (i := 9) (N := some 31) (v := .pointer (some ⟨g, 0, none⟩)) #[true, false, true, true, true, true, false, true, true, true, false, false, false, false, false, false, false] (by simp only [List.getElem?_toArray, List.getElem?_cons_zero, List.getElem?_cons_succ]; rfl) rfl (by kernel_rfl) (by exact fun _ _ _ h => h) (Or.inl ⟨by rfl, fun W hW => by first | rfl | (try dsimp only at hW); go_simp⟩) hS rfl ?_
  simp only [Act.put, List.setIfInBounds_toArray, List.set_cons_zero, List.set_cons_succ]
  refine Last.take_ (i := 10) (N := some 32) (v := .int .i64 (t.last + 1)) #[true, false, true, true, true, true, false, true, true, true, true, false, false, false, false, false, false] (by simp only [List.getElem?_toArray, List.getElem?_cons_zero, List.getElem?_cons_succ]; rfl) rfl (by kernel_rfl) (by exact fun _ _ _ h => h) (Or.inl ⟨by rfl, fun W hW => by first | rfl | (try dsimp only at hW); go_simp⟩) hS rfl ?_
  simp only [Act.put, List.setIfInBounds_toArray, List.set_cons_zero, List.set_cons_succ]
  refine Last.take_ (i := 11) (N := some 33) (v := .agg #[.int .i64 (t.last + 1), .int .i64 0, .int .i64 0, .int .i64 0]) #[true, false, true, true, true, true, false, true, true, true, true, true, false, false, false, false, false] (by simp only [List.getElem?_toArray, List.getElem?_cons_zero, List.getElem?_cons_succ]; rfl) rfl (by kernel_rfl) (by exact fun _ _ _ h => h) (Or.inl ⟨by rfl, fun W hW => by first | rfl | (try dsimp only at hW); go_simp⟩) hS rfl ?_
  simp only [Act.put, List.setIfInBounds_toArray, List.set_cons_zero, List.set_cons_succ]
  have d0' := d0
  have d1' := d1
  refine Last.two_ (i := 1) (j := 12) (Ni := some 23) (Nj := some 34) #[true, true, true, true, true, true, false, true, true, true, true, true, false, false, false, false, false] #[true, false, true, true, true, true, false, true, true, true, true, true, true, false, false, false, false] (by simp only [List.getElem?_toArray, List.getElem?_cons_zero, List.getElem?_cons_succ]; rfl) (by simp only [List.getElem?_toArray, List.getElem?_cons_zero, List.getElem?_cons_succ]; rfl) rfl rfl (by kernel_rfl) (by decide) (by decide) (fun K hK => ?_) (fun K hK => ?_)
  · go_simp
    refine hK.out _ _ ⟨by go_simp, by go_simp⟩ (fun hS => ?_)
    try simp only [Act.put, List.setIfInBounds_toArray, List.set_cons_zero, List.set_cons_succ]
    refine Last.two_ (i := 6) (j := 12) (Ni := some 28) (Nj := some 34) #[true, true, true, true, true, true, true, true, true, true, true, true, false, false, false, false, false] #[true, true, true, true, true, true, false, true, true, true, true, true, true, false, false, false, false] (by simp only [List.getElem?_toArray, List.getElem?_cons_zero, List.getElem?_cons_succ]; rfl) (by simp only [List.getElem?_toArray, List.getElem?_cons_zero, List.getElem?_cons_succ]; rfl) rfl rfl (by kernel_rfl) (by decide) (by decide) (fun K hK => ?_) (fun K hK => ?_)
    · refine step_app seatK (ok := ok) (v := .slice (some ⟨w1.heap.size, 0, none⟩) 0 0) (vx := .slice A t.seats.length c) (xs := []) (ys := t.seats) w1.heap.size (by rfl) _ _ 38 47 _ 32 (by rfl) Try.underlying38 info47 rfl (by decide) (by simp [Act.eval]) (by simp [Act.eval]) OA.out ?_ ?_ ?_ ?_ ?_ ?_
      · refine (R1.out.bound.ext0 (by repeat (first | exact Ext.refl _ _ | refine Ext.alloc ?_ _ | refine Ext.drew ?_))).mono (fun k hk => ⟨hk.1, fun e => ?_⟩)
        simp [Value.ownBlock] at e
        omega
      · exact fun k hk => HF.out k (by simp at hk; omega)
      · simp; omega
      · simp; omega
      · simp; (try omega)
      intro v' w2 hown hext hblk
      have E2 : Ext Non w1 w2 := Ext.trans (by repeat (first | exact Ext.refl _ _ | refine Ext.alloc ?_ _ | refine Ext.drew ?_)) hext (fun i hi e => by simp [Value.ownBlock] at e; omega)
      have hlt2 := blk_lt (E2.obj B1.out (fun e => e))
      have d0 := E2.cell d0 (fun e => e)
      have d1 := E2.cell d1 (fun e => e)
      have E3 := Lib.hid E2
      have O3 : Hid (Own seatK 47 w2 w1.heap.size ok v' t.seats) := hown
      clear E2 hown hext hblk
      refine hK.out _ _ ⟨d0, d1⟩ (fun hS => ?_)
      try simp only [Act.put, List.setIfInBounds_toArray, List.set_cons_zero, List.set_cons_succ]
      refine Last.one_ (i := 12) (N := some 34) #[true, true, true, true, true, true, true, true, true, true, true, true, true, false, false, false, false] (by simp only [List.getElem?_toArray, List.getElem?_cons_zero, List.getElem?_cons_succ]; rfl) rfl (by kernel_rfl) (by decide) (fun K hK => ?_)
      go_simp
      refine hK.out _ _ ⟨by go_simp, by go_simp⟩ (fun hS => ?_)
      try simp only [Act.put, List.setIfInBounds_toArray, List.set_cons_zero, List.set_cons_succ]
      refine Last.one_ (i := 13) (N := some 35) #[true, true, true, true, true, true, true, true, true, true, true, true, true, true, false, false, false] (by simp only [List.getElem?_toArray, List.getElem?_cons_zero, List.getElem?_cons_succ]; rfl) rfl (by kernel_rfl) (by decide) (fun K hK => ?_)
      have hbl := O3.out.base_le
      have hsz := E3.out.size
      refine step_app seatK (ok := ok) (v := v') (vx := .slice (some ⟨w2.heap.size, 0, none⟩) 1 1) (xs := t.seats) (ys := [⟨t.last + 1, 0, 0, 0⟩]) w1.heap.size (by rfl) _ _ 38 47 _ 32 (by rfl) Try.underlying38 info47 rfl (by decide) (by simp [Act.eval]) (by simp [Act.eval]) (O3.out.ext0 (by repeat (first | exact Ext.refl _ _ | refine Ext.alloc ?_ _ | refine Ext.drew ?_))) ?_ ?_ ?_ ?_ ?_ ?_
      · refine Rd.lit_at (cs := [.int .i64 (t.last + 1), .int .i64 0, .int .i64 0, .int .i64 0]) (e := 47) (fr := (0, 0)) (heap_alloc_new w2 _) rfl ⟨?_, ?_⟩
        · exact HF.out _ (by omega)
        · first | exact BN.out | exact fun h => by have := (hbl _ h.symm).2; omega
      · exact fun k hk => HF.out k (by (try simp at hk); omega)
      · simp; omega
      · simp; omega
      · (try simp); omega
      intro v2 w3 hown2 hext2 hblk2
      have E4 : Ext Non w1 w3 := Ext.trans (b := w2) E3.out (Ext.trans (M := fun k => some k = v'.ownBlock) (by repeat (first | exact Ext.refl _ _ | refine Ext.alloc ?_ _ | refine Ext.drew ?_)) hext2 (fun i _ h => h)) (fun i hi h => by have := (hbl _ h.symm).1; omega)
      have B4 := Lib.hid (E4.obj B1.out (fun e => e))
      have y1 := blk_frozen B4.out 1
      have d0 := E4.cell d0' (fun e => e)
      have d1 := E4.cell d1' (fun e => e)
      have E5 := Lib.hid E4
      obtain ⟨A2, k2, rfl, hk2, hm2⟩ := hown2.slice
      have O5 := Lib.hid hown2
      clear E4 hown2 hext2 hblk2 hk2 hm2
      refine hK.out _ _ ⟨d0, d1⟩ (fun hS => ?_)
      try simp only [Act.put, List.setIfInBounds_toArray, List.set_cons_zero, List.set_cons_succ]
      refine Last.take_ (i := 14) (N := some 36) (v := .pointer (some ⟨g, 0, none⟩)) #[true, true, true, true, true, true, true, true, true, true, true, true, true, true, true, false, false] (by simp only [List.getElem?_toArray, List.getElem?_cons_zero, List.getElem?_cons_succ]; rfl) rfl (by kernel_rfl) (by exact fun _ _ _ h => h) (Or.inl ⟨by rfl, fun W hW => by first | rfl | (try dsimp only at hW); go_simp⟩) hS rfl ?_
      simp only [Act.put, List.setIfInBounds_toArray, List.set_cons_zero, List.set_cons_succ]
      refine Last.take_ (i := 15) (N := some 37) (v := .pointer (some ⟨g, 1, none⟩)) #[true, true, true, true, true, true, true, true, true, true, true, true, true, true, true, true, false] (by simp only [List.getElem?_toArray, List.getElem?_cons_zero, List.getElem?_cons_succ]; rfl) rfl (by kernel_rfl) (by exact fun _ _ _ h => h) (Or.inl ⟨by rfl, fun W hW => by first | rfl | (try dsimp only at hW); go_simp⟩) hS rfl ?_
      simp only [Act.put, List.setIfInBounds_toArray, List.set_cons_zero, List.set_cons_succ]
      refine Last.last_ (i := 16) (N := none) #[true, true, true, true, true, true, true, true, true, true, true, true, true, true, true, true, true] (by simp only [List.getElem?_toArray, List.getElem?_cons_zero, List.getElem?_cons_succ]; rfl) rfl (by kernel_rfl) (by decide) (fun K hK => ?_)
      go_simp
      refine hK.out _ _ ?_
      try simp only [Act.put, List.setIfInBounds_toArray, List.set_cons_zero, List.set_cons_succ]
      refine Last.done_ (by kernel_rfl) ?_
      go_wp2_with fail
      go_ret2
      refine ⟨rfl, ⟨_, (by simpa using blk_set B4.out 1 _), ?_⟩, ?_⟩
      · exact Rd.ext (w := w3) (by simpa using O5.out.rd) ((Ext.refl (Only g) _).setCell (p := ⟨g, 1, none⟩) (fun _ => rfl) _) (fun k hk _ e => hg (e ▸ hk))
      · exact (E1.out.trans0 E5.out).setCell (p := ⟨g, 1, none⟩) (fun _ => rfl) _
    · go_simp
      refine hK.out _ _ ⟨by go_simp, by go_simp⟩ (fun hS => ?_)
      try simp only [Act.put, List.setIfInBounds_toArray, List.set_cons_zero, List.set_cons_succ]
      refine Last.one_ (i := 6) (N := some 28) #[true, true, true, true, true, true, true, true, true, true, true, true, true, false, false, false, false] (by simp only [List.getElem?_toArray, List.getElem?_cons_zero, List.getElem?_cons_succ]; rfl) rfl (by kernel_rfl) (by decide) (fun K hK => ?_)
      refine step_app seatK (ok := ok) (v := .slice (some ⟨w1.heap.size, 0, none⟩) 0 0) (vx := .slice A t.seats.length c) (xs := []) (ys := t.seats) w1.heap.size (by rfl) _ _ 38 47 _ 32 (by rfl) Try.underlying38 info47 rfl (by decide) (by simp [Act.eval]) (by simp [Act.eval]) OB.out ?_ ?_ ?_ ?_ ?_ ?_
      · refine (R1.out.bound.ext0 (by repeat (first | exact Ext.refl _ _ | refine Ext.alloc ?_ _ | refine Ext.drew ?_))).mono (fun k hk => ⟨hk.1, fun e => ?_⟩)
        simp [Value.ownBlock] at e
        omega
      · exact fun k hk => HF.out k (by simp at hk; omega)
      · simp; omega
      · simp; omega
      · simp; (try omega)
      intro v' w2 hown hext hblk
      have E2 : Ext Non w1 w2 := Ext.trans (by repeat (first | exact Ext.refl _ _ | refine Ext.alloc ?_ _ | refine Ext.drew ?_)) hext (fun i hi e => by simp [Value.ownBlock] at e; omega)
      have BN : Hid (some (w1.heap.size + 1) ≠ v'.ownBlock) := by
        rcases hblk with h | ⟨b, h, hb⟩
        · rw [h]; simp [Hid, Value.ownBlock]
        · rw [h]; simp [Hid] at hb ⊢; omega
      have bl := hext.obj LB.out (by simp [Value.ownBlock])
      have hlt2 := blk_lt (E2.obj B1.out (fun e => e))
      have d0 := E2.cell d0 (fun e => e)
      have d1 := E2.cell d1 (fun e => e)
      have E3 := Lib.hid E2
      have O3 : Hid (Own seatK 47 w2 w1.heap.size ok v' t.seats) := hown
      clear E2 hown hext hblk
      refine hK.out _ _ ⟨d0, d1⟩ (fun hS => ?_)
      try simp only [Act.put, List.setIfInBounds_toArray, List.set_cons_zero, List.set_cons_succ]
      refine Last.one_ (i := 13) (N := some 35) #[true, true, true, true, true, true, true, true, true, true, true, true, true, true, false, false, false] (by simp only [List.getElem?_toArray, List.getElem?_cons_zero, List.getElem?_cons_succ]; rfl) rfl (by kernel_rfl) (by decide) (fun K hK => ?_)
      have hbl := O3.out.base_le
      have hsz := E3.out.size
      refine step_app seatK (ok := ok) (v := v') (vx := .slice (some ⟨w1.heap.size + 1, 0, none⟩) 1 1) (xs := t.seats) (ys := [⟨t.last + 1, 0, 0, 0⟩]) w1.heap.size (by rfl) _ _ 38 47 _ 32 (by rfl) Try.underlying38 info47 rfl (by decide) (by simp [Act.eval]) (by simp [Act.eval]) (O3.out.ext0 (by repeat (first | exact Ext.refl _ _ | refine Ext.alloc ?_ _ | refine Ext.drew ?_))) ?_ ?_ ?_ ?_ ?_ ?_
      · refine Rd.lit_at (cs := [.int .i64 (t.last + 1), .int .i64 0, .int .i64 0, .int .i64 0]) (e := 47) (fr := (0, 0)) bl rfl ⟨?_, ?_⟩
        · exact HF.out _ (by omega)
        · first | exact BN.out | exact fun h => by have := (hbl _ h.symm).2; omega
      · exact fun k hk => HF.out k (by (try simp at hk); omega)
      · simp; omega
      · simp; omega
      · (try simp); omega
      intro v2 w3 hown2 hext2 hblk2
      have E4 : Ext Non w1 w3 := Ext.trans (b := w2) E3.out (Ext.trans (M := fun k => some k = v'.ownBlock) (by repeat (first | exact Ext.refl _ _ | refine Ext.alloc ?_ _ | refine Ext.drew ?_)) hext2 (fun i _ h => h)) (fun i hi h => by have := (hbl _ h.symm).1; omega)
      have B4 := Lib.hid (E4.obj B1.out (fun e => e))
      have y1 := blk_frozen B4.out 1
      have d0 := E4.cell d0' (fun e => e)
      have d1 := E4.cell d1' (fun e => e)
      have E5 := Lib.hid E4
      obtain ⟨A2, k2, rfl, hk2, hm2⟩ := hown2.slice
      have O5 := Lib.hid hown2
      clear E4 hown2 hext2 hblk2 hk2 hm2
      refine hK.out _ _ ⟨d0, d1⟩ (fun hS => ?_)
      try simp only [Act.put, List.setIfInBounds_toArray, List.set_cons_zero, List.set_cons_succ]
      refine Last.take_ (i := 14) (N := some 36) (v := .pointer (some ⟨g, 0, none⟩)) #[true, true, true, true, true, true, true, true, true, true, true, true, true, true, true, false, false] (by simp only [List.getElem?_toArray, List.getElem?_cons_zero, List.getElem?_cons_succ]; rfl) rfl (by kernel_rfl) (by exact fun _ _ _ h => h) (Or.inl ⟨by rfl, fun W hW => by first | rfl | (try dsimp only at hW); go_simp⟩) hS rfl ?_
      simp only [Act.put, List.setIfInBounds_toArray, List.set_cons_zero, List.set_cons_succ]
      refine Last.take_ (i := 15) (N := some 37) (v := .pointer (some ⟨g, 1, none⟩)) #[true, true, true, true, true, true, true, true, true, true, true, true, true, true, true, true, false] (by simp only [List.getElem?_toArray, List.getElem?_cons_zero, List.getElem?_cons_succ]; rfl) rfl (by kernel_rfl) (by exact fun _ _ _ h => h) (Or.inl ⟨by rfl, fun W hW => by first | rfl | (try dsimp only at hW); go_simp⟩) hS rfl ?_
      simp only [Act.put, List.setIfInBounds_toArray, List.set_cons_zero, List.set_cons_succ]
      refine Last.last_ (i := 16) (N := none) #[true, true, true, true, true, true, true, true, true, true, true, true, true, true, true, true, true] (by simp only [List.getElem?_toArray, List.getElem?_cons_zero, List.getElem?_cons_succ]; rfl) rfl (by kernel_rfl) (by decide) (fun K hK => ?_)
      go_simp
      refine hK.out _ _ ?_
      try simp only [Act.put, List.setIfInBounds_toArray, List.set_cons_zero, List.set_cons_succ]
      refine Last.done_ (by kernel_rfl) ?_
      go_wp2_with fail
      go_ret2
      refine ⟨rfl, ⟨_, (by simpa using blk_set B4.out 1 _), ?_⟩, ?_⟩
      · exact Rd.ext (w := w3) (by simpa using O5.out.rd) ((Ext.refl (Only g) _).setCell (p := ⟨g, 1, none⟩) (fun _ => rfl) _) (fun k hk _ e => hg (e ▸ hk))
      · exact (E1.out.trans0 E5.out).setCell (p := ⟨g, 1, none⟩) (fun _ => rfl) _
  · go_simp
    refine hK.out _ _ ⟨by go_simp, by go_simp⟩ (fun hS => ?_)
    try simp only [Act.put, List.setIfInBounds_toArray, List.set_cons_zero, List.set_cons_succ]
    refine Last.one_ (i := 1) (N := some 23) #[true, true, true, true, true, true, false, true, true, true, true, true, true, false, false, false, false] (by simp only [List.getElem?_toArray, List.getElem?_cons_zero, List.getElem?_cons_succ]; rfl) rfl (by kernel_rfl) (by decide) (fun K hK => ?_)
    go_simp
    refine hK.out _ _ ⟨by go_simp, by go_simp⟩ (fun hS => ?_)
    try simp only [Act.put, List.setIfInBounds_toArray, List.set_cons_zero, List.set_cons_succ]
    refine Last.one_ (i := 6) (N := some 28) #[true, true, true, true, true, true, true, true, true, true, true, true, true, false, false, false, false] (by simp only [List.getElem?_toArray, List.getElem?_cons_zero, List.getElem?_cons_succ]; rfl) rfl (by kernel_rfl) (by decide) (fun K hK => ?_)
    refine step_app seatK (ok := ok) (v := .slice (some ⟨w1.heap.size + 1, 0, none⟩) 0 0) (vx := .slice A t.seats.length c) (xs := []) (ys := t.seats) w1.heap.size (by rfl) _ _ 38 47 _ 32 (by rfl) Try.underlying38 info47 rfl (by decide) (by simp [Act.eval]) (by simp [Act.eval]) OC.out ?_ ?_ ?_ ?_ ?_ ?_
    · refine (R1.out.bound.ext0 (by repeat (first | exact Ext.refl _ _ | refine Ext.alloc ?_ _ | refine Ext.drew ?_))).mono (fun k hk => ⟨hk.1, fun e => ?_⟩)
      simp [Value.ownBlock] at e
      omega
    · exact fun k hk => HF.out k (by simp at hk; omega)
    · simp; omega
    · simp; omega
    · simp; (try omega)
    intro v' w2 hown hext hblk
    have E2 : Ext Non w1 w2 := Ext.trans (by repeat (first | exact Ext.refl _ _ | refine Ext.alloc ?_ _ | refine Ext.drew ?_)) hext (fun i hi e => by simp [Value.ownBlock] at e; omega)
    have BN : Hid (some w1.heap.size ≠ v'.ownBlock) := by
      rcases hblk with h | ⟨b, h, hb⟩
      · rw [h]; simp [Hid, Value.ownBlock]
      · rw [h]; simp [Hid] at hb ⊢; omega
    have bl := hext.obj LC.out (by simp [Value.ownBlock])
    have hlt2 := blk_lt (E2.obj B1.out (fun e => e))
    have d0 := E2.cell d0 (fun e => e)
    have d1 := E2.cell d1 (fun e => e)
    have E3 := Lib.hid E2
    have O3 : Hid (Own seatK 47 w2 w1.heap.size ok v' t.seats) := hown
    clear E2 hown hext hblk
    refine hK.out _ _ ⟨d0, d1⟩ (fun hS => ?_)
    try simp only [Act.put, List.setIfInBounds_toArray, List.set_cons_zero, List.set_cons_succ]
    refine Last.one_ (i := 13) (N := some 35) #[true, true, true, true, true, true, true, true, true, true, true, true, true, true, false, false, false] (by simp only [List.getElem?_toArray, List.getElem?_cons_zero, List.getElem?_cons_succ]; rfl) rfl (by kernel_rfl) (by decide) (fun K hK => ?_)
    have hbl := O3.out.base_le
    have hsz := E3.out.size
    refine step_app seatK (ok := ok) (v := v') (vx := .slice (some ⟨w1.heap.size, 0, none⟩) 1 1) (xs := t.seats) (ys := [⟨t.last + 1, 0, 0, 0⟩]) w1.heap.size (by rfl) _ _ 38 47 _ 32 (by rfl) Try.underlying38 info47 rfl (by decide) (by simp [Act.eval]) (by simp [Act.eval]) (O3.out.ext0 (by repeat (first | exact Ext.refl _ _ | refine Ext.alloc ?_ _ | refine Ext.drew ?_))) ?_ ?_ ?_ ?_ ?_ ?_
    · refine Rd.lit_at (cs := [.int .i64 (t.last + 1), .int .i64 0, .int .i64 0, .int .i64 0]) (e := 47) (fr := (0, 0)) bl rfl ⟨?_, ?_⟩
      · exact HF.out _ (by omega)
      · first | exact BN.out | exact fun h => by have := (hbl _ h.symm).2; omega
    · exact fun k hk => HF.out k (by (try simp at hk); omega)
    · simp; omega
    · simp; omega
    · (try simp); omega
    intro v2 w3 hown2 hext2 hblk2
    have E4 : Ext Non w1 w3 := Ext.trans (b := w2) E3.out (Ext.trans (M := fun k => some k = v'.ownBlock) (by repeat (first | exact Ext.refl _ _ | refine Ext.alloc ?_ _ | refine Ext.drew ?_)) hext2 (fun i _ h => h)) (fun i hi h => by have := (hbl _ h.symm).1; omega)
    have B4 := Lib.hid (E4.obj B1.out (fun e => e))
    have y1 := blk_frozen B4.out 1
    have d0 := E4.cell d0' (fun e => e)
    have d1 := E4.cell d1' (fun e => e)
    have E5 := Lib.hid E4
    obtain ⟨A2, k2, rfl, hk2, hm2⟩ := hown2.slice
    have O5 := Lib.hid hown2
    clear E4 hown2 hext2 hblk2 hk2 hm2
    refine hK.out _ _ ⟨d0, d1⟩ (fun hS => ?_)
    try simp only [Act.put, List.setIfInBounds_toArray, List.set_cons_zero, List.set_cons_succ]
    refine Last.take_ (i := 14) (N := some 36) (v := .pointer (some ⟨g, 0, none⟩)) #[true, true, true, true, true, true, true, true, true, true, true, true, true, true, true, false, false] (by simp only [List.getElem?_toArray, List.getElem?_cons_zero, List.getElem?_cons_succ]; rfl) rfl (by kernel_rfl) (by exact fun _ _ _ h => h) (Or.inl ⟨by rfl, fun W hW => by first | rfl | (try dsimp only at hW); go_simp⟩) hS rfl ?_
    simp only [Act.put, List.setIfInBounds_toArray, List.set_cons_zero, List.set_cons_succ]
    refine Last.take_ (i := 15) (N := some 37) (v := .pointer (some ⟨g, 1, none⟩)) #[true, true, true, true, true, true, true, true, true, true, true, true, true, true, true, true, false] (by simp only [List.getElem?_toArray, List.getElem?_cons_zero, List.getElem?_cons_succ]; rfl) rfl (by kernel_rfl) (by exact fun _ _ _ h => h) (Or.inl ⟨by rfl, fun W hW => by first | rfl | (try dsimp only at hW); go_simp⟩) hS rfl ?_
    simp only [Act.put, List.setIfInBounds_toArray, List.set_cons_zero, List.set_cons_succ]
    refine Last.last_ (i := 16) (N := none) #[true, true, true, true, true, true, true, true, true, true, true, true, true, true, true, true, true] (by simp only [List.getElem?_toArray, List.getElem?_cons_zero, List.getElem?_cons_succ]; rfl) rfl (by kernel_rfl) (by decide) (fun K hK => ?_)
    go_simp
    refine hK.out _ _ ?_
    try simp only [Act.put, List.setIfInBounds_toArray, List.set_cons_zero, List.set_cons_succ]
    refine Last.done_ (by kernel_rfl) ?_
    go_wp2_with fail
    go_ret2
    refine ⟨rfl, ⟨_, (by simpa using blk_set B4.out 1 _), ?_⟩, ?_⟩
    · exact Rd.ext (w := w3) (by simpa using O5.out.rd) ((Ext.refl (Only g) _).setCell (p := ⟨g, 1, none⟩) (fun _ => rfl) _) (fun k hk _ e => hg (e ▸ hk))
    · exact (E1.out.trans0 E5.out).setCell (p := ⟨g, 1, none⟩) (fun _ => rfl) _
end Go.Proofs.Ytiebnjkjgobklaa
