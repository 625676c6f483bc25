/- Sessions, the document's table: Close. -/
import Derived.Test.YtiebnjkjgobklaaR6
namespace Go.TM
theorem Rd.take {α : Type} {d : Kd α} {w : World} {ok : Nat → Prop} {A : Option Addr} {n c : Nat} {xs : List α} (h : Rd d w ok (.slice A n c) xs) {k : Nat} (hk : k ≤ xs.length) : Rd d w ok (.slice A k c) (xs.take k) := by
  obtain ⟨A', c', he, hc, hm, hr⟩ := h
  simp only [Value.slice.injEq] at he
  obtain ⟨rfl, rfl, rfl⟩ := he
  have hl : (xs.take k).length = k := by rw [List.length_take]; omega
  refine ⟨A, c, by rw [hl], by omega, hm, fun h0 => ?_⟩
  obtain ⟨g, off, rfl, hg, hlt, hx⟩ := hr (by omega)
  refine ⟨g, off, rfl, hg, hlt, fun j x hj => ?_⟩
  have hjk : j < k := by have := (List.getElem?_eq_some_iff.1 hj).1; omega
  rw [List.getElem?_take_of_lt hjk] at hj
  exact hx j x hj
theorem Rd.drop {α : Type} {d : Kd α} {w : World} {ok : Nat → Prop} {g off n c : Nat} {xs : List α} (h : Rd d w ok (.slice (some ⟨g, off, none⟩) n c) xs) {k : Nat} (hk : k ≤ xs.length) :
    Rd d w ok (.slice (if c = k then some ⟨g, off, none⟩ else some ⟨g, off + k * d.sz, none⟩) (n - k) (c - k)) (xs.drop k) := by
  obtain ⟨A', c', he, hc, hm, hr⟩ := h
  simp only [Value.slice.injEq] at he
  obtain ⟨rfl, rfl, rfl⟩ := he
  have hl : (xs.drop k).length = xs.length - k := by rw [List.length_drop]
  refine ⟨_, c - k, by rw [hl], by omega, by omega, fun h0 => ?_⟩
  obtain ⟨g', off', he, hg, hlt, hx⟩ := hr (by omega)
  simp only [Option.some.injEq, Addr.mk.injEq, and_true] at he
  obtain ⟨rfl, rfl⟩ := he
  refine ⟨g, off + k * d.sz, by rw [if_neg (by omega)], hg, hlt, fun j x hj => ?_⟩
  rw [List.getElem?_drop] at hj
  obtain ⟨cs, h1, h2⟩ := hx _ x hj
  refine ⟨cs, h1, fun i u hu => ?_⟩
  have := h2 i u hu
  rwa [Nat.add_mul, show off + (k * d.sz + j * d.sz + i) = off + k * d.sz + (j * d.sz + i) from by omega] at this
end Go.TM
namespace Go.Proofs.Ytiebnjkjgobklaa
open Go.RowKit Go.TM

theorem CloseR_no {w : World} {ok : Nat → Prop} {g : Nat} {t : Tab} (hT : RefAt w ok g t) (HG : Good t.seats t.last) (n : Int) (hno : ∀ s ∈ t.seats, s.ses ≠ n) :
    Calls Try.prog 21 #[.pointer (some ⟨g, 0, none⟩), .int .i64 n] w (REPost ok g (close t n) w) := by
  have hA : close t n = (90, t) := by
    unfold close
    rw [if_neg]
    intro h
    obtain ⟨s, hs, he⟩ := List.any_eq_true.1 h
    exact hno s hs (by simpa using he)
  rw [hA]
  have HT := Lib.hid hT
  have HN := Lib.hid hno
  have h8 := HG.few
  clear hA hT hno
  go_enter Try.func21, Try.ntmps21
  go_wp2_with fail
  refine (place_calls HT.out h8 n).mono ?_
  rintro e w1 ⟨i, rfl, he, ⟨k, s, rfl, hk, hs⟩ | ⟨rfl, _⟩⟩
  · exact absurd hs (HN.out s (List.mem_of_getElem? hk))
  have HE := Lib.hid he
  clear he
  go_wp2_with fail
  go_ret
  exact ⟨rfl, HT.out.ext HE.out, HE.out.of0⟩

set_option maxHeartbeats 2000000 in
set_option maxRecDepth 4000 in
theorem CloseR_yes {w : World} {ok : Nat → Prop} {g : Nat} {t : Tab} (hT : RefAt w ok g t) (HG : Good t.seats t.last) {k : Nat} {s : Seat} (hk : t.seats[k]? = some s) (hf : ∀ k, w.heap.size ≤ k → ok k) (hg : ¬ ok g) :
    Calls Try.prog 21 #[.pointer (some ⟨g, 0, none⟩), .int .i64 s.ses] w (REPost ok g (0, ⟨t.seats.eraseIdx k, t.last⟩) w) := by
  have HT := Lib.hid hT
  have HF := Lib.hid hf
  have hlt := (List.getElem?_eq_some_iff.1 hk).1
  have h8 := HG.few
  have HK := Lib.hid hk
  clear hT hf hk
  have q0 : (0 : Int) ≤ (k : Int) := by omega
  have q1 : (k : Int) < (t.seats.length : Int) := by omega
  go_enter Try.func21, Try.ntmps21
  go_wp2_with fail
  refine (place_yes HT.out HG HK.out).mono ?_
  rintro e w1 ⟨rfl, he⟩
  obtain ⟨v, hb, hr⟩ := HT.out.ext he
  obtain ⟨A, c, rfl, hc, hm⟩ := hr.slice
  obtain ⟨gs, off, rfl, hgs, _⟩ := seat_nat hr (HK.out)
  have hT1 := hr.take (k := k) (by omega)
  have hT2 := hr.drop (k := k + 1) (by omega)
  have d1 := blk_cell hb 1
  have y1 := blk_frozen hb 1
  have hlt1 := blk_lt hb
  simp at d1
  have B1 := Lib.hid hb
  have E1 := Lib.hid he
  have R1 := Lib.hid hT1
  have R2 := Lib.hid hT2
  have HF1 : Hid (∀ k, w1.heap.size ≤ k → ok k) := fun i hi => HF.out i (Nat.le_trans E1.out.size hi)
  have OA : Hid (Own seatK 47 (w1.drew.alloc (.cells #[] 47)) w1.heap.size ok (.slice (some ⟨w1.heap.size, 0, none⟩) 0 0) []) := Own.lit (d := seatK) (w := w1.drew) (Reps.nil _ _ _) (Nat.le_refl _) (by simp) (HF1.out _ (Nat.le_refl _))
  clear hb he hr hT1 hT2
  go_wp2_with fail
  have q2 : (0 : Int) ≤ (k : Int) + 1 := by omega
  have q3 : (k : Int) + 1 ≤ (t.seats.length : Int) := by omega
  have q4 : (k : Int) + 1 ≤ 9223372036854775807 := by omega
  have q6 : (t.seats.length : Int) ≤ (c : Int) := by omega
  have q7 : (k : Int) ≤ (c : Int) := by omega
  have q8 : (k : Int) + 1 ≤ (c : Int) := by omega
  have q9 : (k : Int) ≤ (t.seats.length : Int) := by omega
  have q10 : IntKind.i64.wrap ((k : Int) + 1) = (k : Int) + 1 := by rw [Last.i64_w]; unfold wrap64; omega
  refine Last.start_ (S := fun W => W.cell? ⟨g, 1, none⟩ = some (.slice (some ⟨gs, off, none⟩) t.seats.length c)) (ds := [19]) #[false, false, false, false, false, false, false, false, false, false, false, false, false, false, false, false, false, false, false, false] (by kernel_rfl) (by rfl) (by rfl) d1 (fun hS => ?_)
  refine Last.take_ (i := 0) (N := some 11) (v := .pointer (some ⟨g, 0, none⟩)) #[true, false, false, false, false, false, false, false, false, false, false, false, false, false, false, false, false, false, false, false] (by simp only [List.getElem?_toArray, List.getElem?_cons_zero, List.getElem?_cons_succ]; rfl) rfl (by kernel_rfl) (by exact fun _ _ _ h => h) (Or.inl ⟨by rfl, fun W hW => by first | rfl | (try dsimp only at hW); go_simp⟩) hS rfl ?_
  simp only [Act.put, List.setIfInBounds_toArray, List.set_cons_zero, List.set_cons_succ]
  refine Last.take_ (i := 2) (N := some 13) (v := .pointer (some ⟨g, 0, none⟩)) #[true, false, true, false, false, false, false, false, false, false, false, false, false, false, false, false, false, false, false, false] (by simp only [List.getElem?_toArray, List.getElem?_cons_zero, List.getElem?_cons_succ]; rfl) rfl (by kernel_rfl) (by exact fun _ _ _ h => h) (Or.inl ⟨by rfl, fun W hW => by first | rfl | (try dsimp only at hW); go_simp⟩) hS rfl ?_
  simp only [Act.put, List.setIfInBounds_toArray, List.set_cons_zero, List.set_cons_succ]
  refine Last.take_ (i := 3) (N := some 14) (v := .pointer (some ⟨g, 0, none⟩)) #[true, false, true, true, false, false, false, false, false, false, false, false, false, false, false, false, false, false, false, false] (by simp only [List.getElem?_toArray, List.getElem?_cons_zero, List.getElem?_cons_succ]; rfl) rfl (by kernel_rfl) (by exact fun _ _ _ h => h) (Or.inl ⟨by rfl, fun W hW => by first | rfl | (try dsimp only at hW); go_simp⟩) hS rfl ?_
  simp only [Act.put, List.setIfInBounds_toArray, List.set_cons_zero, List.set_cons_succ]
  refine Last.take_ (i := 4) (N := some 15) (v := .pointer (some ⟨g, 1, none⟩)) #[true, false, true, true, true, false, false, false, false, false, false, false, false, false, false, false, false, false, false, false] (by simp only [List.getElem?_toArray, List.getElem?_cons_zero, List.getElem?_cons_succ]; rfl) rfl (by kernel_rfl) (by exact fun _ _ _ h => h) (Or.inl ⟨by rfl, fun W hW => by first | rfl | (try dsimp only at hW); go_simp⟩) hS rfl ?_
  simp only [Act.put, List.setIfInBounds_toArray, List.set_cons_zero, List.set_cons_succ]
  refine Last.take_ (i := 5) (N := some 16) (v := .slice (some ⟨gs, off, none⟩) t.seats.length c) #[true, false, true, true, true, true, false, false, false, false, false, false, false, false, false, false, false, false, false, false] (by simp only [List.getElem?_toArray, List.getElem?_cons_zero, List.getElem?_cons_succ]; rfl) rfl (by kernel_rfl) (by exact fun _ _ _ h => h) (Or.inl ⟨by rfl, fun W hW => by first | rfl | (try dsimp only at hW); go_simp⟩) hS rfl ?_
  simp only [Act.put, List.setIfInBounds_toArray, List.set_cons_zero, List.set_cons_succ]
  refine Last.take_ (i := 6) (N := some 17) (v := .int .i64 (k : Int)) #[true, false, true, true, true, true, true, false, false, false, false, false, false, false, false, false, false, false, false, false] (by simp only [List.getElem?_toArray, List.getElem?_cons_zero, List.getElem?_cons_succ]; rfl) rfl (by kernel_rfl) (by exact fun _ _ _ h => h) (Or.inl ⟨by rfl, fun W hW => by first | rfl | (try dsimp only at hW); go_simp⟩) hS rfl ?_
  simp only [Act.put, List.setIfInBounds_toArray, List.set_cons_zero, List.set_cons_succ]
  refine Last.take_ (i := 7) (N := some 18) (v := .slice (some ⟨gs, off, none⟩) k c) #[true, false, true, true, true, true, true, true, false, false, false, false, false, false, false, false, false, false, false, false] (by simp only [List.getElem?_toArray, List.getElem?_cons_zero, List.getElem?_cons_succ]; rfl) rfl (by kernel_rfl) (by exact fun _ _ _ h => h) (Or.inl ⟨by rfl, fun W hW => by first | rfl | (try dsimp only at hW); go_simp⟩) hS rfl ?_
  simp only [Act.put, List.setIfInBounds_toArray, List.set_cons_zero, List.set_cons_succ]
  refine Last.take_ (i := 9) (N := some 20) (v := .pointer (some ⟨g, 0, none⟩)) #[true, false, true, true, true, true, true, true, false, true, false, false, false, false, false, false, false, false, false, false] (by simp only [List.getElem?_toArray, List.getElem?_cons_zero, List.getElem?_cons_succ]; rfl) rfl (by kernel_rfl) (by exact fun _ _ _ h => h) (Or.inl ⟨by rfl, fun W hW => by first | rfl | (try dsimp only at hW); go_simp⟩) hS rfl ?_
  simp only [Act.put, List.setIfInBounds_toArray, List.set_cons_zero, List.set_cons_succ]
  refine Last.take_ (i := 10) (N := some 21) (v := .pointer (some ⟨g, 0, none⟩)) #[true, false, true, true, true, true, true, true, false, true, true, false, false, false, false, false, false, false, false, false] (by simp only [List.getElem?_toArray, List.getElem?_cons_zero, List.getElem?_cons_succ]; rfl) rfl (by kernel_rfl) (by exact fun _ _ _ h => h) (Or.inl ⟨by rfl, fun W hW => by first | rfl | (try dsimp only at hW); go_simp⟩) hS rfl ?_
  simp only [Act.put, List.setIfInBounds_toArray, List.set_cons_zero, List.set_cons_succ]
  refine Last.take_ (i := 11) (N := some 22) (v := .pointer (some ⟨g, 1, none⟩)) #[true, false, true, true, true, true, true, true, false, true, true, true, false, false, false, false, false, false, false, false] (by simp only [List.getElem?_toArray, List.getElem?_cons_zero, List.getElem?_cons_succ]; rfl) rfl (by kernel_rfl) (by exact fun _ _ _ h => h) (Or.inl ⟨by rfl, fun W hW => by first | rfl | (try dsimp only at hW); go_simp⟩) hS rfl ?_
  simp only [Act.put, List.setIfInBounds_toArray, List.set_cons_zero, List.set_cons_succ]
  refine Last.take_ (i := 12) (N := some 23) (v := .slice (some ⟨gs, off, none⟩) t.seats.length c) #[true, false, true, true, true, true, true, true, false, true, true, true, true, false, false, false, false, false, false, false] (by simp only [List.getElem?_toArray, List.getElem?_cons_zero, List.getElem?_cons_succ]; rfl) rfl (by kernel_rfl) (by exact fun _ _ _ h => h) (Or.inl ⟨by rfl, fun W hW => by first | rfl | (try dsimp only at hW); go_simp⟩) hS rfl ?_
  simp only [Act.put, List.setIfInBounds_toArray, List.set_cons_zero, List.set_cons_succ]
  refine Last.take_ (i := 13) (N := some 24) (v := .int .i64 (k : Int)) #[true, false, true, true, true, true, true, true, false, true, true, true, true, true, false, false, false, false, false, false] (by simp only [List.getElem?_toArray, List.getElem?_cons_zero, List.getElem?_cons_succ]; rfl) rfl (by kernel_rfl) (by exact fun _ _ _ h => h) (Or.inl ⟨by rfl, fun W hW => by first | rfl | (try dsimp only at hW); go_simp⟩) hS rfl ?_
  simp only [Act.put, List.setIfInBounds_toArray, List.set_cons_zero, List.set_cons_succ]
  refine Last.take_ (i := 14) (N := some 25) (v := .int .i64 ((k : Int) + 1)) #[true, false, true, true, true, true, true, true, false, true, true, true, true, true, true, false, false, false, false, false] (by simp only [List.getElem?_toArray, List.getElem?_cons_zero, List.getElem?_cons_succ]; rfl) rfl (by kernel_rfl) (by exact fun _ _ _ h => h) (Or.inl ⟨by rfl, fun W hW => by first | rfl | (try dsimp only at hW); go_simp⟩) hS rfl ?_
  simp only [Act.put, List.setIfInBounds_toArray, List.set_cons_zero, List.set_cons_succ]
  refine Last.take_ (i := 15) (N := some 26) (v := .slice (if c = k + 1 then some ⟨gs, off, none⟩ else some ⟨gs, off + (k + 1) * 4, none⟩) (t.seats.length - (k + 1)) (c - (k + 1))) #[true, false, true, true, true, true, true, true, false, true, true, true, true, true, true, true, false, false, false, false] (by simp only [List.getElem?_toArray, List.getElem?_cons_zero, List.getElem?_cons_succ]; rfl) rfl (by kernel_rfl) (by exact fun _ _ _ h => h) (Or.inl ⟨by rfl, fun W hW => by first | rfl | (try dsimp only at hW); go_simp⟩) hS rfl ?_
  simp only [Act.put, List.setIfInBounds_toArray, List.set_cons_zero, List.set_cons_succ]
  refine Last.one_ (i := 1) (N := some 12) #[true, true, true, true, true, true, true, true, false, true, true, true, true, true, true, true, false, false, false, false] (by simp only [List.getElem?_toArray, List.getElem?_cons_zero, List.getElem?_cons_succ]; rfl) rfl (by kernel_rfl) (by decide) (fun K hK => ?_)
  go_simp
  refine hK.out _ _ (by go_simp) (fun hS => ?_)
  try simp only [Act.put, List.setIfInBounds_toArray, List.set_cons_zero, List.set_cons_succ]
  refine Last.one_ (i := 8) (N := some 19) #[true, true, true, true, true, true, true, true, true, true, true, true, true, true, true, true, false, false, false, false] (by simp only [List.getElem?_toArray, List.getElem?_cons_zero, List.getElem?_cons_succ]; rfl) rfl (by kernel_rfl) (by decide) (fun K hK => ?_)
  have t1 : (t.seats.take k).length = k := by rw [List.length_take]; omega
  have t2 : (t.seats.drop (k + 1)).length = t.seats.length - (k + 1) := by rw [List.length_drop]
  refine step_app seatK (ok := ok) (v := .slice (some ⟨w1.heap.size, 0, none⟩) 0 0) (vx := .slice (some ⟨gs, off, none⟩) k c) (xs := []) (ys := t.seats.take k) w1.heap.size (by rfl) _ _ 38 47 _ 32 (by rfl) Try.underlying38 info47 rfl (by decide) (by simp [Act.eval]) (by simp [Act.eval]) OA.out ?_ ?_ ?_ ?_ ?_ ?_
  · refine (R1.out.bound.ext0 (by repeat (first | exact Ext.refl _ _ | refine Ext.alloc ?_ _ | refine Ext.drew ?_))).mono (fun k hk => ⟨hk.1, fun e => ?_⟩)
    simp [Value.ownBlock] at e
    omega
  · exact fun k hk => HF1.out k (by simp at hk; omega)
  · simp only [t1, List.length_nil]; omega
  · simp only [t1, List.length_nil]; omega
  · simp
  intro v' w2 hown hext hblk
  have E2 : Ext Non w1 w2 := Ext.trans (by repeat (first | exact Ext.refl _ _ | refine Ext.alloc ?_ _ | refine Ext.drew ?_)) hext (fun i hi e => by simp [Value.ownBlock] at e; omega)
  have d2 := E2.cell d1 (fun e => e)
  have E3 := Lib.hid E2
  have O3 : Hid (Own seatK 47 w2 w1.heap.size ok v' (t.seats.take k)) := hown
  clear E2 hown hext hblk
  refine hK.out _ _ d2 (fun hS => ?_)
  try simp only [Act.put, List.setIfInBounds_toArray, List.set_cons_zero, List.set_cons_succ]
  refine Last.one_ (i := 16) (N := some 27) #[true, true, true, true, true, true, true, true, true, true, true, true, true, true, true, true, true, false, false, false] (by simp only [List.getElem?_toArray, List.getElem?_cons_zero, List.getElem?_cons_succ]; rfl) rfl (by kernel_rfl) (by decide) (fun K hK => ?_)
  have hbl := O3.out.base_le
  have hsz := E3.out.size
  refine step_app seatK (ok := ok) (v := v') (vx := .slice (if c = k + 1 then some ⟨gs, off, none⟩ else some ⟨gs, off + (k + 1) * 4, none⟩) (t.seats.length - (k + 1)) (c - (k + 1))) (xs := t.seats.take k) (ys := t.seats.drop (k + 1)) w1.heap.size (by rfl) _ _ 38 47 _ 32 (by rfl) Try.underlying38 info47 rfl (by decide) (by simp [Act.eval]) (by simp [Act.eval]) O3.out ?_ ?_ ?_ ?_ ?_ ?_
  · refine (R2.out.bound.ext0 E3.out).mono (fun i hi => ⟨hi.1, fun e => ?_⟩)
    have := (hbl _ e.symm).1
    have := hi.2
    omega
  · exact fun k hk => HF1.out k (by omega)
  · simp only [t1, t2]; omega
  · simp only [t1, t2]; omega
  · exact hsz
  intro v2 w3 hown2 hext2 hblk2
  have E4 : Ext Non w1 w3 := Ext.trans E3.out hext2 (fun i hi h => by have := (hbl _ h.symm).1; omega)
  have B4 := Lib.hid (E4.obj B1.out (fun e => e))
  have y1 := blk_frozen B4.out 1
  have d1 := E4.cell d1 (fun e => e)
  have E5 := Lib.hid E4
  rw [← List.eraseIdx_eq_take_drop_succ] at hown2
  obtain ⟨A2, k2, rfl, hk2, hm2⟩ := hown2.slice
  have O5 := Lib.hid hown2
  clear E4 hown2 hext2 hblk2 hk2 hm2
  refine hK.out _ _ d1 (fun hS => ?_)
  try simp only [Act.put, List.setIfInBounds_toArray, List.set_cons_zero, List.set_cons_succ]
  refine Last.take_ (i := 17) (N := some 28) (v := .pointer (some ⟨g, 0, none⟩)) #[true, true, true, true, true, true, true, true, true, true, true, true, true, true, true, true, true, true, false, false] (by simp only [List.getElem?_toArray, List.getElem?_cons_zero, List.getElem?_cons_succ]; rfl) rfl (by kernel_rfl) (by exact fun _ _ _ h => h) (Or.inl ⟨by rfl, fun W hW => by first | rfl | (try dsimp only at hW); go_simp⟩) hS rfl ?_
  simp only [Act.put, List.setIfInBounds_toArray, List.set_cons_zero, List.set_cons_succ]
  refine Last.take_ (i := 18) (N := some 29) (v := .pointer (some ⟨g, 1, none⟩)) #[true, true, true, true, true, true, true, true, true, true, true, true, true, true, true, true, true, true, true, false] (by simp only [List.getElem?_toArray, List.getElem?_cons_zero, List.getElem?_cons_succ]; rfl) rfl (by kernel_rfl) (by exact fun _ _ _ h => h) (Or.inl ⟨by rfl, fun W hW => by first | rfl | (try dsimp only at hW); go_simp⟩) hS rfl ?_
  simp only [Act.put, List.setIfInBounds_toArray, List.set_cons_zero, List.set_cons_succ]
  refine Last.last_ (i := 19) (N := none) #[true, true, true, true, true, true, true, true, true, true, true, true, true, true, true, true, true, true, true, true] (by simp only [List.getElem?_toArray, List.getElem?_cons_zero, List.getElem?_cons_succ]; rfl) rfl (by kernel_rfl) (by decide) (fun K hK => ?_)
  go_simp
  refine hK.out _ _ ?_
  try simp only [Act.put, List.setIfInBounds_toArray, List.set_cons_zero, List.set_cons_succ]
  refine Last.done_ (by kernel_rfl) ?_
  clear q0 q1 q2 q3 q4 q6 q7 q8 q9 q10
  go_wp2_with fail
  all_goals
    go_ret
    refine ⟨rfl, ⟨_, (by simpa using blk_set B4.out 1 _), ?_⟩, ?_⟩
    · exact Rd.ext (w := w3) O5.out.rd ((Ext.refl (Only g) _).setCell (p := ⟨g, 1, none⟩) (fun _ => rfl) _) (fun k hk _ e => hg (e ▸ hk))
    · exact ((E1.out.trans0 E5.out).of0 (M := Only g)).setCell (p := ⟨g, 1, none⟩) (fun _ => rfl) _

theorem CloseR_calls {w : World} {ok : Nat → Prop} {g : Nat} {t : Tab} (hT : RefAt w ok g t) (HG : Good t.seats t.last) (n : Int) (hf : ∀ k, w.heap.size ≤ k → ok k) (hg : ¬ ok g) :
    Calls Try.prog 21 #[.pointer (some ⟨g, 0, none⟩), .int .i64 n] w (REPost ok g (close t n) w) := by
  by_cases hyes : ∃ s ∈ t.seats, s.ses = n
  · obtain ⟨s, hs, rfl⟩ := hyes
    obtain ⟨k, hk⟩ := List.getElem?_of_mem hs
    have hA : close t s.ses = (0, ⟨t.seats.eraseIdx k, t.last⟩) := by
      unfold close
      rw [if_pos (List.any_eq_true.2 ⟨s, hs, by simp⟩), erase_filter HG hk]
    rw [hA]
    exact CloseR_yes hT HG hk hf hg
  · exact CloseR_no hT HG n (fun s hs e => hyes ⟨s, hs, e⟩)
end Go.Proofs.Ytiebnjkjgobklaa
