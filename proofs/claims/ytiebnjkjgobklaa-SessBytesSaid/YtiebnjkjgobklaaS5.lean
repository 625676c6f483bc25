/- Sessions: Ask of whatever, Keep. -/
import Derived.Test.YtiebnjkjgobklaaS4
namespace Go.Proofs.Ytiebnjkjgobklaa
open Go.RowKit Go.TM

set_option maxHeartbeats 400000 in
theorem Ask_none {w : World} {ok : Nat → Prop} {g : Nat} {t : Tab} (hT : TabAt w ok g t) (HG : Good t.seats t.last) (n seq : Int) (hn0 : -9223372036854775808 ≤ n) (hn : n ≤ 9223372036854775807) (hno : ∀ s ∈ t.seats, s.ses ≠ n) :
    Calls Try.prog 14 #[.pointer (some ⟨g, 0, none⟩), .int .i64 n, .int .i64 seq] w (AskPost ⟨0, 0, false, 90⟩ w) := by
  have HT := Lib.hid hT
  have HN := Lib.hid hno
  clear hno hT
  go_enter Try.func14, Try.ntmps14
  go_wp2_with fail
  refine (find_no (HT.out.ext ((Ext.refl Non w).alloc _)) HG hn0 hn HN.out).mono ?_
  rintro e w1 ⟨rfl, he⟩
  have b0 := he.obj (heap_alloc_new w _) (fun e => e)
  have f0 := blk_cell b0 0
  have f1 := blk_cell b0 1
  have z0 := frozen_of_row w1 w.heap.size 0 _ _ b0
  have z1 := frozen_of_row w1 w.heap.size 1 _ _ b0
  simp at f0 f1
  have hz : w.heap.size < w1.heap.size := blk_lt b0
  have HE := Lib.hid (((Ext.refl Non w).alloc _).trans0 he)
  clear he b0
  go_wp2_with fail
  refine bodyPost_ret (v := AskR.val ⟨0, 0, false, 90⟩) ?_ rfl ⟨rfl, ?_⟩
  · rw [results14 _ _ w.heap.size 0 0 rfl (by go_simp) (by go_simp)]
    rfl
  · repeat (first | exact HE.out | refine Ext.alloc ?_ _ | refine Ext.setNew ?_ (Nat.le_refl _) _)

theorem Ask_calls {w : World} {ok : Nat → Prop} {g : Nat} {t : Tab} (hT : TabAt w ok g t) (HG : Good t.seats t.last) (n seq : Int) (hn0 : -9223372036854775808 ≤ n) (hn : n ≤ 9223372036854775807) (hq : seq ≤ 9223372036854775807) :
    Calls Try.prog 14 #[.pointer (some ⟨g, 0, none⟩), .int .i64 n, .int .i64 seq] w (AskPost (ask t.seats n seq) w) := by
  by_cases hyes : ∃ s ∈ t.seats, s.ses = n
  · obtain ⟨s, hs, rfl⟩ := hyes
    obtain ⟨k, hk⟩ := List.getElem?_of_mem hs
    rw [ask_yes HG hk]
    exact Ask_some hT HG hk seq hq
  · have hno : ∀ s ∈ t.seats, s.ses ≠ n := fun s hs e => hyes ⟨s, hs, e⟩
    rw [ask_no hno]
    exact Ask_none hT HG n seq hn0 hn hno

theorem ask_fresh {l : List Seat} {n seq : Int} (hf : (ask l n seq).fresh = true) : ∃ (k : Nat) (s : Seat), l[k]? = some s ∧ s.ses = n ∧ seq = s.seq + 1 ∧ 1 ≤ seq := by
  unfold ask at hf
  cases h : l.find? (fun s => s.ses == n) with
  | none => rw [h] at hf; cases hf
  | some s =>
    rw [h] at hf
    obtain ⟨k, hk⟩ := List.getElem?_of_mem (List.mem_of_find?_eq_some h)
    have hs := List.find?_some h
    refine ⟨k, s, hk, by simpa using hs, ?_⟩
    simp only [askS] at hf
    split at hf
    · cases hf
    · split at hf
      · cases hf
      · split at hf
        · rename_i h1 h2 h3
          exact ⟨h3, by omega⟩
        · cases hf

/-- A table behind Keep, and its error. -/
def keep (t : Tab) (n seq re rn : Int) : Int × Tab :=
  if (ask t.seats n seq).e ≠ 0 then ((ask t.seats n seq).e, t) else
  if (ask t.seats n seq).fresh = false then (91, t) else
  (0, ⟨t.seats.map (fun x => if x.ses = n then ⟨n, seq, re, rn⟩ else x), t.last⟩)

theorem map_set {l : List Seat} {last : Int} (h : Good l last) {k : Nat} {s : Seat} (hs : l[k]? = some s) (y : Seat) : l.map (fun x => if x.ses = s.ses then y else x) = l.set k y := by
  apply List.ext_getElem?
  intro j
  rw [List.getElem?_map, List.getElem?_set]
  by_cases hj : k = j
  · subst hj
    have := (List.getElem?_eq_some_iff.1 hs).1
    have e := (List.getElem?_eq_some_iff.1 hs).2
    simp [this, e]
  · rw [if_neg hj]
    cases hl : l[j]? with
    | none => rfl
    | some t =>
      have : t.ses ≠ s.ses := fun e => hj (h.same hs hl e.symm)
      simp [this]

/-- Four cells of a row of one's own are written: an element is another one. -/
theorem Blk.set4 {w : World} {base : Nat} {ok : Nat → Prop} {g c : Nat} {xs : List Seat} {cur : Array Value} (h : Blk 4 Seat.cells 47 w base ok g c xs cur) {k : Nat} (hk : k < xs.length) (s : Seat) :
    Blk 4 Seat.cells 47 ((((w.setCell ⟨g, k * 4, none⟩ (.int .i64 s.ses)).setCell ⟨g, k * 4 + 1, none⟩ (.int .i64 s.seq)).setCell ⟨g, k * 4 + 2, none⟩ (.int .i64 s.err)).setCell ⟨g, k * 4 + 3, none⟩ (.int .i64 s.n)) base ok g c (xs.set k s)
      ((((cur.setIfInBounds (k * 4) (.int .i64 s.ses)).setIfInBounds (k * 4 + 1) (.int .i64 s.seq)).setIfInBounds (k * 4 + 2) (.int .i64 s.err)).setIfInBounds (k * 4 + 3) (.int .i64 s.n)) := by
  refine ⟨h.okg, h.basele, blk_set (blk_set (blk_set (blk_set h.blk _ _) _ _) _ _) _ _, by rw [List.length_set]; exact h.len, h.cap, by simpa using h.size, ?_⟩
  rw [List.length_set]
  have hl := h.len
  have hsz := h.size
  have e1 : xs.set k s = xs.take k ++ s :: xs.drop (k + 1) := by rw [List.set_eq_take_append_cons_drop, if_pos hk]
  have e2 := h.take
  have l1 : ((xs.take k).flatMap Seat.cells).length = k * 4 := by rw [flatMap_length Seat.cells 4 (fun _ => rfl), List.length_take, Nat.min_eq_left (by omega)]
  have l0 : (xs.flatMap Seat.cells).length = xs.length * 4 := flatMap_length Seat.cells 4 (fun _ => rfl) xs
  have e3 : xs.flatMap Seat.cells = (xs.take k).flatMap Seat.cells ++ (Seat.cells xs[k] ++ (xs.drop (k + 1)).flatMap Seat.cells) := by
    conv => lhs; rw [← List.take_append_drop k xs, List.flatMap_append, List.drop_eq_getElem_cons hk, List.flatMap_cons]
  rw [e1, List.flatMap_append, List.flatMap_cons]
  apply List.ext_getElem?
  intro j
  have e4 : ∀ j, j < xs.length * 4 → cur[j]? = (xs.flatMap Seat.cells)[j]? := by
    intro j hj
    rw [← e2, List.getElem?_take_of_lt hj]
    simp
  have ls : s.cells.length = 4 := rfl
  have ld : ((xs.drop (k + 1)).flatMap Seat.cells).length = (xs.length - (k + 1)) * 4 := by rw [flatMap_length Seat.cells 4 (fun _ => rfl), List.length_drop]
  rcases Nat.lt_or_ge j (xs.length * 4) with hj | hj
  · rw [List.getElem?_take_of_lt hj]
    simp only [Array.toList_setIfInBounds, List.getElem?_set, List.length_set, Array.length_toList]
    have hjc : j < cur.size := by omega
    by_cases h1 : j < k * 4
    · rw [if_neg (by omega), if_neg (by omega), if_neg (by omega), if_neg (by omega), List.getElem?_append_left (by omega)]
      have := e4 j hj
      rw [e3, List.getElem?_append_left (by omega)] at this
      simpa using this
    · rw [List.getElem?_append_right (by omega), l1]
      by_cases h2 : j < k * 4 + 4
      · rw [List.getElem?_append_left (by omega)]
        have h3 : j = k * 4 ∨ j = k * 4 + 1 ∨ j = k * 4 + 2 ∨ j = k * 4 + 3 := by omega
        rcases h3 with rfl | rfl | rfl | rfl
        · simp [hjc, Seat.cells]
        · simp [hjc, Seat.cells, show k * 4 + 1 - k * 4 = 1 from by omega]
        · simp [hjc, Seat.cells, show k * 4 + 2 - k * 4 = 2 from by omega]
        · simp [hjc, Seat.cells, show k * 4 + 3 - k * 4 = 3 from by omega]
      · rw [if_neg (by omega), if_neg (by omega), if_neg (by omega), if_neg (by omega), List.getElem?_append_right (by omega), ls]
        have := e4 j hj
        rw [e3, List.getElem?_append_right (by omega), l1, List.getElem?_append_right (by show 4 ≤ _; omega)] at this
        have l4 : xs[k].cells.length = 4 := rfl
        rw [l4] at this
        simpa using this
  · rw [List.getElem?_eq_none (by simp; omega), List.getElem?_eq_none (by simp only [List.length_append, l1, ld, ls]; omega)]

theorem TabAt.only {w w' : World} {ok : Nat → Prop} {g q : Nat} {t : Tab} (h : TabAt w ok g t) (he : Ext (Only q) w w') (hq : ¬ ok q) (hne : g ≠ q) : TabAt w' ok g t := by
  obtain ⟨v, hb, hr⟩ := h
  exact ⟨v, he.obj hb hne, hr.ext he (fun k hk _ e => hq (e ▸ hk))⟩

set_option maxHeartbeats 1000000 in
theorem Keep_calls {w : World} {ok : Nat → Prop} {g : Nat} {t : Tab} (hT : TabAt w ok g t) (HG : Good t.seats t.last) (n seq re rn : Int) (hn0 : -9223372036854775808 ≤ n) (hn : n ≤ 9223372036854775807) (hq : seq ≤ 9223372036854775807) (hf : ∀ k, w.heap.size ≤ k → ok k) :
    Calls Try.prog 13 #[.pointer (some ⟨g, 0, none⟩), .int .i64 n, .int .i64 seq, .agg #[.int .i64 re, .int .i64 rn]] w (EPost ok g (keep t n seq re rn) w) := by
  have HT := Lib.hid hT
  have HF := Lib.hid hf
  have hgl : g < w.heap.size := by obtain ⟨v, hb, _⟩ := hT; exact blk_lt hb
  by_cases h1 : (ask t.seats n seq).e = 0
  case neg =>
    have hA : keep t n seq re rn = ((ask t.seats n seq).e, t) := if_pos h1
    rw [hA]
    have h2 : ((ask t.seats n seq).e != 0) = true := by simpa using h1
    clear hA h1 hT hf
    go_enter Try.func13, Try.ntmps13
    go_wp2_with fail
    refine (Ask_calls (HT.out.ext ((Ext.refl Non w).alloc _)) HG n seq hn0 hn hq).mono ?_
    rintro e w1 ⟨rfl, he⟩
    have HE := Lib.hid (((Ext.refl Non w).alloc _).trans0 he)
    clear he
    unfold AskR.val
    go_wp2_with fail
    go_ret
    refine ⟨rfl, HT.out.ext ?_, Ext.of0 ?_⟩
    all_goals repeat (first | exact HE.out | refine Ext.alloc ?_ _)
  case pos =>
    by_cases h3 : (ask t.seats n seq).fresh = false
    · have hA : keep t n seq re rn = (91, t) := by unfold keep; rw [if_neg (by simpa using h1), if_pos h3]
      rw [hA]
      have h2 : ((ask t.seats n seq).e != 0) = false := by simpa using h1
      clear hA h1 hT hf
      go_enter Try.func13, Try.ntmps13
      go_wp2_with fail
      refine (Ask_calls (HT.out.ext ((Ext.refl Non w).alloc _)) HG n seq hn0 hn hq).mono ?_
      rintro e w1 ⟨rfl, he⟩
      have HE := Lib.hid (((Ext.refl Non w).alloc _).trans0 he)
      clear he
      unfold AskR.val
      go_wp2_with fail
      go_ret
      refine ⟨rfl, HT.out.ext ?_, Ext.of0 ?_⟩
      all_goals repeat (first | exact HE.out | refine Ext.alloc ?_ _)
    · have h3' : (ask t.seats n seq).fresh = true := by simpa using h3
      obtain ⟨k, s, hk, rfl, hseq, hseq1⟩ := ask_fresh h3'
      have hA : keep t s.ses seq re rn = (0, ⟨t.seats.set k ⟨s.ses, seq, re, rn⟩, t.last⟩) := by unfold keep; rw [if_neg (by simpa using h1), if_neg h3, map_set HG hk]
      rw [hA]
      have h2 : ((ask t.seats s.ses seq).e != 0) = false := by simpa using h1
      have hlt := (List.getElem?_eq_some_iff.1 hk).1
      have hfew := HG.few
      have HK := Lib.hid hk
      have HQ := Lib.hid hseq
      clear hA h1 h3 hk hT hf hseq
      obtain ⟨v, hb, hr⟩ := HT.out
      obtain ⟨A, c, rfl, hc, hm⟩ := hr.slice
      have HB := Lib.hid hb
      have HR := Lib.hid hr
      clear hb hr
      go_enter Try.func13, Try.ntmps13
      go_wp2_with fail
      refine (Ask_calls (HT.out.ext ((Ext.refl Non w).alloc _)) HG s.ses seq hn0 hn hq).mono ?_
      rintro e w1 ⟨rfl, he⟩
      have b7 := he.obj (heap_alloc_new w _) (fun e => e)
      have HE := Lib.hid (((Ext.refl Non w).alloc _).trans0 he)
      have B7 := Lib.hid b7
      clear he b7
      unfold AskR.val
      go_wp2_with fail
      refine (find_yes (t := t) (ok := ok) (HT.out.ext (Ext.alloc HE.out _)) HG HK.out).mono ?_
      rintro e w2 ⟨rfl, he2⟩
      have b7 := he2.obj (blk_alloc B7.out _) (fun e => e)
      have E2 : Ext Non w w2 := Ext.trans0 (Ext.alloc HE.out _) he2
      have b2 := E2.obj HB.out (fun e => e)
      have c0 := blk_cell b2 0
      simp at c0
      have R2 := Lib.hid (HR.out.ext0 E2)
      have B2 := Lib.hid b2
      have HE2 := Lib.hid E2
      have B72 := Lib.hid b7
      clear b2 E2 he2 b7
      go_wp2_with fail
      refine (Clone_calls R2.out (fun i hi => HF.out i (Nat.le_trans HE2.out.size hi)) (by omega)).mono ?_
      rintro e w3 ⟨v', rfl, h3, h4⟩
      have b3 := h4.obj B2.out (fun e => e)
      have b7 := h4.obj B72.out (fun e => e)
      obtain ⟨A2, c2, rfl, hc2, hm2⟩ := h3.slice
      have hA2 : ∃ g2, A2 = some ⟨g2, 0, none⟩ := by
        obtain ⟨_, inner, ho, _⟩ := h3
        rcases ho.2 with ⟨h, _⟩ | ⟨g2, cap, cur, h, _⟩
        · simp at h
          omega
        · simp at h
          exact ⟨g2, h.1⟩
      obtain ⟨g2, rfl⟩ := hA2
      obtain ⟨_, cur, hblk⟩ := h3.to_blk
      have hg2 : w2.heap.size ≤ g2 := hblk.basele
      have hgs := HE2.out.size
      have hne : g2 ≠ g := by omega
      have hne7 : g2 ≠ w.heap.size := by
        have := blk_lt B72.out
        omega
      have E3 : Ext Non w w3 := HE2.out.trans0 h4
      have y0 := blk_frozen b3 0
      have c0 := blk_cell b3 0
      simp at c0
      have BL := Lib.hid hblk
      have B3 := Lib.hid b3
      have HE3 := Lib.hid E3
      have B73 := Lib.hid b7
      clear h3 h4 hblk b3 E3 b7
      go_wp2_with fail
      have b4 := blk_set B3.out 0 (.slice (some ⟨g2, 0, none⟩) t.seats.length c2)
      have b74 := blk_far B73.out (p := ⟨g, 0, none⟩) (by show w.heap.size ≠ g; omega) (.slice (some ⟨g2, 0, none⟩) t.seats.length c2)
      have bl4 := blk_far BL.out.blk (p := ⟨g, 0, none⟩) hne (.slice (some ⟨g2, 0, none⟩) t.seats.length c2)
      have E4 : Ext (Only g) w (w3.setCell ⟨g, 0, none⟩ (.slice (some ⟨g2, 0, none⟩) t.seats.length c2)) := (HE3.out.of0 (M := Only g)).setCell (p := ⟨g, 0, none⟩) (fun _ => rfl) _
      generalize w3.setCell ⟨g, 0, none⟩ (.slice (some ⟨g2, 0, none⟩) t.seats.length c2) = w4 at b4 b74 bl4 E4 ⊢
      simp at b4
      have d0 := blk_cell b4 0
      have d7 := blk_cell b74 0
      have d8 := blk_cell b74 1
      simp at d0 d7 d8
      have hcs := BL.out.size
      have hcell : ∀ j, j < c2 * 4 → ∃ u, w4.cell? ⟨g2, j, none⟩ = some u := fun j hj => ⟨_, (cell_of_row w4 g2 j cur 47 (0, 0) bl4).trans (Array.getElem?_eq_getElem (by omega))⟩
      obtain ⟨u0, e0⟩ := hcell (k * 4) (by omega)
      obtain ⟨u1, e1⟩ := hcell (k * 4 + 1) (by omega)
      obtain ⟨u2, e2⟩ := hcell (k * 4 + 2) (by omega)
      obtain ⟨u3, e3⟩ := hcell (k * 4 + 3) (by omega)
      have z0 := blk_frozen bl4 (k * 4)
      have z1 := blk_frozen bl4 (k * 4 + 1)
      have z2 := blk_frozen bl4 (k * 4 + 2)
      have z3 := blk_frozen bl4 (k * 4 + 3)
      have BL4 : Hid (Blk 4 Seat.cells 47 w4 w2.heap.size ok g2 c2 t.seats cur) := ⟨BL.out.okg, BL.out.basele, bl4, BL.out.len, BL.out.cap, BL.out.size, BL.out.take⟩
      have B4 := Lib.hid b4
      have HE4 := Lib.hid E4
      have q0 : (k : Int) < (t.seats.length : Int) := by omega
      clear b4 b74 bl4 E4 hcs hcell
      go_region
      go_wp2_with fail
      go_ret
      have FB := Blk.set4 BL4.out hlt ⟨s.ses, seq, re, rn⟩
      refine ⟨rfl, ⟨.slice (some ⟨g2, 0, none⟩) t.seats.length c2, blk_far (blk_far (blk_far (blk_far B4.out hne.symm _) hne.symm _) hne.symm _) hne.symm _, ?_⟩, ?_⟩
      · have := (seat_own FB).rd
        rw [List.length_set] at this
        exact this
      · repeat (first | exact HE4.out | refine Ext.drew ?_ | refine Ext.setNew ?_ (by omega) _)
end Go.Proofs.Ytiebnjkjgobklaa
