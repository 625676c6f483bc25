/- Sessions, the document's table: Keep. -/
import Derived.Test.YtiebnjkjgobklaaR3
namespace Go.Proofs.Ytiebnjkjgobklaa
open Go.RowKit Go.TM

theorem place_yes {w : World} {ok : Nat → Prop} {g : Nat} {t : Tab} (hT : RefAt w ok g t) (HG : Good t.seats t.last) {k : Nat} {s : Seat} (hk : t.seats[k]? = some s) :
    Calls Try.prog 37 #[.pointer (some ⟨g, 0, none⟩), .int .i64 s.ses] w fun e w' => e = .returned (.int .i64 (k : Int)) ∧ Ext Non w w' := by
  refine (place_calls hT HG.few s.ses).mono ?_
  rintro e w' ⟨i, rfl, he, ⟨k', s', rfl, hk', hs'⟩ | ⟨rfl, hno⟩⟩
  · have := HG.same hk' hk hs'
    subst this
    exact ⟨rfl, he⟩
  · exact absurd rfl (hno s (List.mem_of_getElem? hk))

def REPost (ok : Nat → Prop) (g : Nat) (r : Int × Tab) (w : World) (e : Ending) (w' : World) : Prop :=
  e = .returned (.int .i64 r.1) ∧ RefAt w' ok g r.2 ∧ Ext (Only g) w w'

set_option maxHeartbeats 1000000 in
theorem KeepR_calls {w : World} {ok : Nat → Prop} {g : Nat} {t : Tab} (hT : RefAt w ok g t) (HG : Good t.seats t.last) (n seq re rn : Int) (hq0 : -9223372036854775808 ≤ seq) (hq : seq ≤ 9223372036854775807) (hf : ∀ k, w.heap.size ≤ k → ok k) (hg : ¬ ok g) :
    Calls Try.prog 22 #[.pointer (some ⟨g, 0, none⟩), .int .i64 n, .int .i64 seq, .agg #[.int .i64 re, .int .i64 rn]] w (REPost ok g (keep t n seq re rn) w) := by
  have HT := Lib.hid hT
  have HF := Lib.hid hf
  have hgl : g < w.heap.size := by obtain ⟨v, hb, _⟩ := hT; exact blk_lt hb
  by_cases h1 : (ask t.seats n seq).e = 0
  case neg =>
    have hA : keep t n seq re rn = ((ask t.seats n seq).e, t) := if_pos h1
    rw [hA]
    have h2 : ((ask t.seats n seq).e != 0) = true := by simpa using h1
    have h3 : ((ask t.seats n seq).e == 0) = false := by simpa using h1
    clear hA h1 hT hf
    go_enter Try.func22, Try.ntmps22
    go_wp2_with fail
    refine (AskR_calls (HT.out.ext ((Ext.refl Non w).alloc _)) HG n seq hq0 hq).mono ?_
    rintro e w1 ⟨rfl, he⟩
    have HE := Lib.hid (((Ext.refl Non w).alloc _).trans0 he)
    clear he
    unfold AskR.val
    go_wp2_with fail
    go_ret
    refine ⟨rfl, HT.out.ext ?_, Ext.of0 ?_⟩
    all_goals repeat (first | exact HE.out | refine Ext.alloc ?_ _)
  case pos =>
    by_cases h3 : (ask t.seats n seq).fresh = false
    · have hA : keep t n seq re rn = (91, t) := by unfold keep; rw [if_neg (by simpa using h1), if_pos h3]
      rw [hA]
      have h2 : ((ask t.seats n seq).e == 0) = true := by simpa using h1
      clear hA h1 hT hf
      go_enter Try.func22, Try.ntmps22
      go_wp2_with fail
      refine (AskR_calls (HT.out.ext ((Ext.refl Non w).alloc _)) HG n seq hq0 hq).mono ?_
      rintro e w1 ⟨rfl, he⟩
      have HE := Lib.hid (((Ext.refl Non w).alloc _).trans0 he)
      clear he
      unfold AskR.val
      go_wp2_with fail
      go_ret
      refine ⟨rfl, HT.out.ext ?_, Ext.of0 ?_⟩
      all_goals repeat (first | exact HE.out | refine Ext.alloc ?_ _)
    · have h3' : (ask t.seats n seq).fresh = true := by simpa using h3
      obtain ⟨k, s, hk, rfl, hseq, hseq1⟩ := ask_fresh h3'
      have hA : keep t s.ses seq re rn = (0, ⟨t.seats.set k ⟨s.ses, seq, re, rn⟩, t.last⟩) := by unfold keep; rw [if_neg (by simpa using h1), if_neg h3, map_set HG hk]
      rw [hA]
      have h2 : ((ask t.seats s.ses seq).e == 0) = true := by simpa using h1
      have h2' : ((ask t.seats s.ses seq).e != 0) = false := by simpa using h1
      have hlt := (List.getElem?_eq_some_iff.1 hk).1
      have hfew := HG.few
      have HK := Lib.hid hk
      have HQ := Lib.hid hseq
      clear hA h1 h3 hk hT hf hseq
      obtain ⟨v, hb, hr⟩ := HT.out
      obtain ⟨A, c, rfl, hc, hm⟩ := hr.slice
      have HB := Lib.hid hb
      have HR := Lib.hid hr
      clear hb hr
      go_enter Try.func22, Try.ntmps22
      go_wp2_with fail
      refine (AskR_calls (HT.out.ext ((Ext.refl Non w).alloc _)) HG s.ses seq hq0 hq).mono ?_
      rintro e w1 ⟨rfl, he⟩
      have b7 := he.obj (heap_alloc_new w _) (fun e => e)
      have E1 : Ext Non w w1 := ((Ext.refl Non w).alloc _).trans0 he
      have b1 := E1.obj HB.out (fun e => e)
      have hgl1 := blk_lt b1
      have c1 := blk_cell b1 1
      simp at c1
      have HE := Lib.hid E1
      have B7 := Lib.hid b7
      have B1 := Lib.hid b1
      clear he b7 E1 b1
      unfold AskR.val
      go_wp2_with (at_builtin; refine wpList_app seatK (v := .slice (some ⟨w1.heap.size + 1, 0, none⟩) 0 0) (vx := .slice A t.seats.length c) (ok := ok) (xs := ([] : List Seat)) (ys := t.seats) w1.heap.size rfl _ _ 38 47 _ 32 rfl Try.underlying38 info47 rfl (by decide) rfl rfl ?_ ?_ ?_ ?_ ?_ ?_ ?_)
      · have := Own.lit (d := seatK) (e := 47) (w := w1.alloc (.cells #[.int .i64 (ask t.seats s.ses seq).err, .int .i64 (ask t.seats s.ses seq).n] 25)) (base := w1.heap.size) (ok := ok) (Reps.nil _ _ _) (by simp) (by simp) (HF.out _ (by have := HE.out.size; simp; omega))
        simpa using this
      · refine (HR.out.bound.ext0 (Ext.alloc (Ext.alloc HE.out _) _)).mono (fun i hi => ⟨hi.1, fun e => ?_⟩)
        have := HE.out.size
        simp [Value.ownBlock] at e
        omega
      · intro i hi
        exact HF.out i (by have := HE.out.size; simp at hi; omega)
      · simp; omega
      · simp; omega
      · simp; omega
      intro v' w2 hown hext hblk
      have E2 : Ext Non w1 w2 := Ext.trans (Ext.alloc (Ext.alloc (Ext.refl Non w1) _) _) hext (fun i hi e => by simp [Value.ownBlock] at e; omega)
      obtain ⟨A2, c2, rfl, hc2, hm2⟩ := hown.slice
      have hA2 : ∃ g2, A2 = some ⟨g2, 0, none⟩ := by
        obtain ⟨_, inner, ho, _⟩ := hown
        rcases ho.2 with ⟨h, _⟩ | ⟨g2, cap, cur, h, _⟩
        · simp at h
          omega
        · simp at h
          exact ⟨g2, h.1⟩
      obtain ⟨g2, rfl⟩ := hA2
      obtain ⟨_, cur, hblk2⟩ := hown.to_blk
      have hg2 : w1.heap.size ≤ g2 := hblk2.basele
      have hgs := HE.out.size
      have hw7 := blk_lt B7.out
      have hne : g2 ≠ g := by omega
      have hne7 : g2 ≠ w.heap.size := by omega
      have b7 := E2.obj B7.out (fun e => e)
      have b3 := E2.obj B1.out (fun e => e)
      have d0 := blk_cell b7 0
      have d1 := blk_cell b7 1
      have y1 := blk_frozen b3 1
      have e1 := blk_cell b3 1
      simp at d0 d1 e1
      have hcs := hblk2.size
      have hcell : ∀ j, j < c2 * 4 → ∃ u, w2.cell? ⟨g2, j, none⟩ = some u := fun j hj => ⟨_, (cell_of_row w2 g2 j cur 47 (0, 0) hblk2.blk).trans (Array.getElem?_eq_getElem (by omega))⟩
      obtain ⟨u0, p0⟩ := hcell (k * 4) (by omega)
      obtain ⟨u1, p1⟩ := hcell (k * 4 + 1) (by omega)
      obtain ⟨u2, p2⟩ := hcell (k * 4 + 2) (by omega)
      obtain ⟨u3, p3⟩ := hcell (k * 4 + 3) (by omega)
      have z0 := blk_frozen hblk2.blk (k * 4)
      have z1 := blk_frozen hblk2.blk (k * 4 + 1)
      have z2 := blk_frozen hblk2.blk (k * 4 + 2)
      have z3 := blk_frozen hblk2.blk (k * 4 + 3)
      have BL := Lib.hid hblk2
      have B3 := Lib.hid b3
      have E3 := Lib.hid (HE.out.trans0 E2)
      have R3 : Hid (RefAt w2 ok g t) := HT.out.ext E3.out
      have q0 : (k : Int) < (t.seats.length : Int) := by omega
      have q1 : (0 : Int) ≤ (k : Int) := by omega
      clear hown hext hblk b7 b3 hcs hcell hblk2 c1 E2
      go_wp2_with fail
      go_region_law (first | (go_simp; go_at_call 37; refine (place_yes (RefAt.ext R3.out (Ext.drew (Ext.refl _ _))) HG HK.out).mono ?_; rintro e w3 ⟨rfl, he3⟩
                              have E4 : Ext Non w2 w3 := Ext.trans0 (Ext.drew (Ext.refl Non w2)) he3
                              have d0 := E4.cell d0 (fun e => e)
                              have d1 := E4.cell d1 (fun e => e)
                              have p0 := E4.cell p0 (fun e => e)
                              have p1 := E4.cell p1 (fun e => e)
                              have p2 := E4.cell p2 (fun e => e)
                              have p3 := E4.cell p3 (fun e => e)
                              have e1 := E4.cell e1 (fun e => e)
                              have b4 := E4.obj B3.out (fun e => e)
                              have bl4 := E4.obj BL.out.blk (fun e => e)
                              have z0 := blk_frozen bl4 (k * 4)
                              have z1 := blk_frozen bl4 (k * 4 + 1)
                              have z2 := blk_frozen bl4 (k * 4 + 2)
                              have z3 := blk_frozen bl4 (k * 4 + 3)
                              have y1 := blk_frozen b4 1
                              have HE4 := Lib.hid E4
                              have B4 := Lib.hid b4
                              have BL4 := Lib.hid bl4
                              clear E4 b4 bl4 he3))
      all_goals
        go_wp2_with fail
        go_ret
        have FB := Blk.set4 (w := w3) (base := w1.heap.size) (ok := ok) (g := g2) (c := c2) (xs := t.seats) (cur := cur) ⟨BL.out.okg, BL.out.basele, BL4.out, BL.out.len, BL.out.cap, BL.out.size, BL.out.take⟩ hlt ⟨s.ses, seq, re, rn⟩
        have B5 := blk_far (blk_far (blk_far (blk_far B4.out (p := ⟨g2, k * 4, none⟩) hne.symm (.int .i64 s.ses)) (p := ⟨g2, k * 4 + 1, none⟩) hne.symm (.int .i64 seq)) (p := ⟨g2, k * 4 + 2, none⟩) hne.symm (.int .i64 re)) (p := ⟨g2, k * 4 + 3, none⟩) hne.symm (.int .i64 rn)
        have R5 := (seat_own FB).rd
        rw [List.length_set] at R5
        have E5 : Ext Non w ((((w3.setCell ⟨g2, k * 4, none⟩ (.int .i64 s.ses)).setCell ⟨g2, k * 4 + 1, none⟩ (.int .i64 seq)).setCell ⟨g2, k * 4 + 2, none⟩ (.int .i64 re)).setCell ⟨g2, k * 4 + 3, none⟩ (.int .i64 rn)) := by
          have E4 := E3.out.trans0 HE4.out
          repeat (first | exact E4 | refine Ext.setNew ?_ (by omega) _)
        refine ⟨rfl, ⟨.slice (some ⟨g2, 0, none⟩) t.seats.length c2, ?_, ?_⟩, ?_⟩
        · have := blk_set B5 1 (.slice (some ⟨g2, 0, none⟩) t.seats.length c2)
          simpa using this
        · exact R5.ext ((Ext.refl (Only g) _).setCell (p := ⟨g, 1, none⟩) (fun _ => rfl) _) (fun i hi _ e => hg (e ▸ hi))
        · exact (E5.of0 (M := Only g)).setCell (p := ⟨g, 1, none⟩) (fun _ => rfl) _
end Go.Proofs.Ytiebnjkjgobklaa
