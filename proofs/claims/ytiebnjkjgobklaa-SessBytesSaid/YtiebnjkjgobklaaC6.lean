/- The document's reader: its reads. Printed by genrr.py. -/
import Derived.Test.YtiebnjkjgobklaaC5
namespace Go.Proofs.Ytiebnjkjgobklaa
open Go.RowKit Go.TM
section
variable {w : World} {ok : Nat → Prop} {g : Nat} {bs : List UInt8} {a : Nat} {err : Int}

def rWithin (bs : List UInt8) (a : Nat) (err lo hi : Int) : Int × Nat × Int :=
  if (rNum bs a err).2.2 ≠ 0 then (0, (rNum bs a err).2.1, (rNum bs a err).2.2) else if (rNum bs a err).1 < lo ∨ hi < (rNum bs a err).1 then (0, a, 5) else rNum bs a err

theorem rNum_eq {m k : Nat} {e : Int} (h : numR (bs.drop a) = (m, k, e)) : rNum bs a 0 = if e ≠ 0 then (0, a, e) else ((m : Int), a + k, 0) := rNum_of (r := (m, k, e)) h
theorem rr_some {A : Option Addr} {n c : Nat} (h : Rd Kd.u8 w ok (.slice A n c) bs) (h0 : bs ≠ []) : ∃ gs off, A = some ⟨gs, off, none⟩ := by
  obtain ⟨A', c', he', _, _, hx⟩ := h
  simp only [Value.slice.injEq] at he'
  obtain ⟨rfl, _, rfl⟩ := he'
  obtain ⟨g', off', h3, _⟩ := hx (List.length_pos_iff.2 h0)
  exact ⟨g', off', h3⟩

set_option maxHeartbeats 2000000 in
theorem RrNumber_calls (hR : RrAt w ok g bs a err) (hg : ¬ ok g) (ha : a ≤ bs.length) : Calls Try.prog 44 #[.pointer (some ⟨g, 0, none⟩)] w (RrPost ok g bs w (.int .i64 (rNum bs a err).1) (rNum bs a err).2) := by
  obtain ⟨v, c0, c1, c2, y1, y2, hr⟩ := hR.cells
  obtain ⟨A, c, rfl, hc, hm⟩ := hr.slice
  have HR := Lib.hid hR
  have HRR := Lib.hid hr
  clear hR hr
  by_cases he : err = 0
  · subst he
    obtain ⟨⟨m, k, e⟩, hr⟩ : ∃ r, numR (bs.drop a) = r := ⟨_, rfl⟩
    have HN := Lib.hid hr
    have hrn := rNum_eq hr
    have hnr : NumR (bs.drop a) = .tuple #[.int .i64 (m : Int), .int .i64 (k : Int), .int .i64 e] := by unfold NumR; rw [hr]
    have HRN := Lib.hid hrn
    have HNR := Lib.hid hnr
    clear hr hrn hnr
    have h3 : bs = [] ∨ (bs ≠ [] ∧ a = c) ∨ (bs ≠ [] ∧ ¬ c = a) := by
      rcases Classical.em (bs = []) with hb | hb
      · exact .inl hb
      · rcases Classical.em (c = a) with hca | hca
        · exact .inr (.inl ⟨hb, hca.symm⟩)
        · exact .inr (.inr ⟨hb, hca⟩)
    rcases h3 with hb | ⟨hb, hca⟩ | ⟨hb, hca⟩
    case' inl =>
      have ha0 : a = 0 := by rw [hb] at ha; simpa using ha
      have c0' : w.cell? ⟨g, 0, none⟩ = some (.slice A 0 c) := by rw [c0, hb]; rfl
      have c1' : w.cell? ⟨g, 1, none⟩ = some (.int .i64 0) := by rw [c1, ha0]; rfl
      have HD : Hid (Rd Kd.u8 w.drew ok (.slice A 0 c) (bs.drop a)) := by
        show Rd _ _ _ _ _
        have := HRR.out.ext0 (Ext.refl Non w).drew
        rw [hb] at this ⊢
        simpa using this
      clear c0 c1 hb ha0 hc hm
      go_enter Try.func44, Try.ntmps44
      go_wp2_with fail
      go_region_held3 (fun W => W.cell? ⟨g, 0, none⟩ = some (.slice A 0 c) ∧ W.cell? ⟨g, 1, none⟩ = some (.int .i64 0)) (first | assumption | exact ⟨c0', c1'⟩) (first
        | (go_at_call 52
           refine (numberR_calls HD.out).mono ?_
           rintro e' w2 ⟨rfl, rfl⟩
           rw [HNR.out])
        | fail)
    case' inr.inl =>
      obtain ⟨gs, off, rfl⟩ := rr_some HRR.out hb
      have q0 : (0 : Int) ≤ (a : Int) := by omega
      have q1 : (a : Int) ≤ (bs.length : Int) := by omega
      have HD := Lib.hid ((HRR.out.ext0 (Ext.refl Non w).drew).drop (k := a) ha)
      have HKS : Hid (a * Kd.u8.sz = a) := Nat.mul_one a
      have HD2 : Hid (Rd Kd.u8 w.drew ok (.slice (if c = a then some ⟨gs, off, none⟩ else some ⟨gs, off + a, none⟩) (bs.length - a) (c - a)) (bs.drop a)) := by
        show Rd _ _ _ _ _
        have := HD.out
        rwa [HKS.out] at this
      clear HD HKS hb
      subst hca
      have hlen : bs.length = a := by omega
      have c0' : w.cell? ⟨g, 0, none⟩ = some (.slice (some ⟨gs, off, none⟩) a a) := by rw [c0, hlen]
      have HD3 : Hid (Rd Kd.u8 w.drew ok (.slice (some ⟨gs, off, none⟩) 0 0) (bs.drop a)) := by
        show Rd _ _ _ _ _
        have h := HD2.out
        rw [if_pos rfl, hlen, Nat.sub_self] at h
        exact h
      clear c0 hc q1 hlen hm ha
      go_enter Try.func44, Try.ntmps44
      go_wp2_with fail
      go_region_held3 (fun W => W.cell? ⟨g, 0, none⟩ = some (.slice (some ⟨gs, off, none⟩) a a) ∧ W.cell? ⟨g, 1, none⟩ = some (.int .i64 (a : Int))) (first | assumption | exact ⟨c0', c1⟩) (first
        | (go_at_call 52
           refine (numberR_calls HD3.out).mono ?_
           rintro e' w2 ⟨rfl, rfl⟩
           rw [HNR.out])
        | fail)
    case' inr.inr =>
      obtain ⟨gs, off, rfl⟩ := rr_some HRR.out hb
      have q0 : (0 : Int) ≤ (a : Int) := by omega
      have q1 : (a : Int) ≤ (bs.length : Int) := by omega
      have HD := Lib.hid ((HRR.out.ext0 (Ext.refl Non w).drew).drop (k := a) ha)
      have HKS : Hid (a * Kd.u8.sz = a) := Nat.mul_one a
      have HD2 : Hid (Rd Kd.u8 w.drew ok (.slice (if c = a then some ⟨gs, off, none⟩ else some ⟨gs, off + a, none⟩) (bs.length - a) (c - a)) (bs.drop a)) := by
        show Rd _ _ _ _ _
        have := HD.out
        rwa [HKS.out] at this
      clear HD HKS hb
      have HD3 : Hid (Rd Kd.u8 w.drew ok (.slice (some ⟨gs, off + a, none⟩) (bs.length - a) (c - a)) (bs.drop a)) := by
        show Rd _ _ _ _ _
        have h := HD2.out
        rw [if_neg hca] at h
        exact h
      go_enter Try.func44, Try.ntmps44
      go_wp2_with fail
      go_region_held3 (fun W => W.cell? ⟨g, 0, none⟩ = some (.slice (some ⟨gs, off, none⟩) bs.length c) ∧ W.cell? ⟨g, 1, none⟩ = some (.int .i64 (a : Int))) (first | assumption | exact ⟨c0, c1⟩) (first
        | (go_at_call 52
           refine (numberR_calls HD3.out).mono ?_
           rintro e' w2 ⟨rfl, rfl⟩
           rw [HNR.out])
        | fail)
    all_goals
      have E2 : Hid (Ext Non w w.drew) := (Ext.refl Non w).drew
      have R2 := Lib.hid (HR.out.ext E2.out)
      generalize w.drew = w2 at E2 R2 ⊢
      rcases Classical.em (e = 0) with he | he
      · subst he
        obtain ⟨hk0, hkl, _, hmm⟩ := numR_ok HN.out
        rw [List.length_drop] at hkl
        have hak : a + k ≤ 9223372036854775807 := by
          obtain ⟨_, _, _, _, h⟩ := HRR.out.slice
          omega
        go_wp2_with fail
        refine (on_ok R2.out hg k hak).mono ?_
        rintro e' w3 ⟨rfl, h1, h2⟩
        have R3 := Lib.hid h1
        have E3 : Hid (Ext (Only g) w w3) := E2.out.of0.trans h2 (fun _ _ e => e)
        clear h1 h2
        go_wp2_with fail
        go_ret
        rw [HRN.out, if_neg (by simp)]
        exact ⟨rfl, R3.out, E3.out⟩
      · have HE := Lib.hid he
        clear he
        go_wp2_with fail
        refine (on_bad R2.out hg (k : Int) e HE.out).mono ?_
        rintro e' w3 ⟨rfl, h1, h2⟩
        have R3 := Lib.hid h1
        have E3 : Hid (Ext (Only g) w w3) := E2.out.of0.trans h2 (fun _ _ e => e)
        clear h1 h2
        go_wp2_with fail
        go_ret
        rw [HRN.out, if_pos HE.out]
        exact ⟨rfl, R3.out, E3.out⟩
  · have q : (err != 0) = true := by simpa using he
    rw [show rNum bs a err = (0, a, err) from by unfold rNum; rw [if_pos he]]
    clear he
    go_enter Try.func44, Try.ntmps44
    go_wp2_with fail
    go_ret
    exact ⟨rfl, HR.out, Ext.refl _ _⟩

set_option maxHeartbeats 2000000 in
theorem RrWithin_calls (hR : RrAt w ok g bs a err) (hg : ¬ ok g) (ha : a ≤ bs.length) (lo hi : Int) : Calls Try.prog 43 #[.pointer (some ⟨g, 0, none⟩), .int .i64 lo, .int .i64 hi] w (RrPost ok g bs w (.int .i64 (rWithin bs a err lo hi).1) (rWithin bs a err lo hi).2) := by
  obtain ⟨v, c0, c1, c2, y1, y2, hr⟩ := hR.cells
  obtain ⟨A, c, rfl, hc, hm⟩ := hr.slice
  have HR := Lib.hid hR
  have HRR := Lib.hid hr
  clear hR hr
  by_cases he : err = 0
  · subst he
    obtain ⟨⟨m, k, e⟩, hr⟩ : ∃ r, numR (bs.drop a) = r := ⟨_, rfl⟩
    have HN := Lib.hid hr
    have hrn := rNum_eq hr
    have hnr : NumR (bs.drop a) = .tuple #[.int .i64 (m : Int), .int .i64 (k : Int), .int .i64 e] := by unfold NumR; rw [hr]
    have HRN := Lib.hid hrn
    have HNR := Lib.hid hnr
    clear hr hrn hnr
    have h3 : bs = [] ∨ (bs ≠ [] ∧ a = c) ∨ (bs ≠ [] ∧ ¬ c = a) := by
      rcases Classical.em (bs = []) with hb | hb
      · exact .inl hb
      · rcases Classical.em (c = a) with hca | hca
        · exact .inr (.inl ⟨hb, hca.symm⟩)
        · exact .inr (.inr ⟨hb, hca⟩)
    rcases h3 with hb | ⟨hb, hca⟩ | ⟨hb, hca⟩
    case' inl =>
      have ha0 : a = 0 := by rw [hb] at ha; simpa using ha
      have c0' : w.cell? ⟨g, 0, none⟩ = some (.slice A 0 c) := by rw [c0, hb]; rfl
      have c1' : w.cell? ⟨g, 1, none⟩ = some (.int .i64 0) := by rw [c1, ha0]; rfl
      have HD : Hid (Rd Kd.u8 w.drew ok (.slice A 0 c) (bs.drop a)) := by
        show Rd _ _ _ _ _
        have := HRR.out.ext0 (Ext.refl Non w).drew
        rw [hb] at this ⊢
        simpa using this
      clear c0 c1 hb ha0 hc hm
      go_enter Try.func43, Try.ntmps43
      go_wp2_with fail
      go_region_held3 (fun W => W.cell? ⟨g, 0, none⟩ = some (.slice A 0 c) ∧ W.cell? ⟨g, 1, none⟩ = some (.int .i64 0)) (first | assumption | exact ⟨c0', c1'⟩) (first
        | (go_at_call 52
           refine (numberR_calls HD.out).mono ?_
           rintro e' w2 ⟨rfl, rfl⟩
           rw [HNR.out])
        | fail)
    case' inr.inl =>
      obtain ⟨gs, off, rfl⟩ := rr_some HRR.out hb
      have q0 : (0 : Int) ≤ (a : Int) := by omega
      have q1 : (a : Int) ≤ (bs.length : Int) := by omega
      have HD := Lib.hid ((HRR.out.ext0 (Ext.refl Non w).drew).drop (k := a) ha)
      have HKS : Hid (a * Kd.u8.sz = a) := Nat.mul_one a
      have HD2 : Hid (Rd Kd.u8 w.drew ok (.slice (if c = a then some ⟨gs, off, none⟩ else some ⟨gs, off + a, none⟩) (bs.length - a) (c - a)) (bs.drop a)) := by
        show Rd _ _ _ _ _
        have := HD.out
        rwa [HKS.out] at this
      clear HD HKS hb
      subst hca
      have hlen : bs.length = a := by omega
      have c0' : w.cell? ⟨g, 0, none⟩ = some (.slice (some ⟨gs, off, none⟩) a a) := by rw [c0, hlen]
      have HD3 : Hid (Rd Kd.u8 w.drew ok (.slice (some ⟨gs, off, none⟩) 0 0) (bs.drop a)) := by
        show Rd _ _ _ _ _
        have h := HD2.out
        rw [if_pos rfl, hlen, Nat.sub_self] at h
        exact h
      clear c0 hc q1 hlen hm ha
      go_enter Try.func43, Try.ntmps43
      go_wp2_with fail
      go_region_held3 (fun W => W.cell? ⟨g, 0, none⟩ = some (.slice (some ⟨gs, off, none⟩) a a) ∧ W.cell? ⟨g, 1, none⟩ = some (.int .i64 (a : Int))) (first | assumption | exact ⟨c0', c1⟩) (first
        | (go_at_call 52
           refine (numberR_calls HD3.out).mono ?_
           rintro e' w2 ⟨rfl, rfl⟩
           rw [HNR.out])
        | fail)
    case' inr.inr =>
      obtain ⟨gs, off, rfl⟩ := rr_some HRR.out hb
      have q0 : (0 : Int) ≤ (a : Int) := by omega
      have q1 : (a : Int) ≤ (bs.length : Int) := by omega
      have HD := Lib.hid ((HRR.out.ext0 (Ext.refl Non w).drew).drop (k := a) ha)
      have HKS : Hid (a * Kd.u8.sz = a) := Nat.mul_one a
      have HD2 : Hid (Rd Kd.u8 w.drew ok (.slice (if c = a then some ⟨gs, off, none⟩ else some ⟨gs, off + a, none⟩) (bs.length - a) (c - a)) (bs.drop a)) := by
        show Rd _ _ _ _ _
        have := HD.out
        rwa [HKS.out] at this
      clear HD HKS hb
      have HD3 : Hid (Rd Kd.u8 w.drew ok (.slice (some ⟨gs, off + a, none⟩) (bs.length - a) (c - a)) (bs.drop a)) := by
        show Rd _ _ _ _ _
        have h := HD2.out
        rw [if_neg hca] at h
        exact h
      go_enter Try.func43, Try.ntmps43
      go_wp2_with fail
      go_region_held3 (fun W => W.cell? ⟨g, 0, none⟩ = some (.slice (some ⟨gs, off, none⟩) bs.length c) ∧ W.cell? ⟨g, 1, none⟩ = some (.int .i64 (a : Int))) (first | assumption | exact ⟨c0, c1⟩) (first
        | (go_at_call 52
           refine (numberR_calls HD3.out).mono ?_
           rintro e' w2 ⟨rfl, rfl⟩
           rw [HNR.out])
        | fail)
    all_goals
      have E2 : Hid (Ext Non w w.drew) := (Ext.refl Non w).drew
      have R2 := Lib.hid (HR.out.ext E2.out)
      generalize w.drew = w2 at E2 R2 ⊢
      rcases Classical.em (e = 0) with he | he
      · subst he
        obtain ⟨hk0, hkl, _, hmm⟩ := numR_ok HN.out
        rw [List.length_drop] at hkl
        have hak : a + k ≤ 9223372036854775807 := by
          obtain ⟨_, _, _, _, h⟩ := HRR.out.slice
          omega
        have HAK := Lib.hid hak
        clear hak
        by_cases hlo : (m : Int) < lo
        · have HW : Hid (rWithin bs a 0 lo hi = (0, a, 5)) := by show _ = _; unfold rWithin; rw [HRN.out]; simp [hlo]
          go_wp2_with fail
          refine (on_bad R2.out hg (k : Int) 5 (by simp)).mono ?_
          rintro e' w3 ⟨rfl, h1, h2⟩
          have R3 := Lib.hid h1
          have E3 : Hid (Ext (Only g) w w3) := E2.out.of0.trans h2 (fun _ _ e => e)
          clear h1 h2
          go_wp2_with fail
          go_ret
          rw [HW.out]
          exact ⟨rfl, R3.out, E3.out⟩
        · by_cases hhi : hi < (m : Int)
          · have HW : Hid (rWithin bs a 0 lo hi = (0, a, 5)) := by show _ = _; unfold rWithin; rw [HRN.out]; simp [hhi]
            go_wp2_with fail
            refine (on_bad R2.out hg (k : Int) 5 (by simp)).mono ?_
            rintro e' w3 ⟨rfl, h1, h2⟩
            have R3 := Lib.hid h1
            have E3 : Hid (Ext (Only g) w w3) := E2.out.of0.trans h2 (fun _ _ e => e)
            clear h1 h2
            go_wp2_with fail
            go_ret
            rw [HW.out]
            exact ⟨rfl, R3.out, E3.out⟩
          · have HW : Hid (rWithin bs a 0 lo hi = ((m : Int), a + k, 0)) := by show _ = _; unfold rWithin; rw [HRN.out]; simp [hlo, hhi]
            go_wp2_with fail
            refine (on_ok R2.out hg k HAK.out).mono ?_
            rintro e' w3 ⟨rfl, h1, h2⟩
            have R3 := Lib.hid h1
            have E3 : Hid (Ext (Only g) w w3) := E2.out.of0.trans h2 (fun _ _ e => e)
            clear h1 h2
            go_wp2_with fail
            go_ret
            rw [HW.out]
            exact ⟨rfl, R3.out, E3.out⟩
      · have HE := Lib.hid he
        have q4 : (e == 0) = false := by simpa using he
        have HW : Hid (rWithin bs a 0 lo hi = (0, a, e)) := by show _ = _; unfold rWithin; rw [HRN.out]; simp [he]
        clear he
        go_wp2_with fail
        refine (on_bad R2.out hg (k : Int) e HE.out).mono ?_
        rintro e' w3 ⟨rfl, h1, h2⟩
        have R3 := Lib.hid h1
        have E3 : Hid (Ext (Only g) w w3) := E2.out.of0.trans h2 (fun _ _ e => e)
        clear h1 h2
        go_wp2_with fail
        go_ret
        rw [HW.out]
        exact ⟨rfl, R3.out, E3.out⟩
  · have q : (err != 0) = true := by simpa using he
    rw [show rWithin bs a err lo hi = (0, a, err) from by unfold rWithin rNum; simp [he]]
    clear he
    go_enter Try.func43, Try.ntmps43
    go_wp2_with fail
    go_ret
    exact ⟨rfl, HR.out, Ext.refl _ _⟩
end
end Go.Proofs.Ytiebnjkjgobklaa
