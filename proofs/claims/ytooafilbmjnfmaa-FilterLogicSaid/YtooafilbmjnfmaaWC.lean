/- The document's reader: its reads. Printed by genrr.py. The document's reader: Signed, End. The document's reader: Text. -/
import Derived.Test.YtooafilbmjnfmaaWB
namespace Go.Proofs.Ytooafilbmjnfmaa
open Go.RowKit Go.TM
section
variable {w : World} {ok : Nat → Prop} {g : Nat} {bs : List UInt8} {a : Nat} {err : Int}

set_option maxRecDepth 100000 in
theorem rNum_eq {m k : Nat} {e : Int} (h : numR (bs.drop a) = (m, k, e)) : rNum bs a 0 = if e ≠ 0 then (0, a, e) else ((m : Int), a + k, 0) := rNum_of (r := (m, k, e)) h
set_option maxRecDepth 100000 in
theorem rr_some {A : Option Addr} {n c : Nat} (h : Rd Kd.u8 w ok (.slice A n c) bs) (h0 : bs ≠ []) : ∃ gs off, A = some ⟨gs, off, none⟩ := by
  obtain ⟨A', c', he', _, _, hx⟩ := h
  simp only [Value.slice.injEq] at he'
  obtain ⟨rfl, _, rfl⟩ := he'
  obtain ⟨g', off', h3, _⟩ := hx (List.length_pos_iff.2 h0)
  exact ⟨g', off', h3⟩

set_option maxHeartbeats 2000000 in
set_option maxRecDepth 100000 in
theorem RrNumber_calls (hR : RrAt w ok g bs a err) (hg : ¬ ok g) (ha : a ≤ bs.length) : Calls Try.prog 56 #[.pointer (some ⟨g, 0, none⟩)] w (RrPost ok g bs w (.int .i64 (rNum bs a err).1) (rNum bs a err).2) := by
  obtain ⟨v, c0, c1, c2, y1, y2, hr⟩ := hR.cells
  obtain ⟨A, c, rfl, hc, hm⟩ := hr.slice
  have HR := Lib.hid hR
  have HRR := Lib.hid hr
  clear hR hr
  by_cases he : err = 0
  · subst he
    obtain ⟨⟨m, k, e⟩, hr⟩ : ∃ r, numR (bs.drop a) = r := ⟨_, rfl⟩
    have HN := Lib.hid hr
    have hrn := rNum_eq hr
    have hnr : NumR (bs.drop a) = .tuple #[.int .i64 (m : Int), .int .i64 (k : Int), .int .i64 e] := by unfold NumR; rw [hr]
    have HRN := Lib.hid hrn
    have HNR := Lib.hid hnr
    clear hr hrn hnr
    have h3 : bs = [] ∨ (bs ≠ [] ∧ a = c) ∨ (bs ≠ [] ∧ ¬ c = a) := by
      rcases Classical.em (bs = []) with hb | hb
      · exact .inl hb
      · rcases Classical.em (c = a) with hca | hca
        · exact .inr (.inl ⟨hb, hca.symm⟩)
        · exact .inr (.inr ⟨hb, hca⟩)
    rcases h3 with hb | ⟨hb, hca⟩ | ⟨hb, hca⟩
    case' inl =>
      have ha0 : a = 0 := by rw [hb] at ha; simpa using ha
      have c0' : w.cell? ⟨g, 0, none⟩ = some (.slice A 0 c) := by rw [c0, hb]; rfl
      have c1' : w.cell? ⟨g, 1, none⟩ = some (.int .i64 0) := by rw [c1, ha0]; rfl
      have HD : Hid (Rd Kd.u8 w.drew ok (.slice A 0 c) (bs.drop a)) := by
        show Rd _ _ _ _ _
        have := HRR.out.ext0 (Ext.refl Non w).drew
        rw [hb] at this ⊢
        simpa using this
      clear c0 c1 hb ha0 hc hm
      go_enter Try.func56, Try.ntmps56
      go_wp2_with fail
      go_region_held3 (fun W => W.cell? ⟨g, 0, none⟩ = some (.slice A 0 c) ∧ W.cell? ⟨g, 1, none⟩ = some (.int .i64 0)) (first | assumption | exact ⟨c0', c1'⟩) (first
        | (go_at_call 72
           refine (numberR_calls HD.out).mono ?_
           rintro e' w2 ⟨rfl, rfl⟩
           rw [HNR.out])
        | fail)
    case' inr.inl =>
      obtain ⟨gs, off, rfl⟩ := rr_some HRR.out hb
      have q0 : (0 : Int) ≤ (a : Int) := by omega
      have q1 : (a : Int) ≤ (bs.length : Int) := by omega
      have HD := Lib.hid ((HRR.out.ext0 (Ext.refl Non w).drew).drop (k := a) ha)
      have HKS : Hid (a * Kd.u8.sz = a) := Nat.mul_one a
      have HD2 : Hid (Rd Kd.u8 w.drew ok (.slice (if c = a then some ⟨gs, off, none⟩ else some ⟨gs, off + a, none⟩) (bs.length - a) (c - a)) (bs.drop a)) := by
        show Rd _ _ _ _ _
        have := HD.out
        rwa [HKS.out] at this
      clear HD HKS hb
      subst hca
      have hlen : bs.length = a := by omega
      have c0' : w.cell? ⟨g, 0, none⟩ = some (.slice (some ⟨gs, off, none⟩) a a) := by rw [c0, hlen]
      have HD3 : Hid (Rd Kd.u8 w.drew ok (.slice (some ⟨gs, off, none⟩) 0 0) (bs.drop a)) := by
        show Rd _ _ _ _ _
        have h := HD2.out
        rw [if_pos rfl, hlen, Nat.sub_self] at h
        exact h
      clear c0 hc q1 hlen hm ha
      go_enter Try.func56, Try.ntmps56
      go_wp2_with fail
      go_region_held3 (fun W => W.cell? ⟨g, 0, none⟩ = some (.slice (some ⟨gs, off, none⟩) a a) ∧ W.cell? ⟨g, 1, none⟩ = some (.int .i64 (a : Int))) (first | assumption | exact ⟨c0', c1⟩) (first
        | (go_at_call 72
           refine (numberR_calls HD3.out).mono ?_
           rintro e' w2 ⟨rfl, rfl⟩
           rw [HNR.out])
        | fail)
    case' inr.inr =>
      obtain ⟨gs, off, rfl⟩ := rr_some HRR.out hb
      have q0 : (0 : Int) ≤ (a : Int) := by omega
      have q1 : (a : Int) ≤ (bs.length : Int) := by omega
      have HD := Lib.hid ((HRR.out.ext0 (Ext.refl Non w).drew).drop (k := a) ha)
      have HKS : Hid (a * Kd.u8.sz = a) := Nat.mul_one a
      have HD2 : Hid (Rd Kd.u8 w.drew ok (.slice (if c = a then some ⟨gs, off, none⟩ else some ⟨gs, off + a, none⟩) (bs.length - a) (c - a)) (bs.drop a)) := by
        show Rd _ _ _ _ _
        have := HD.out
        rwa [HKS.out] at this
      clear HD HKS hb
      have HD3 : Hid (Rd Kd.u8 w.drew ok (.slice (some ⟨gs, off + a, none⟩) (bs.length - a) (c - a)) (bs.drop a)) := by
        show Rd _ _ _ _ _
        have h := HD2.out
        rw [if_neg hca] at h
        exact h
      go_enter Try.func56, Try.ntmps56
      go_wp2_with fail
      go_region_held3 (fun W => W.cell? ⟨g, 0, none⟩ = some (.slice (some ⟨gs, off, none⟩) bs.length c) ∧ W.cell? ⟨g, 1, none⟩ = some (.int .i64 (a : Int))) (first | assumption | exact ⟨c0, c1⟩) (first
        | (go_at_call 72
           refine (numberR_calls HD3.out).mono ?_
           rintro e' w2 ⟨rfl, rfl⟩
           rw [HNR.out])
        | fail)
    all_goals
      have E2 : Hid (Ext Non w w.drew) := (Ext.refl Non w).drew
      have R2 := Lib.hid (HR.out.ext E2.out)
      generalize w.drew = w2 at E2 R2 ⊢
      rcases Classical.em (e = 0) with he | he
      · subst he
        obtain ⟨hk0, hkl, _, hmm⟩ := numR_ok HN.out
        rw [List.length_drop] at hkl
        have hak : a + k ≤ 9223372036854775807 := by
          obtain ⟨_, _, _, _, h⟩ := HRR.out.slice
          omega
        go_wp2_with fail
        refine (on_ok R2.out hg k hak).mono ?_
        rintro e' w3 ⟨rfl, h1, h2⟩
        have R3 := Lib.hid h1
        have E3 : Hid (Ext (Only g) w w3) := E2.out.of0.trans h2 (fun _ _ e => e)
        clear h1 h2
        go_wp2_with fail
        go_ret
        rw [HRN.out, if_neg (by simp)]
        exact ⟨rfl, R3.out, E3.out⟩
      · have HE := Lib.hid he
        clear he
        go_wp2_with fail
        refine (on_bad R2.out hg (k : Int) e HE.out).mono ?_
        rintro e' w3 ⟨rfl, h1, h2⟩
        have R3 := Lib.hid h1
        have E3 : Hid (Ext (Only g) w w3) := E2.out.of0.trans h2 (fun _ _ e => e)
        clear h1 h2
        go_wp2_with fail
        go_ret
        rw [HRN.out, if_pos HE.out]
        exact ⟨rfl, R3.out, E3.out⟩
  · have q : (err != 0) = true := by simpa using he
    rw [show rNum bs a err = (0, a, err) from by unfold rNum; rw [if_pos he]]
    clear he
    go_enter Try.func56, Try.ntmps56
    go_wp2_with fail
    go_ret
    exact ⟨rfl, HR.out, Ext.refl _ _⟩

set_option maxHeartbeats 2000000 in
set_option maxRecDepth 100000 in
theorem RrWithin_calls (hR : RrAt w ok g bs a err) (hg : ¬ ok g) (ha : a ≤ bs.length) (lo hi : Int) : Calls Try.prog 58 #[.pointer (some ⟨g, 0, none⟩), .int .i64 lo, .int .i64 hi] w (RrPost ok g bs w (.int .i64 (rWithin bs a err lo hi).1) (rWithin bs a err lo hi).2) := by
  obtain ⟨v, c0, c1, c2, y1, y2, hr⟩ := hR.cells
  obtain ⟨A, c, rfl, hc, hm⟩ := hr.slice
  have HR := Lib.hid hR
  have HRR := Lib.hid hr
  clear hR hr
  by_cases he : err = 0
  · subst he
    obtain ⟨⟨m, k, e⟩, hr⟩ : ∃ r, numR (bs.drop a) = r := ⟨_, rfl⟩
    have HN := Lib.hid hr
    have hrn := rNum_eq hr
    have hnr : NumR (bs.drop a) = .tuple #[.int .i64 (m : Int), .int .i64 (k : Int), .int .i64 e] := by unfold NumR; rw [hr]
    have HRN := Lib.hid hrn
    have HNR := Lib.hid hnr
    clear hr hrn hnr
    have h3 : bs = [] ∨ (bs ≠ [] ∧ a = c) ∨ (bs ≠ [] ∧ ¬ c = a) := by
      rcases Classical.em (bs = []) with hb | hb
      · exact .inl hb
      · rcases Classical.em (c = a) with hca | hca
        · exact .inr (.inl ⟨hb, hca.symm⟩)
        · exact .inr (.inr ⟨hb, hca⟩)
    rcases h3 with hb | ⟨hb, hca⟩ | ⟨hb, hca⟩
    case' inl =>
      have ha0 : a = 0 := by rw [hb] at ha; simpa using ha
      have c0' : w.cell? ⟨g, 0, none⟩ = some (.slice A 0 c) := by rw [c0, hb]; rfl
      have c1' : w.cell? ⟨g, 1, none⟩ = some (.int .i64 0) := by rw [c1, ha0]; rfl
      have HD : Hid (Rd Kd.u8 w.drew ok (.slice A 0 c) (bs.drop a)) := by
        show Rd _ _ _ _ _
        have := HRR.out.ext0 (Ext.refl Non w).drew
        rw [hb] at this ⊢
        simpa using this
      clear c0 c1 hb ha0 hc hm
      go_enter Try.func58, Try.ntmps58
      go_wp2_with fail
      go_region_held3 (fun W => W.cell? ⟨g, 0, none⟩ = some (.slice A 0 c) ∧ W.cell? ⟨g, 1, none⟩ = some (.int .i64 0)) (first | assumption | exact ⟨c0', c1'⟩) (first
        | (go_at_call 72
           refine (numberR_calls HD.out).mono ?_
           rintro e' w2 ⟨rfl, rfl⟩
           rw [HNR.out])
        | fail)
    case' inr.inl =>
      obtain ⟨gs, off, rfl⟩ := rr_some HRR.out hb
      have q0 : (0 : Int) ≤ (a : Int) := by omega
      have q1 : (a : Int) ≤ (bs.length : Int) := by omega
      have HD := Lib.hid ((HRR.out.ext0 (Ext.refl Non w).drew).drop (k := a) ha)
      have HKS : Hid (a * Kd.u8.sz = a) := Nat.mul_one a
      have HD2 : Hid (Rd Kd.u8 w.drew ok (.slice (if c = a then some ⟨gs, off, none⟩ else some ⟨gs, off + a, none⟩) (bs.length - a) (c - a)) (bs.drop a)) := by
        show Rd _ _ _ _ _
        have := HD.out
        rwa [HKS.out] at this
      clear HD HKS hb
      subst hca
      have hlen : bs.length = a := by omega
      have c0' : w.cell? ⟨g, 0, none⟩ = some (.slice (some ⟨gs, off, none⟩) a a) := by rw [c0, hlen]
      have HD3 : Hid (Rd Kd.u8 w.drew ok (.slice (some ⟨gs, off, none⟩) 0 0) (bs.drop a)) := by
        show Rd _ _ _ _ _
        have h := HD2.out
        rw [if_pos rfl, hlen, Nat.sub_self] at h
        exact h
      clear c0 hc q1 hlen hm ha
      go_enter Try.func58, Try.ntmps58
      go_wp2_with fail
      go_region_held3 (fun W => W.cell? ⟨g, 0, none⟩ = some (.slice (some ⟨gs, off, none⟩) a a) ∧ W.cell? ⟨g, 1, none⟩ = some (.int .i64 (a : Int))) (first | assumption | exact ⟨c0', c1⟩) (first
        | (go_at_call 72
           refine (numberR_calls HD3.out).mono ?_
           rintro e' w2 ⟨rfl, rfl⟩
           rw [HNR.out])
        | fail)
    case' inr.inr =>
      obtain ⟨gs, off, rfl⟩ := rr_some HRR.out hb
      have q0 : (0 : Int) ≤ (a : Int) := by omega
      have q1 : (a : Int) ≤ (bs.length : Int) := by omega
      have HD := Lib.hid ((HRR.out.ext0 (Ext.refl Non w).drew).drop (k := a) ha)
      have HKS : Hid (a * Kd.u8.sz = a) := Nat.mul_one a
      have HD2 : Hid (Rd Kd.u8 w.drew ok (.slice (if c = a then some ⟨gs, off, none⟩ else some ⟨gs, off + a, none⟩) (bs.length - a) (c - a)) (bs.drop a)) := by
        show Rd _ _ _ _ _
        have := HD.out
        rwa [HKS.out] at this
      clear HD HKS hb
      have HD3 : Hid (Rd Kd.u8 w.drew ok (.slice (some ⟨gs, off + a, none⟩) (bs.length - a) (c - a)) (bs.drop a)) := by
        show Rd _ _ _ _ _
        have h := HD2.out
        rw [if_neg hca] at h
        exact h
      go_enter Try.func58, Try.ntmps58
      go_wp2_with fail
      go_region_held3 (fun W => W.cell? ⟨g, 0, none⟩ = some (.slice (some ⟨gs, off, none⟩) bs.length c) ∧ W.cell? ⟨g, 1, none⟩ = some (.int .i64 (a : Int))) (first | assumption | exact ⟨c0, c1⟩) (first
        | (go_at_call 72
           refine (numberR_calls HD3.out).mono ?_
           rintro e' w2 ⟨rfl, rfl⟩
           rw [HNR.out])
        | fail)
    all_goals
      have E2 : Hid (Ext Non w w.drew) := (Ext.refl Non w).drew
      have R2 := Lib.hid (HR.out.ext E2.out)
      generalize w.drew = w2 at E2 R2 ⊢
      rcases Classical.em (e = 0) with he | he
      · subst he
        obtain ⟨hk0, hkl, _, hmm⟩ := numR_ok HN.out
        rw [List.length_drop] at hkl
        have hak : a + k ≤ 9223372036854775807 := by
          obtain ⟨_, _, _, _, h⟩ := HRR.out.slice
          omega
        have HAK := Lib.hid hak
        clear hak
        by_cases hlo : (m : Int) < lo
        · have HW : Hid (rWithin bs a 0 lo hi = (0, a, 5)) := by show _ = _; unfold rWithin; rw [HRN.out]; simp [hlo]
          go_wp2_with fail
          refine (on_bad R2.out hg (k : Int) 5 (by simp)).mono ?_
          rintro e' w3 ⟨rfl, h1, h2⟩
          have R3 := Lib.hid h1
          have E3 : Hid (Ext (Only g) w w3) := E2.out.of0.trans h2 (fun _ _ e => e)
          clear h1 h2
          go_wp2_with fail
          go_ret
          rw [HW.out]
          exact ⟨rfl, R3.out, E3.out⟩
        · by_cases hhi : hi < (m : Int)
          · have HW : Hid (rWithin bs a 0 lo hi = (0, a, 5)) := by show _ = _; unfold rWithin; rw [HRN.out]; simp [hhi]
            go_wp2_with fail
            refine (on_bad R2.out hg (k : Int) 5 (by simp)).mono ?_
            rintro e' w3 ⟨rfl, h1, h2⟩
            have R3 := Lib.hid h1
            have E3 : Hid (Ext (Only g) w w3) := E2.out.of0.trans h2 (fun _ _ e => e)
            clear h1 h2
            go_wp2_with fail
            go_ret
            rw [HW.out]
            exact ⟨rfl, R3.out, E3.out⟩
          · have HW : Hid (rWithin bs a 0 lo hi = ((m : Int), a + k, 0)) := by show _ = _; unfold rWithin; rw [HRN.out]; simp [hlo, hhi]
            go_wp2_with fail
            refine (on_ok R2.out hg k HAK.out).mono ?_
            rintro e' w3 ⟨rfl, h1, h2⟩
            have R3 := Lib.hid h1
            have E3 : Hid (Ext (Only g) w w3) := E2.out.of0.trans h2 (fun _ _ e => e)
            clear h1 h2
            go_wp2_with fail
            go_ret
            rw [HW.out]
            exact ⟨rfl, R3.out, E3.out⟩
      · have HE := Lib.hid he
        have q4 : (e == 0) = false := by simpa using he
        have HW : Hid (rWithin bs a 0 lo hi = (0, a, e)) := by show _ = _; unfold rWithin; rw [HRN.out]; simp [he]
        clear he
        go_wp2_with fail
        refine (on_bad R2.out hg (k : Int) e HE.out).mono ?_
        rintro e' w3 ⟨rfl, h1, h2⟩
        have R3 := Lib.hid h1
        have E3 : Hid (Ext (Only g) w w3) := E2.out.of0.trans h2 (fun _ _ e => e)
        clear h1 h2
        go_wp2_with fail
        go_ret
        rw [HW.out]
        exact ⟨rfl, R3.out, E3.out⟩
  · have q : (err != 0) = true := by simpa using he
    rw [show rWithin bs a err lo hi = (0, a, err) from by unfold rWithin rNum; simp [he]]
    clear he
    go_enter Try.func58, Try.ntmps58
    go_wp2_with fail
    go_ret
    exact ⟨rfl, HR.out, Ext.refl _ _⟩

end
end Go.Proofs.Ytooafilbmjnfmaa

namespace Go.Proofs.Ytooafilbmjnfmaa
open Go.RowKit Go.TM
section
variable {w : World} {ok : Nat → Prop} {g : Nat} {bs : List UInt8} {a : Nat} {err : Int}

set_option maxRecDepth 100000 in
theorem RrEnd_calls (hR : RrAt w ok g bs a err) (ha : a ≤ bs.length) : Calls Try.prog 48 #[.pointer (some ⟨g, 0, none⟩)] w fun e w' => e = .returned (.int .i64 (rEnd bs a err)) ∧ Ext Non w w' := by
  obtain ⟨v, c0, c1, c2, y1, y2, hr⟩ := hR.cells
  have HR := Lib.hid hR
  clear hR hr
  by_cases he : err = 0
  · subst he
    go_enter Try.func48, Try.ntmps48
    go_wp2_with fail
    refine (RrLeft_calls HR.out ha).mono ?_
    rintro e w1 ⟨rfl, h1⟩
    have E1 := Lib.hid h1
    obtain ⟨v1, d0, d1, d2, z1, z2, hr⟩ := (HR.out.ext h1).cells
    clear h1 c0 c1 c2 y1 y2 hr
    by_cases hl : a < bs.length
    · have q : (0 : Int) < ((bs.length - a : Nat) : Int) := by omega
      have hW : rEnd bs a 0 = 3 := by simp [rEnd, hl]
      have HW := Lib.hid hW
      generalize bs.length - a = L at *
      clear hW
      go_wp2_with fail
      go_ret
      rw [HW.out]
      exact ⟨rfl, E1.out⟩
    · have q : bs.length - a = 0 := by omega
      rw [q]
      have hW : rEnd bs a 0 = 0 := by simp [rEnd, hl]
      have HW := Lib.hid hW
      clear hW q
      go_wp2_with fail
      go_ret
      rw [HW.out]
      exact ⟨rfl, E1.out⟩
  · have q : (err == 0) = false := by simpa using he
    have hW : rEnd bs a err = err := by simp [rEnd, he]
    have HW := Lib.hid hW
    clear hW he
    go_enter Try.func48, Try.ntmps48
    go_wp2_with fail
    go_ret
    rw [HW.out]
    exact ⟨rfl, Ext.refl _ _⟩

end
end Go.Proofs.Ytooafilbmjnfmaa

namespace Go.Proofs.Ytooafilbmjnfmaa
open Go.RowKit Go.TM
section
variable {w : World} {ok : Nat → Prop} {g : Nat} {bs : List UInt8} {a : Nat} {err : Int}
set_option maxRecDepth 100000 in
theorem rText_err {m : Int} {p : Nat} {e most : Int} (h : rNum bs a err = (m, p, e)) (he : e ≠ 0) : rText bs a err most = ([], a, e) := by
  unfold rText
  rw [h]
  simp [he]
set_option maxRecDepth 100000 in
theorem rText_long {m : Int} {p : Nat} {most : Int} (h : rNum bs a err = (m, p, 0)) (hl : max most 0 < m) : rText bs a err most = ([], a, 4) := by
  unfold rText
  rw [h]
  simp only [ne_eq, not_true_eq_false, if_false]
  rw [if_pos hl]
set_option maxRecDepth 100000 in
theorem rText_short {m : Int} {p : Nat} {most : Int} (h : rNum bs a err = (m, p, 0)) (hl : ¬ max most 0 < m) (hs : (bs.length : Int) - (p : Int) < m) : rText bs a err most = ([], a, 2) := by
  unfold rText
  rw [h]
  simp only [ne_eq, not_true_eq_false, if_false]
  rw [if_neg hl, if_pos hs]
set_option maxRecDepth 100000 in
theorem rText_full {m p : Nat} {most : Int} (h : rNum bs a err = ((m : Int), p, 0)) (hl : ¬ max most 0 < (m : Int)) (hs : ¬ (bs.length : Int) - (p : Int) < (m : Int)) : rText bs a err most = ((bs.drop p).take m, p + m, 0) := by
  unfold rText
  rw [h]
  simp only [ne_eq, not_true_eq_false, if_false]
  rw [if_neg hl, if_neg hs, Int.toNat_natCast]
set_option maxHeartbeats 2000000 in
set_option maxRecDepth 100000 in
theorem RrText_calls (hR : RrAt w ok g bs a err) (hg : ¬ ok g) (ha : a ≤ bs.length) (most : Int) : Calls Try.prog 57 #[.pointer (some ⟨g, 0, none⟩), .int .i64 most] w (RrPost ok g bs w (.string ⟨(rText bs a err most).1.toArray⟩) (rText bs a err most).2) := by
  obtain ⟨v, c0, c1, c2, y1, y2, hr⟩ := hR.cells
  obtain ⟨A, c, rfl, hc, hm⟩ := hr.slice
  have HR := Lib.hid hR
  have HRR := Lib.hid hr
  clear hR hr
  by_cases he : err = 0
  · subst he
    obtain ⟨⟨m, k, e⟩, hr⟩ : ∃ r, numR (bs.drop a) = r := ⟨_, rfl⟩
    have HN := Lib.hid hr
    have hrn := rNum_eq hr
    have hnr : NumR (bs.drop a) = .tuple #[.int .i64 (m : Int), .int .i64 (k : Int), .int .i64 e] := by unfold NumR; rw [hr]
    have HRN := Lib.hid hrn
    have HNR := Lib.hid hnr
    clear hr hrn hnr
    have h3 : bs = [] ∨ (bs ≠ [] ∧ a = c) ∨ (bs ≠ [] ∧ ¬ c = a) := by
      rcases Classical.em (bs = []) with hb | hb
      · exact .inl hb
      · rcases Classical.em (c = a) with hca | hca
        · exact .inr (.inl ⟨hb, hca.symm⟩)
        · exact .inr (.inr ⟨hb, hca⟩)
    rcases h3 with hb | ⟨hb, hca⟩ | ⟨hb, hca⟩
    · have ha0 : a = 0 := by rw [hb] at ha; simpa using ha
      have c0' : w.cell? ⟨g, 0, none⟩ = some (.slice A 0 c) := by rw [c0, hb]; rfl
      have c1' : w.cell? ⟨g, 1, none⟩ = some (.int .i64 0) := by rw [c1, ha0]; rfl
      have HD : Hid (Rd Kd.u8 w.drew ok (.slice A 0 c) (bs.drop a)) := by
        show Rd _ _ _ _ _
        have := HRR.out.ext0 (Ext.refl Non w).drew
        rw [hb] at this ⊢
        simpa using this
      have INL : Hid (e ≠ 0) := fun h0 => by
        have := HN.out
        rw [hb, List.drop_nil, h0] at this
        simp [numR] at this
      clear c0 c1 hb ha0 hc hm
      go_enter Try.func57, Try.ntmps57
      go_wp2_with fail
      go_region_held3 (fun W => W.cell? ⟨g, 0, none⟩ = some (.slice A 0 c) ∧ W.cell? ⟨g, 1, none⟩ = some (.int .i64 0)) (first | assumption | exact ⟨c0', c1'⟩) (first
        | (go_at_call 72
           refine (numberR_calls HD.out).mono ?_
           rintro e' w2 ⟨rfl, rfl⟩
           rw [HNR.out])
        | fail)
      have E2 : Hid (Ext Non w w.drew) := (Ext.refl Non w).drew
      have R2 := Lib.hid (HR.out.ext E2.out)
      generalize w.drew = w2 at E2 R2 ⊢
      have he := INL.out
      have HE := Lib.hid he
      have q4 : (e == 0) = false := by simpa using he
      have HW : Hid (rText bs a 0 most = ([], a, e)) := by show _ = _; unfold rText; rw [HRN.out]; simp [he]
      clear he
      go_wp2_with fail
      go_region
      have R3 := Lib.hid (R2.out.ext (Ext.refl Non w2).drew)
      have E3 : Hid (Ext Non w w2.drew) := E2.out.drew
      go_wp2_with fail
      refine (on_bad R3.out hg _ e HE.out).mono ?_
      rintro e' w3 ⟨rfl, h1, h2⟩
      have R4 := Lib.hid h1
      have E4 : Hid (Ext (Only g) w w3) := E3.out.of0.trans h2 (fun _ _ e => e)
      clear h1 h2
      go_wp2_with fail
      go_ret
      rw [HW.out]
      exact ⟨rfl, R4.out, E4.out⟩
    · obtain ⟨gs, off, rfl⟩ := rr_some HRR.out hb
      have q0 : (0 : Int) ≤ (a : Int) := by omega
      have q1 : (a : Int) ≤ (bs.length : Int) := by omega
      have HD := Lib.hid ((HRR.out.ext0 (Ext.refl Non w).drew).drop (k := a) ha)
      have HKS : Hid (a * Kd.u8.sz = a) := Nat.mul_one a
      have HD2 : Hid (Rd Kd.u8 w.drew ok (.slice (if c = a then some ⟨gs, off, none⟩ else some ⟨gs, off + a, none⟩) (bs.length - a) (c - a)) (bs.drop a)) := by
        show Rd _ _ _ _ _
        have := HD.out
        rwa [HKS.out] at this
      clear HD HKS hb
      subst hca
      have hlen : bs.length = a := by omega
      have c0' : w.cell? ⟨g, 0, none⟩ = some (.slice (some ⟨gs, off, none⟩) a a) := by rw [c0, hlen]
      have HD3 : Hid (Rd Kd.u8 w.drew ok (.slice (some ⟨gs, off, none⟩) 0 0) (bs.drop a)) := by
        show Rd _ _ _ _ _
        have h := HD2.out
        rw [if_pos rfl, hlen, Nat.sub_self] at h
        exact h
      have INL : Hid (e ≠ 0) := fun h0 => by
        have := HN.out
        rw [List.drop_eq_nil_of_le (by omega), h0] at this
        simp [numR] at this
      clear c0 hc q1 hlen hm ha
      go_enter Try.func57, Try.ntmps57
      go_wp2_with fail
      go_region_held3 (fun W => W.cell? ⟨g, 0, none⟩ = some (.slice (some ⟨gs, off, none⟩) a a) ∧ W.cell? ⟨g, 1, none⟩ = some (.int .i64 (a : Int))) (first | assumption | exact ⟨c0', c1⟩) (first
        | (go_at_call 72
           refine (numberR_calls HD3.out).mono ?_
           rintro e' w2 ⟨rfl, rfl⟩
           rw [HNR.out])
        | fail)
      have E2 : Hid (Ext Non w w.drew) := (Ext.refl Non w).drew
      have R2 := Lib.hid (HR.out.ext E2.out)
      generalize w.drew = w2 at E2 R2 ⊢
      have he := INL.out
      have HE := Lib.hid he
      have q4 : (e == 0) = false := by simpa using he
      have HW : Hid (rText bs a 0 most = ([], a, e)) := by show _ = _; unfold rText; rw [HRN.out]; simp [he]
      clear he
      go_wp2_with fail
      go_region
      have R3 := Lib.hid (R2.out.ext (Ext.refl Non w2).drew)
      have E3 : Hid (Ext Non w w2.drew) := E2.out.drew
      go_wp2_with fail
      refine (on_bad R3.out hg _ e HE.out).mono ?_
      rintro e' w3 ⟨rfl, h1, h2⟩
      have R4 := Lib.hid h1
      have E4 : Hid (Ext (Only g) w w3) := E3.out.of0.trans h2 (fun _ _ e => e)
      clear h1 h2
      go_wp2_with fail
      go_ret
      rw [HW.out]
      exact ⟨rfl, R4.out, E4.out⟩
    · obtain ⟨gs, off, rfl⟩ := rr_some HRR.out hb
      have q0 : (0 : Int) ≤ (a : Int) := by omega
      have q1 : (a : Int) ≤ (bs.length : Int) := by omega
      have HD := Lib.hid ((HRR.out.ext0 (Ext.refl Non w).drew).drop (k := a) ha)
      have HKS : Hid (a * Kd.u8.sz = a) := Nat.mul_one a
      have HD2 : Hid (Rd Kd.u8 w.drew ok (.slice (if c = a then some ⟨gs, off, none⟩ else some ⟨gs, off + a, none⟩) (bs.length - a) (c - a)) (bs.drop a)) := by
        show Rd _ _ _ _ _
        have := HD.out
        rwa [HKS.out] at this
      clear HD HKS hb
      have HD3 : Hid (Rd Kd.u8 w.drew ok (.slice (some ⟨gs, off + a, none⟩) (bs.length - a) (c - a)) (bs.drop a)) := by
        show Rd _ _ _ _ _
        have h := HD2.out
        rw [if_neg hca] at h
        exact h
      go_enter Try.func57, Try.ntmps57
      go_wp2_with fail
      go_region_held3 (fun W => W.cell? ⟨g, 0, none⟩ = some (.slice (some ⟨gs, off, none⟩) bs.length c) ∧ W.cell? ⟨g, 1, none⟩ = some (.int .i64 (a : Int))) (first | assumption | exact ⟨c0, c1⟩) (first
        | (go_at_call 72
           refine (numberR_calls HD3.out).mono ?_
           rintro e' w2 ⟨rfl, rfl⟩
           rw [HNR.out])
        | fail)
      have E2 : Hid (Ext Non w w.drew) := (Ext.refl Non w).drew
      have R2 := Lib.hid (HR.out.ext E2.out)
      have RR2 := Lib.hid (HRR.out.ext0 E2.out)
      have d0 : w.drew.cell? ⟨g, 0, none⟩ = some (.slice (some ⟨gs, off, none⟩) bs.length c) := c0
      have d1 : w.drew.cell? ⟨g, 1, none⟩ = some (.int .i64 (a : Int)) := c1
      generalize w.drew = w2 at E2 R2 RR2 d0 d1 ⊢
      clear c0 c1 c2 y1 y2
      rcases Classical.em (e = 0) with he | he
      · subst he
        obtain ⟨hk0, hkl, _, hmm⟩ := numR_ok HN.out
        rw [List.length_drop] at hkl
        have HKL := Lib.hid hkl
        have HMM := Lib.hid hmm
        have HK0 := Lib.hid hk0
        clear hkl hmm hk0
        by_cases hlo : max most 0 < (m : Int)
        · have HW : Hid (rText bs a 0 most = ([], a, 4)) := rText_long (by rw [HRN.out, if_neg (by simp)]) hlo
          have f1 : (0 : Int) < (m : Int) := by omega
          have f2 : most < (m : Int) := by omega
          clear hlo
          go_wp2_with fail
          go_region
          have R3 := Lib.hid (R2.out.ext (Ext.refl Non w2).drew)
          have RR3 := Lib.hid (RR2.out.ext0 (Ext.refl Non w2).drew)
          have E3 : Hid (Ext Non w w2.drew) := E2.out.drew
          generalize w2.drew = w2' at R3 RR3 E3 ⊢
          go_wp2_with fail
          refine (on_bad R3.out hg _ 4 (by simp)).mono ?_
          rintro e' w3 ⟨rfl, h1, h2⟩
          have R4 := Lib.hid h1
          have E4 : Hid (Ext (Only g) w w3) := E3.out.of0.trans h2 (fun _ _ e => e)
          clear h1 h2
          go_wp2_with fail
          go_ret
          rw [HW.out]
          exact ⟨rfl, R4.out, E4.out⟩
        · have f12 : ¬ (0 : Int) < (m : Int) ∨ ((0 : Int) < (m : Int) ∧ ¬ most < (m : Int)) := by omega
          have qsub : wrap64 ((bs.length : Int) - (a : Int) - (k : Int)) = (bs.length : Int) - (a : Int) - (k : Int) := by have := HKL.out; unfold wrap64; omega
          by_cases hsh : (bs.length : Int) - (a : Int) - (k : Int) < (m : Int)
          · have HW : Hid (rText bs a 0 most = ([], a, 2)) := rText_short (by rw [HRN.out, if_neg (by simp)]) hlo (by omega)
            clear hlo
            rcases f12 with f1 | ⟨f1, f2⟩
            all_goals
              go_wp2_with fail
              go_region
              have R3 := Lib.hid (R2.out.ext (Ext.refl Non w2).drew)
              have RR3 := Lib.hid (RR2.out.ext0 (Ext.refl Non w2).drew)
              have E3 : Hid (Ext Non w w2.drew) := E2.out.drew
              generalize w2.drew = w2' at R3 RR3 E3 ⊢
              go_wp2_with fail
              refine (on_bad R3.out hg _ 2 (by simp)).mono ?_
              rintro e' w3 ⟨rfl, h1, h2⟩
              have R4 := Lib.hid h1
              have E4 : Hid (Ext (Only g) w w3) := E3.out.of0.trans h2 (fun _ _ e => e)
              clear h1 h2
              go_wp2_with fail
              go_ret
              rw [HW.out]
              exact ⟨rfl, R4.out, E4.out⟩
          · have HW : Hid (rText bs a 0 most = ((bs.drop (a + k)).take m, a + k + m, 0)) := rText_full (by rw [HRN.out, if_neg (by simp)]) hlo (by omega)
            have hfit : a + k + m ≤ bs.length := by omega
            have HFIT := Lib.hid hfit
            have HFIT2 : Hid (a + (k + m) ≤ 9223372036854775807) := by show _ ≤ _; omega
            have qkm : wrap64 ((k : Int) + (m : Int)) = (k : Int) + (m : Int) := by unfold wrap64; omega
            have HNE : Hid (bs ≠ []) := by
              intro h0
              rw [h0] at hfit
              have := HK0.out
              simp at hfit
              omega
            clear hlo hfit
            rcases f12 with f1 | ⟨f1, f2⟩
            all_goals
              go_wp2_with fail
              go_region
              have R3 := Lib.hid (R2.out.ext (Ext.refl Non w2).drew)
              have RR3 := Lib.hid (RR2.out.ext0 (Ext.refl Non w2).drew)
              have E3 : Hid (Ext Non w w2.drew) := E2.out.drew
              generalize w2.drew = w2' at R3 RR3 E3 ⊢
              go_wp2_with fail
              have hok := on_ok R3.out hg (k + m) HFIT2.out
              rw [Int.natCast_add] at hok
              refine hok.mono ?_
              rintro e' w3 ⟨rfl, h1, h2⟩
              have R4 := Lib.hid h1
              have E4 : Hid (Ext (Only g) w w3) := E3.out.of0.trans h2 (fun _ _ e => e)
              simp only [] at h1
              obtain ⟨v3, d0', d1', d2', z1, z2, hr3⟩ := h1.cells
              obtain ⟨A3, c3, rfl, hc3, hm3⟩ := hr3.slice
              obtain ⟨gs3, off3, rfl⟩ := rr_some hr3 HNE.out
              have RR4 := Lib.hid hr3
              obtain ⟨P, hP⟩ : ∃ P, P = a + k := ⟨_, rfl⟩
              rw [show a + (k + m) = P + m from by omega] at d1'
              have hfit3 : P + m ≤ bs.length := by have := HFIT.out; omega
              have hPE : (bs.take (P + m)).drop P = (bs.drop (a + k)).take m := by rw [List.drop_take, hP]; congr 1; omega
              have HD := ((hr3.ext0 (Ext.refl Non w3).drew).take (k := P + m) hfit3).drop (k := P) (by rw [List.length_take]; omega)
              rw [hPE, show P * Kd.u8.sz = P from Nat.mul_one P] at HD
              have cv := conv_rd HD
              have HPP := Lib.hid hP
              have g0 : w3.drew.cell? ⟨g, 0, none⟩ = some (.slice (some ⟨gs3, off3, none⟩) bs.length c3) := d0'
              have g1 : w3.drew.cell? ⟨g, 1, none⟩ = some (.int .i64 ((P : Int) + (m : Int))) := by rw [← Int.natCast_add]; exact d1'
              clear h1 h2 hr3 d2' z1 z2 hPE HD hok hP d0' d1' d0 d1
              have qP : IntKind.i64.wrap (P : Int) = (P : Int) := IntWalk.i64_in _ (by omega)
              have qmax : max ((P : Int) + (m : Int)) 0 = (P : Int) + (m : Int) := by omega
              have qmaxP : max (P : Int) 0 = (P : Int) := by omega
              have qPm : (P : Int) ≤ (P : Int) + (m : Int) := by omega
              have qPc : (P : Int) + (m : Int) ≤ (c3 : Int) := by omega
              have qP0 : (0 : Int) ≤ (P : Int) + (m : Int) := by omega
              by_cases hcP : c3 = P
              · have hm0 : m = 0 := by omega
                have hlen : bs.length = P := by omega
                have g0' : w3.drew.cell? ⟨g, 0, none⟩ = some (.slice (some ⟨gs3, off3, none⟩) P P) := by rw [g0, hlen, hcP]
                have g1' : w3.drew.cell? ⟨g, 1, none⟩ = some (.int .i64 (P : Int)) := by rw [g1, hm0]; simp
                have hmi : (m : Int) = 0 := by omega
                rw [if_pos hcP, hcP, Nat.sub_self, hm0, Nat.add_zero, Nat.sub_self] at cv
                have hpm : P ≤ 9223372036854775807 := by omega
                have HCV := Lib.hid cv
                have HM0 := Lib.hid hm0
                clear g0 g1 hlen hcP hc3 cv hm0 hfit3 qkm qsub f1 qPm qPc qP0 qmax
                go_wp2_with fail
                go_region_held3 (fun W => W.cell? ⟨g, 0, none⟩ = some (.slice (some ⟨gs3, off3, none⟩) P P) ∧ W.cell? ⟨g, 1, none⟩ = some (.int .i64 (P : Int)) ∧ (convert 29 9 (.slice (some ⟨gs3, off3, none⟩) 0 0)).run Try.prog W = .ok (.string ⟨((bs.drop (a + k)).take 0).toArray⟩) W) (first | assumption | exact ⟨g0', g1', HCV.out⟩) (fail)
                go_wp2_with fail
                go_ret
                rw [HW.out, HM0.out]
                refine ⟨rfl, ?_, E4.out.trans0 (Ext.refl Non w3).drew⟩
                have h := R4.out.ext (Ext.refl Non w3).drew
                rw [HM0.out] at h
                exact h
              · rw [if_neg hcP, show P + m - P = ((P : Int) + (m : Int)).toNat - P from by omega] at cv
                have HCV := Lib.hid cv
                clear cv
                go_wp2_with fail
                go_region_held3 (fun W => W.cell? ⟨g, 0, none⟩ = some (.slice (some ⟨gs3, off3, none⟩) bs.length c3) ∧ W.cell? ⟨g, 1, none⟩ = some (.int .i64 ((P : Int) + (m : Int))) ∧ (convert 29 9 (.slice (some ⟨gs3, off3 + P, none⟩) (((P : Int) + (m : Int)).toNat - P) (c3 - P))).run Try.prog W = .ok (.string ⟨((bs.drop (a + k)).take m).toArray⟩) W) (first | assumption | exact ⟨g0, g1, HCV.out⟩) (fail)
                go_wp2_with fail
                go_ret
                rw [HW.out]
                refine ⟨rfl, ?_, E4.out.trans0 (Ext.refl Non w3).drew⟩
                rw [Nat.add_assoc]
                exact R4.out.ext (Ext.refl Non w3).drew
      · have HE := Lib.hid he
        have q4 : (e == 0) = false := by simpa using he
        have HW : Hid (rText bs a 0 most = ([], a, e)) := by show _ = _; unfold rText; rw [HRN.out]; simp [he]
        clear he
        go_wp2_with fail
        go_region
        have R3 := Lib.hid (R2.out.ext (Ext.refl Non w2).drew)
        have E3 : Hid (Ext Non w w2.drew) := E2.out.drew
        go_wp2_with fail
        refine (on_bad R3.out hg _ e HE.out).mono ?_
        rintro e' w3 ⟨rfl, h1, h2⟩
        have R4 := Lib.hid h1
        have E4 : Hid (Ext (Only g) w w3) := E3.out.of0.trans h2 (fun _ _ e => e)
        clear h1 h2
        go_wp2_with fail
        go_ret
        rw [HW.out]
        exact ⟨rfl, R4.out, E4.out⟩
  · have q : (err != 0) = true := by simpa using he
    rw [show rText bs a err most = ([], a, err) from by unfold rText rNum; simp [he]]
    clear he
    go_enter Try.func57, Try.ntmps57
    go_wp2_with fail
    go_ret
    exact ⟨rfl, HR.out, Ext.refl _ _⟩
end
end Go.Proofs.Ytooafilbmjnfmaa

