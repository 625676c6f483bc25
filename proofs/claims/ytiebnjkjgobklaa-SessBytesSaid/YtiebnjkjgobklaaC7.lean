/- wire.Reader: Within; Read. -/
import Derived.Test.YtiebnjkjgobklaaC6
import Derived.Test.YtiebnjkjgobklaaD2
namespace Go.Proofs.Ytiebnjkjgobklaa
open Go.RowKit Go.TM

section
variable {w : World} {ok : Nat → Prop} {g : Nat} {bs : List UInt8} {a : Nat} {err : Int}
theorem rNum_at (h : (rNum bs a err).2.2 ≠ 0) : (rNum bs a err).2.1 = a ∧ (rNum bs a err).1 = 0 := by
  unfold rNum at h ⊢
  split
  · exact ⟨rfl, rfl⟩
  · split
    · exact ⟨rfl, rfl⟩
    · rename_i h1 h2
      rw [if_neg h1, if_neg h2] at h
      exact absurd rfl h
theorem rNum_pos (h : (rNum bs a err).2.2 = 0) : bs ≠ [] := by
  rintro rfl
  unfold rNum at h
  split at h
  · rename_i h1
    exact h1 h
  · have : numR (([] : List UInt8).drop a) = (0, 0, 2) := by rw [List.drop_nil]; rfl
    rw [this] at h
    simp at h

set_option maxHeartbeats 1000000 in
theorem RWithin_calls (hR : RdrAt w ok g bs a err) (hg : ¬ ok g) (ha : a ≤ bs.length) (lo hi : Int) : Calls Try.prog 41 #[.pointer (some ⟨g, 0, none⟩), .int .i64 lo, .int .i64 hi] w (RPost ok g bs w (.int .i64 (rWithin bs a err lo hi).1) (rWithin bs a err lo hi).2) := by
  obtain ⟨v, c0, c1, c2, c3, y1, y2, hr⟩ := hR.cells
  have HR := Lib.hid hR
  obtain ⟨s, hs⟩ : ∃ s, s = rNum bs a err := ⟨_, rfl⟩
  have hw : rWithin bs a err lo hi = if s.2.2 ≠ 0 then (0, s.2.1, s.2.2) else if s.1 < lo ∨ hi < s.1 then (0, a, 5) else s := by rw [hs]; rfl
  have hat : s.2.2 ≠ 0 → s.2.1 = a ∧ s.1 = 0 := by rw [hs]; exact rNum_at
  have HS := Lib.hid hs
  have HW := Lib.hid hw
  have HAT := Lib.hid hat
  clear hR hr hs hw hat
  go_enter Try.func41, Try.ntmps41
  go_wp2_with (first | (go_at_call 45; refine (rdead_at g _ true c3).mono ?_; rintro e w1 ⟨rfl, rfl⟩) | fail)
  refine (RNumber_calls HR.out hg ha).mono ?_
  rw [← HS.out]
  clear HS
  obtain ⟨n, a', e'⟩ := s
  rintro e w1 ⟨rfl, h1, h2⟩
  obtain ⟨v1, d0, d1, d2, d3, z1, z2, hr⟩ := h1.cells
  have R1 := Lib.hid h1
  have E1 := Lib.hid h2
  simp only [] at d1 d2 ⊢
  clear h1 h2 hr c0 c1 c2 c3 y1 y2
  by_cases he : e' = 0
  · subst he
    by_cases hlo : n < lo
    · have hW : rWithin bs a err lo hi = (0, a, 5) := by rw [HW.out]; simp [hlo]
      have HW2 := Lib.hid hW
      clear hW HW HAT
      go_wp2_with fail
      have S := R1.out.set_at hg a
      refine (fail_yes S.1 hg 5).mono ?_
      rintro e w2 ⟨rfl, h3, h4⟩
      obtain ⟨v1, d0, d1, d2, d3, z1, z2, hr⟩ := h3.cells
      have R2 := Lib.hid h3
      have E2 : Hid (Ext (Only g) w w2) := (E1.out.trans S.2 (fun _ _ e => e)).trans h4 (fun _ _ e => e)
      clear h3 h4 S hr
      go_wp2_with fail
      go_ret
      rw [HW2.out]
      exact ⟨rfl, R2.out, E2.out⟩
    · by_cases hhi : hi < n
      · have hW : rWithin bs a err lo hi = (0, a, 5) := by rw [HW.out]; simp [hhi]
        have HW2 := Lib.hid hW
        clear hW HW HAT
        go_wp2_with fail
        have S := R1.out.set_at hg a
        refine (fail_yes S.1 hg 5).mono ?_
        rintro e w2 ⟨rfl, h3, h4⟩
        obtain ⟨v1, d0, d1, d2, d3, z1, z2, hr⟩ := h3.cells
        have R2 := Lib.hid h3
        have E2 : Hid (Ext (Only g) w w2) := (E1.out.trans S.2 (fun _ _ e => e)).trans h4 (fun _ _ e => e)
        clear h3 h4 S hr
        go_wp2_with fail
        go_ret
        rw [HW2.out]
        exact ⟨rfl, R2.out, E2.out⟩
      · have hW : rWithin bs a err lo hi = (n, a', 0) := by rw [HW.out]; simp [hlo, hhi]
        have HW2 := Lib.hid hW
        clear hW HW HAT
        go_wp2_with fail
        go_ret
        rw [HW2.out]
        exact ⟨rfl, R1.out, E1.out⟩
  · have q1 : (e' == 0) = false := by simpa using he
    have q2 : (e' != 0) = true := by simpa using he
    have hW : rWithin bs a err lo hi = (0, a', e') := by rw [HW.out]; simp [he]
    have HW2 := Lib.hid hW
    clear hW HW HAT he
    go_wp2_with fail
    go_ret
    rw [HW2.out]
    exact ⟨rfl, R1.out, E1.out⟩

end
theorem Own.tight {w : World} {base : Nat} {ok : Nat → Prop} {v : Value} {xs : List UInt8} (h : Own Kd.u8 5 w base ok v xs) : Own Kd.u8 5 w base (fun k => base ≤ k ∧ k < w.heap.size) v xs := by
  have hb := h.base_le
  obtain ⟨_, inner, ho, hr⟩ := h
  exact ⟨hb, inner, ho, hr.1, fun j x hj => hr.2 j x hj⟩
theorem Rd.any {w : World} {ok : Nat → Prop} {v : Value} {xs : List UInt8} (h : Rd Kd.u8 w ok v xs) : Rd Kd.u8 w (fun _ => True) v xs := h.mono (fun _ _ => trivial)

def ReadPost (bs : List UInt8) (w : World) (e : Ending) (w' : World) : Prop :=
  ∃ g, e = .returned (.pointer (some ⟨g, 0, none⟩)) ∧ w.heap.size ≤ g ∧ g < w'.heap.size ∧ RdrAt w' (fun k => w.heap.size ≤ k ∧ k < g) g bs 0 0 ∧ Ext Non w w'

theorem Read_calls {w : World} {ok : Nat → Prop} {A : Option Addr} {n c : Nat} {bs : List UInt8} (H : Rd Kd.u8 w ok (.slice A n c) bs) (hbl : bs.length ≤ 140737488355328) :
    Calls Try.prog 29 #[.slice A n c] w (ReadPost bs w) := by
  have HH := Lib.hid (Rd.any H)
  clear H
  go_enter Try.func29, Try.ntmps29
  go_wp2_with (first
    | (at_builtin
       refine app_old (w0 := w) (ok := fun _ => True) (v := .slice (some ⟨w.heap.size, 0, none⟩) 0 0) (vx := .slice A n c) (xs := []) (ys := bs) rfl _ _ rfl (by simp [Act.eval]) rfl (lit0 (Ext.refl _ _) (fun _ _ => trivial)) ((Ext.refl Non w).alloc _) HH.out (fun _ _ => trivial) (by simp; omega) ?_
       intro A2 n2 c2 w2 hn2 O2 E2 z2)
    | fail)
  go_ret
  refine ⟨_, rfl, E2.out.size, by simp, ⟨_, heap_alloc_new w2 _, ?_⟩, E2.out.alloc _⟩
  exact ((Own.tight O2.out).rd.ext0 ((Ext.refl Non w2).alloc _))

end Go.Proofs.Ytiebnjkjgobklaa
