/- wire.Reader: Within, Text, Flag, Signed, End. -/
import Derived.Test.YtiapjdbeooonjaaDoorC1
import Derived.Test.YtiapjdbeooonjaaDoorG0
namespace Go.Proofs.YtiapjdbeooonjaaDoor
open Go.RowKit Go.TM

def rWithin (bs : List UInt8) (a : Nat) (err lo hi : Int) : Int × Nat × Int :=
  if (rNum bs a err).2.2 ≠ 0 then (0, (rNum bs a err).2.1, (rNum bs a err).2.2) else if (rNum bs a err).1 < lo ∨ hi < (rNum bs a err).1 then (0, a, 5) else rNum bs a err
def rFlag (bs : List UInt8) (a : Nat) (err : Int) : Bool × Nat × Int :=
  if (rNum bs a err).2.2 ≠ 0 then (false, (rNum bs a err).2.1, (rNum bs a err).2.2) else if 1 < (rNum bs a err).1 then (false, a, 11) else ((rNum bs a err).1 == 1, (rNum bs a err).2.1, 0)
def rText (bs : List UInt8) (a : Nat) (err most : Int) : List UInt8 × Nat × Int :=
  if (rNum bs a err).2.2 ≠ 0 then ([], a, (rNum bs a err).2.2) else if max most 0 < (rNum bs a err).1 then ([], a, 4) else
    if (bs.length : Int) - ((rNum bs a err).2.1 : Int) < (rNum bs a err).1 then ([], a, 2) else ((bs.drop (rNum bs a err).2.1).take (rNum bs a err).1.toNat, (rNum bs a err).2.1 + (rNum bs a err).1.toNat, 0)
def rSigned (bs : List UInt8) (a : Nat) (err : Int) : Int × Nat × Int :=
  if err ≠ 0 then (0, a, err) else if bs.length < a + 8 then (0, a, 2) else (wrap64 (bval ((bs.drop a).take 8) : Int), a + 8, 0)
def rEnd (bs : List UInt8) (a : Nat) (err : Int) : Int := if err ≠ 0 then err else if a < bs.length then 3 else 0

section
variable {w : World} {ok : Nat → Prop} {g : Nat} {bs : List UInt8} {a : Nat} {err : Int}
theorem rNum_at (h : (rNum bs a err).2.2 ≠ 0) : (rNum bs a err).2.1 = a ∧ (rNum bs a err).1 = 0 := by
  unfold rNum at h ⊢
  split
  · exact ⟨rfl, rfl⟩
  · split
    · exact ⟨rfl, rfl⟩
    · rename_i h1 h2
      rw [if_neg h1, if_neg h2] at h
      exact absurd rfl h
theorem rNum_pos (h : (rNum bs a err).2.2 = 0) : bs ≠ [] := by
  rintro rfl
  unfold rNum at h
  split at h
  · rename_i h1
    exact h1 h
  · have : numR (([] : List UInt8).drop a) = (0, 0, 2) := by rw [List.drop_nil]; rfl
    rw [this] at h
    simp at h

set_option maxHeartbeats 1000000 in
theorem RWithin_calls (hR : RdrAt w ok g bs a err) (hg : ¬ ok g) (ha : a ≤ bs.length) (lo hi : Int) : Calls Tryd.prog 44 #[.pointer (some ⟨g, 0, none⟩), .int .i64 lo, .int .i64 hi] w (RPost ok g bs w (.int .i64 (rWithin bs a err lo hi).1) (rWithin bs a err lo hi).2) := by
  obtain ⟨v, c0, c1, c2, c3, y1, y2, hr⟩ := hR.cells
  have HR := Lib.hid hR
  obtain ⟨s, hs⟩ : ∃ s, s = rNum bs a err := ⟨_, rfl⟩
  have hw : rWithin bs a err lo hi = if s.2.2 ≠ 0 then (0, s.2.1, s.2.2) else if s.1 < lo ∨ hi < s.1 then (0, a, 5) else s := by rw [hs]; rfl
  have hat : s.2.2 ≠ 0 → s.2.1 = a ∧ s.1 = 0 := by rw [hs]; exact rNum_at
  have HS := Lib.hid hs
  have HW := Lib.hid hw
  have HAT := Lib.hid hat
  clear hR hr hs hw hat
  go_enter Tryd.func44, Tryd.ntmps44
  go_wp2_with (first | (go_at_call 52; refine (rdead_at g _ true c3).mono ?_; rintro e w1 ⟨rfl, rfl⟩) | fail)
  refine (RNumber_calls HR.out hg ha).mono ?_
  rw [← HS.out]
  clear HS
  obtain ⟨n, a', e'⟩ := s
  rintro e w1 ⟨rfl, h1, h2⟩
  obtain ⟨v1, d0, d1, d2, d3, z1, z2, hr⟩ := h1.cells
  have R1 := Lib.hid h1
  have E1 := Lib.hid h2
  simp only [] at d1 d2 ⊢
  clear h1 h2 hr c0 c1 c2 c3 y1 y2
  by_cases he : e' = 0
  · subst he
    by_cases hlo : n < lo
    · have hW : rWithin bs a err lo hi = (0, a, 5) := by rw [HW.out]; simp [hlo]
      have HW2 := Lib.hid hW
      clear hW HW HAT
      go_wp2_with fail
      have S := R1.out.set_at hg a
      refine (fail_yes S.1 hg 5).mono ?_
      rintro e w2 ⟨rfl, h3, h4⟩
      obtain ⟨v1, d0, d1, d2, d3, z1, z2, hr⟩ := h3.cells
      have R2 := Lib.hid h3
      have E2 : Hid (Ext (Only g) w w2) := (E1.out.trans S.2 (fun _ _ e => e)).trans h4 (fun _ _ e => e)
      clear h3 h4 S hr
      go_wp2_with fail
      go_ret
      rw [HW2.out]
      exact ⟨rfl, R2.out, E2.out⟩
    · by_cases hhi : hi < n
      · have hW : rWithin bs a err lo hi = (0, a, 5) := by rw [HW.out]; simp [hhi]
        have HW2 := Lib.hid hW
        clear hW HW HAT
        go_wp2_with fail
        have S := R1.out.set_at hg a
        refine (fail_yes S.1 hg 5).mono ?_
        rintro e w2 ⟨rfl, h3, h4⟩
        obtain ⟨v1, d0, d1, d2, d3, z1, z2, hr⟩ := h3.cells
        have R2 := Lib.hid h3
        have E2 : Hid (Ext (Only g) w w2) := (E1.out.trans S.2 (fun _ _ e => e)).trans h4 (fun _ _ e => e)
        clear h3 h4 S hr
        go_wp2_with fail
        go_ret
        rw [HW2.out]
        exact ⟨rfl, R2.out, E2.out⟩
      · have hW : rWithin bs a err lo hi = (n, a', 0) := by rw [HW.out]; simp [hlo, hhi]
        have HW2 := Lib.hid hW
        clear hW HW HAT
        go_wp2_with fail
        go_ret
        rw [HW2.out]
        exact ⟨rfl, R1.out, E1.out⟩
  · have q1 : (e' == 0) = false := by simpa using he
    have q2 : (e' != 0) = true := by simpa using he
    have hW : rWithin bs a err lo hi = (0, a', e') := by rw [HW.out]; simp [he]
    have HW2 := Lib.hid hW
    clear hW HW HAT he
    go_wp2_with fail
    go_ret
    rw [HW2.out]
    exact ⟨rfl, R1.out, E1.out⟩

set_option maxHeartbeats 1000000 in
theorem RFlag_calls (hR : RdrAt w ok g bs a err) (hg : ¬ ok g) (ha : a ≤ bs.length) : Calls Tryd.prog 41 #[.pointer (some ⟨g, 0, none⟩)] w (RPost ok g bs w (.bool (rFlag bs a err).1) (rFlag bs a err).2) := by
  obtain ⟨v, c0, c1, c2, c3, y1, y2, hr⟩ := hR.cells
  have HR := Lib.hid hR
  obtain ⟨s, hs⟩ : ∃ s, s = rNum bs a err := ⟨_, rfl⟩
  have hw : rFlag bs a err = if s.2.2 ≠ 0 then (false, s.2.1, s.2.2) else if 1 < s.1 then (false, a, 11) else (s.1 == 1, s.2.1, 0) := by rw [hs]; rfl
  have HS := Lib.hid hs
  have HW := Lib.hid hw
  clear hR hr hs hw
  go_enter Tryd.func41, Tryd.ntmps41
  go_wp2_with (first | (go_at_call 52; refine (rdead_at g _ true c3).mono ?_; rintro e w1 ⟨rfl, rfl⟩) | fail)
  refine (RNumber_calls HR.out hg ha).mono ?_
  rw [← HS.out]
  clear HS
  obtain ⟨n, a', e'⟩ := s
  rintro e w1 ⟨rfl, h1, h2⟩
  obtain ⟨v1, d0, d1, d2, d3, z1, z2, hr⟩ := h1.cells
  have R1 := Lib.hid h1
  have E1 := Lib.hid h2
  simp only [] at d1 d2 ⊢
  clear h1 h2 hr c0 c1 c2 c3 y1 y2
  by_cases he : e' = 0
  · subst he
    by_cases hlo : 1 < n
    · have hW : rFlag bs a err = (false, a, 11) := by rw [HW.out]; simp [hlo]
      have HW2 := Lib.hid hW
      clear hW HW
      go_wp2_with fail
      have S := R1.out.set_at hg a
      refine (fail_yes S.1 hg 11).mono ?_
      rintro e w2 ⟨rfl, h3, h4⟩
      obtain ⟨v1, d0, d1, d2, d3, z1, z2, hr⟩ := h3.cells
      have R2 := Lib.hid h3
      have E2 : Hid (Ext (Only g) w w2) := (E1.out.trans S.2 (fun _ _ e => e)).trans h4 (fun _ _ e => e)
      clear h3 h4 S hr
      go_wp2_with fail
      go_ret
      rw [HW2.out]
      exact ⟨rfl, R2.out, E2.out⟩
    · have hW : rFlag bs a err = (n == 1, a', 0) := by rw [HW.out]; simp [hlo]
      have HW2 := Lib.hid hW
      clear hW HW
      go_wp2_with fail
      go_ret
      rw [HW2.out]
      exact ⟨rfl, R1.out, E1.out⟩
  · have q1 : (e' == 0) = false := by simpa using he
    have hW : rFlag bs a err = (false, a', e') := by rw [HW.out]; simp [he]
    have HW2 := Lib.hid hW
    clear hW HW he
    go_wp2_with fail
    go_ret
    rw [HW2.out]
    exact ⟨rfl, R1.out, E1.out⟩

theorem REnd_calls (hR : RdrAt w ok g bs a err) (ha : a ≤ bs.length) : Calls Tryd.prog 43 #[.pointer (some ⟨g, 0, none⟩)] w fun e w' => e = .returned (.int .i64 (rEnd bs a err)) ∧ Ext Non w w' := by
  have HR := Lib.hid hR
  clear hR
  go_enter Tryd.func43, Tryd.ntmps43
  go_wp2_with fail
  refine (Err_calls HR.out).mono ?_
  rintro e w1 ⟨rfl, rfl⟩
  by_cases he : err = 0
  · subst he
    go_wp2_with fail
    refine (Left_calls HR.out ha).mono ?_
    rintro e w1 ⟨rfl, h1⟩
    have E1 := Lib.hid h1
    clear h1
    by_cases hl : a < bs.length
    · have q : (0 : Int) < ((bs.length - a : Nat) : Int) := by omega
      have hW : rEnd bs a 0 = 3 := by simp [rEnd, hl]
      have HW := Lib.hid hW
      generalize bs.length - a = L at *
      clear hW
      go_wp2_with fail
      go_ret
      rw [HW.out]
      exact ⟨rfl, E1.out⟩
    · have q : bs.length - a = 0 := by omega
      rw [q]
      have hW : rEnd bs a 0 = 0 := by simp [rEnd, hl]
      have HW := Lib.hid hW
      clear hW q
      go_wp2_with fail
      go_ret
      rw [HW.out]
      exact ⟨rfl, E1.out⟩
  · have q : (err != 0) = true := by simpa using he
    have hW : rEnd bs a err = err := by simp [rEnd, he]
    have HW := Lib.hid hW
    clear hW he
    go_wp2_with fail
    refine (Err_calls HR.out).mono ?_
    rintro e w1 ⟨rfl, rfl⟩
    go_wp2_with fail
    go_ret
    rw [HW.out]
    exact ⟨rfl, Ext.refl _ _⟩

set_option maxHeartbeats 1000000 in
theorem RSigned_calls (hR : RdrAt w ok g bs a err) (hg : ¬ ok g) (ha : a ≤ bs.length) : Calls Tryd.prog 42 #[.pointer (some ⟨g, 0, none⟩)] w (RPost ok g bs w (.int .i64 (rSigned bs a err).1) (rSigned bs a err).2) := by
  obtain ⟨v, c0, c1, c2, c3, y1, y2, hr⟩ := hR.cells
  have HR := Lib.hid hR
  clear hR hr
  by_cases he : err = 0
  · subst he
    by_cases hl : bs.length < a + 8
    · have hW : rSigned bs a 0 = (0, a, 2) := by simp [rSigned, hl]
      rw [hW]
      clear hW
      go_enter Tryd.func42, Tryd.ntmps42
      go_wp2_with (first | (go_at_call 52; refine (rdead_at g _ true c3).mono ?_; rintro e w1 ⟨rfl, rfl⟩) | fail)
      refine (bytes_short HR.out hg ha 8 (by omega)).mono ?_
      rintro e w1 ⟨rfl, h1, he⟩
      have R1 := Lib.hid h1
      have E1 := Lib.hid he
      clear h1 he
      go_wp2_with fail
      go_loopw [3, 11] (fun n i wr => n = .int .u64 0 ∧ i = .int .i64 0 ∧ wr = w1) (fun _ _ _ => 0)
      case atStart => exact ⟨rfl, rfl, rfl⟩
      case round =>
        obtain ⟨rfl, rfl, rfl⟩ := hrel
        go_wp2_with fail
        go_ret
        exact ⟨rfl, R1.out, E1.out⟩
    · obtain ⟨l, hll⟩ : ∃ l, l = (bs.drop a).take 8 := ⟨_, rfl⟩
      have hW : rSigned bs a 0 = (wrap64 (bval l : Int), a + 8, 0) := by rw [hll]; simp [rSigned, hl]
      rw [hW]
      have h8 : l.length = 8 := by rw [hll, List.length_take, List.length_drop]; omega
      have HL := Lib.hid hll
      clear hW hll
      have hne : bs ≠ [] := by rintro rfl; simp at hl
      go_enter Tryd.func42, Tryd.ntmps42
      go_wp2_with (first | (go_at_call 52; refine (rdead_at g _ true c3).mono ?_; rintro e w1 ⟨rfl, rfl⟩) | fail)
      refine (bytes_yes HR.out hg 8 (by omega) hne).mono ?_
      rw [← HL.out]
      rintro e w2 ⟨v2, rfl, h1, h2, he⟩
      obtain ⟨A2, c2', rfl, _, _⟩ := h1.slice
      have R3 := Lib.hid h1
      have H3 := Lib.hid h2
      have HE3 := Lib.hid he
      clear h1 h2 he c0 c1 c2 c3 y1 y2
      go_wp2_with fail
      go_loopw [3, 11] (fun n i wr => ∃ j : Nat, n = .int .u64 (bval (l.take j) : Int) ∧ i = .int .i64 (j : Int) ∧ j ≤ l.length ∧ wr = w2) (fun _ i _ => l.length - (intOf i).toNat)
      case atStart => exact ⟨0, rfl, rfl, by omega, rfl⟩
      case round =>
        obtain ⟨j, rfl, rfl, hj, rfl⟩ := hrel
        by_cases hlt : j < l.length
        · obtain ⟨x, hx⟩ : ∃ x, l[j]? = some x := ⟨_, List.getElem?_eq_getElem hlt⟩
          obtain ⟨g3, o3, rfl, hg3, hl3, hc3⟩ := R3.out.flat_at hx
          have d3 := hc3 0 _ rfl
          simp only [Nat.add_zero, Nat.mul_one] at d3
          have q0 : (j : Int) < (l.length : Int) := by omega
          have q1 : (0 : Int) ≤ (j : Int) := by omega
          have HX := Lib.hid hx
          clear hx hc3
          go_wp2_with fail
          have hpow : bval (l.take j) < 256 ^ 7 := by
            refine Nat.lt_of_lt_of_le (bval_lt _) (Nat.pow_le_pow_right (by omega) ?_)
            rw [List.length_take]
            omega
          have ht : l.take (j + 1) = l.take j ++ [x] := by rw [List.take_add_one, HX.out]; rfl
          refine ⟨⟨j + 1, ?_, by simp, by omega, trivial⟩, by simp [intOf]; omega⟩
          rw [ht, bval_app, shl_byte hpow x.toNat_lt]
        · obtain rfl : j = l.length := by omega
          simp only [List.take_length]
          go_wp2_with fail
          go_ret
          exact ⟨rfl, H3.out, HE3.out⟩
  · have hW : rSigned bs a err = (0, a, err) := by simp [rSigned, he]
    rw [hW]
    clear hW
    go_enter Tryd.func42, Tryd.ntmps42
    go_wp2_with (first | (go_at_call 52; refine (rdead_at g _ true c3).mono ?_; rintro e w1 ⟨rfl, rfl⟩) | fail)
    refine (bytes_bad HR.out he 8).mono ?_
    rintro e w1 ⟨rfl, hx⟩
    have E1 := Lib.hid hx
    clear hx
    go_wp2_with fail
    go_loopw [3, 11] (fun n i wr => n = .int .u64 0 ∧ i = .int .i64 0 ∧ wr = w1) (fun _ _ _ => 0)
    case atStart => exact ⟨rfl, rfl, rfl⟩
    case round =>
      obtain ⟨rfl, rfl, rfl⟩ := hrel
      go_wp2_with fail
      go_ret
      exact ⟨rfl, HR.out.ext E1.out, E1.out.of0⟩

set_option maxHeartbeats 1000000 in
theorem RText_calls (hR : RdrAt w ok g bs a err) (hg : ¬ ok g) (ha : a ≤ bs.length) (most : Int) : Calls Tryd.prog 40 #[.pointer (some ⟨g, 0, none⟩), .int .i64 most] w (RPost ok g bs w (.string ⟨(rText bs a err most).1.toArray⟩) (rText bs a err most).2) := by
  obtain ⟨v, c0, c1, c2, c3, y1, y2, hr⟩ := hR.cells
  have HR := Lib.hid hR
  obtain ⟨s, hs⟩ : ∃ s, s = rNum bs a err := ⟨_, rfl⟩
  have hw : rText bs a err most = if s.2.2 ≠ 0 then ([], a, s.2.2) else if max most 0 < s.1 then ([], a, 4) else
    if (bs.length : Int) - (s.2.1 : Int) < s.1 then ([], a, 2) else ((bs.drop s.2.1).take s.1.toNat, s.2.1 + s.1.toNat, 0) := by rw [hs]; rfl
  have hle := rNum_le (bs := bs) (a := a) (err := err) ha
  have hat : s.2.2 ≠ 0 → s.2.1 = a ∧ s.1 = 0 := by rw [hs]; exact rNum_at
  have hpos : s.2.2 = 0 → bs ≠ [] := by rw [hs]; exact rNum_pos
  rw [← hs] at hle
  have HS := Lib.hid hs
  have HW := Lib.hid hw
  have HAT := Lib.hid hat
  have HPOS := Lib.hid hpos
  have HLE := Lib.hid hle
  have cvn : ∀ w : World, (convert 22 9 (.slice none 0 0)).run Tryd.prog w = .ok (.string ⟨#[]⟩) w := fun w => conv_rd (Rd.nil Kd.u8 w (fun _ => True))
  clear hR hr hs hw hat hpos hle
  go_enter Tryd.func40, Tryd.ntmps40
  go_wp2_with (first | (go_at_call 52; refine (rdead_at g _ true c3).mono ?_; rintro e w1 ⟨rfl, rfl⟩) | fail)
  refine (RNumber_calls HR.out hg ha).mono ?_
  rw [← HS.out]
  clear HS
  obtain ⟨n, a', e'⟩ := s
  rintro e w1 ⟨rfl, h1, h2⟩
  obtain ⟨v1, d0, d1, d2, d3, z1, z2, hr⟩ := h1.cells
  have R1 := Lib.hid h1
  have E1 := Lib.hid h2
  simp only [] at d1 d2 ⊢
  clear h1 h2 hr c0 c1 c2 c3 y1 y2
  by_cases he : e' = 0
  · subst he
    by_cases hlo : max most 0 < n
    · have hW : rText bs a err most = ([], a, 4) := by rw [HW.out]; simp only []; rw [if_neg (by simp), if_pos hlo]
      have HW2 := Lib.hid hW
      have q3 : most < n := by omega
      have q4 : 0 < n := by omega
      clear hW HW HAT hlo
      by_cases hm : most < 0
      · have q5 : ¬ 0 ≤ most := by omega
        go_wp2_with fail
        refine (fail_yes R1.out hg 4).mono ?_
        rintro e w2 ⟨rfl, h3, h4⟩
        have R2 := Lib.hid h3
        have E2 : Hid (Ext (Only g) w w2) := E1.out.trans h4 (fun _ _ e => e)
        clear h3 h4
        go_wp2_with fail
        refine (bytes_bad R2.out (by simp) n).mono ?_
        rintro e w3 ⟨rfl, h3⟩
        have R3 := Lib.hid (R2.out.ext h3)
        have E3 : Hid (Ext (Only g) w w3) := E2.out.trans0 h3
        obtain ⟨v1, d0, d1, d2, d3, z1, z2, hr⟩ := R3.out.cells
        clear h3 hr
        go_wp2_with fail
        go_ret
        have S := R3.out.set_at hg a
        rw [HW2.out]
        exact ⟨rfl, S.1, E3.out.trans S.2 (fun _ _ e => e)⟩
      · go_wp2_with fail
        refine (fail_yes R1.out hg 4).mono ?_
        rintro e w2 ⟨rfl, h3, h4⟩
        have R2 := Lib.hid h3
        have E2 : Hid (Ext (Only g) w w2) := E1.out.trans h4 (fun _ _ e => e)
        clear h3 h4
        go_wp2_with fail
        refine (bytes_bad R2.out (by simp) n).mono ?_
        rintro e w3 ⟨rfl, h3⟩
        have R3 := Lib.hid (R2.out.ext h3)
        have E3 : Hid (Ext (Only g) w w3) := E2.out.trans0 h3
        obtain ⟨v1, d0, d1, d2, d3, z1, z2, hr⟩ := R3.out.cells
        clear h3 hr
        go_wp2_with fail
        go_ret
        have S := R3.out.set_at hg a
        rw [HW2.out]
        exact ⟨rfl, S.1, E3.out.trans S.2 (fun _ _ e => e)⟩
    · have hq : n ≤ most ∨ (most < 0 ∧ n ≤ 0) := by omega
      by_cases hsh : (bs.length : Int) - (a' : Int) < n
      · have hW : rText bs a err most = ([], a, 2) := by rw [HW.out]; simp only []; rw [if_neg (by simp), if_neg hlo, if_pos hsh]
        have HW2 := Lib.hid hW
        have HSH := Lib.hid hsh
        have HLEO := HLE.out
        simp only [] at HLEO
        clear hW HW HAT hlo hsh
        rcases hq with q3 | ⟨q3, q4⟩
        · have q5 : 0 ≤ most := by omega
          go_wp2_with fail
          refine (bytes_short R1.out hg HLEO.1 n HSH.out).mono ?_
          rintro e w2 ⟨rfl, h3, h4⟩
          obtain ⟨v1, d0, d1, d2, d3, z1, z2, hr⟩ := h3.cells
          have R2 := Lib.hid h3
          have E2 : Hid (Ext (Only g) w w2) := E1.out.trans h4 (fun _ _ e => e)
          clear h3 h4 hr
          go_wp2_with fail
          go_ret
          have S := R2.out.set_at hg a
          rw [HW2.out]
          exact ⟨rfl, S.1, E2.out.trans S.2 (fun _ _ e => e)⟩
        · have q5 : ¬ 0 ≤ most := by omega
          have q6 : n = 0 := by omega
          subst q6
          have := HSH.out
          have := HLEO.1
          omega
      · obtain ⟨m, rfl⟩ : ∃ m : Nat, n = (m : Int) := ⟨n.toNat, by have := HLE.out; simp only [] at this; omega⟩
        have hW : rText bs a err most = ((bs.drop a').take m, a' + m, 0) := by rw [HW.out]; simp only []; rw [if_neg (by simp), if_neg hlo, if_neg hsh]; simp
        have HW2 := Lib.hid hW
        have hne := HPOS.out rfl
        have hsh2 : a' + m ≤ bs.length := by omega
        have HLEO := HLE.out
        clear hW HW HAT hlo hsh HLEO
        rcases hq with q3 | ⟨q3, q4⟩
        · have q5 : 0 ≤ most := by omega
          go_wp2_with fail
          refine (bytes_yes R1.out hg m hsh2 hne).mono ?_
          rintro e w2 ⟨v2, rfl, h3, h3', h4⟩
          obtain ⟨A2, n2, c2, rfl, hn2⟩ := (Rd.abs8 h3)
          have cv := conv_rd h3
          obtain ⟨v1, d0, d1, d2, d3, z1, z2, hr⟩ := h3'.cells
          have R2 := Lib.hid h3'
          have E2 : Hid (Ext (Only g) w w2) := E1.out.trans h4 (fun _ _ e => e)
          clear h3 h4 hr hn2 h3'
          go_wp2_with fail
          go_ret
          rw [HW2.out]
          exact ⟨rfl, R2.out, E2.out⟩
        · have q5 : ¬ 0 ≤ most := by omega
          have q6 : m = 0 := by omega
          subst q6
          go_wp2_with fail
          refine (bytes_yes R1.out hg 0 hsh2 hne).mono ?_
          rintro e w2 ⟨v2, rfl, h3, h3', h4⟩
          obtain ⟨A2, n2, c2, rfl, hn2⟩ := (Rd.abs8 h3)
          have cv := conv_rd h3
          obtain ⟨v1, d0, d1, d2, d3, z1, z2, hr⟩ := h3'.cells
          have R2 := Lib.hid h3'
          have E2 : Hid (Ext (Only g) w w2) := E1.out.trans h4 (fun _ _ e => e)
          clear h3 h4 hr hn2 h3'
          go_wp2_with fail
          go_ret
          rw [HW2.out]
          exact ⟨rfl, R2.out, E2.out⟩
  · have q1 : (e' == 0) = false := by simpa using he
    have q2 : (e' != 0) = true := by simpa using he
    have hW : rText bs a err most = ([], a, e') := by rw [HW.out]; simp [he]
    have HW2 := Lib.hid hW
    obtain ⟨ha', hn'⟩ := HAT.out he
    simp only [] at ha' hn'
    subst ha' hn'
    have HE := Lib.hid he
    clear hW HW he
    go_wp2_with fail
    refine (bytes_bad R1.out HE.out 0).mono ?_
    rintro e w3 ⟨rfl, h3⟩
    have R3 := Lib.hid (R1.out.ext h3)
    have E3 : Hid (Ext (Only g) w w3) := E1.out.trans0 h3
    obtain ⟨v1, d0, d1, d2, d3, z1, z2, hr⟩ := R3.out.cells
    clear h3 hr
    go_wp2_with fail
    go_ret
    have S := R3.out.set_at hg a'
    rw [HW2.out]
    exact ⟨rfl, S.1, E3.out.trans S.2 (fun _ _ e => e)⟩
end
end Go.Proofs.YtiapjdbeooonjaaDoor
