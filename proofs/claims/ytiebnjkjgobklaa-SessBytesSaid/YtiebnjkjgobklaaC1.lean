/- wire.Reader: Number. -/
import Derived.Test.YtiebnjkjgobklaaC0
import Derived.Test.YtiebnjkjgobklaaP1
import Derived.Laws.Bits64b
namespace Go.Proofs.Ytiebnjkjgobklaa
open Go.RowKit Go.TM

section
variable {w : World} {ok : Nat → Prop} {g : Nat} {bs : List UInt8} {a : Nat} {err : Int}

theorem RdrAt.cells (hR : RdrAt w ok g bs a err) : ∃ v, w.cell? ⟨g, 0, none⟩ = some v ∧ w.cell? ⟨g, 1, none⟩ = some (.int .i64 (a : Int)) ∧ w.cell? ⟨g, 2, none⟩ = some (.int .i64 err) ∧ w.cell? ⟨g, 3, none⟩ = some (.bool true) ∧ w.frozen? ⟨g, 1, none⟩ = false ∧ w.frozen? ⟨g, 2, none⟩ = false ∧ Rd Kd.u8 w ok v bs := by
  obtain ⟨v, hb, hr⟩ := hR
  exact ⟨v, by simpa using blk_cell hb 0, by simpa using blk_cell hb 1, by simpa using blk_cell hb 2, by simpa using blk_cell hb 3, blk_frozen hb 1, blk_frozen hb 2, hr⟩
theorem RdrAt.set_at (hR : RdrAt w ok g bs a err) (hg : ¬ ok g) (b : Nat) : RdrAt (w.setCell ⟨g, 1, none⟩ (.int .i64 (b : Int))) ok g bs b err ∧ Ext (Only g) w (w.setCell ⟨g, 1, none⟩ (.int .i64 (b : Int))) := by
  obtain ⟨v, hb, hr⟩ := hR
  have HE : Ext (Only g) w (w.setCell ⟨g, 1, none⟩ (.int .i64 (b : Int))) := (Ext.refl (Only g) w).setCell (p := ⟨g, 1, none⟩) (fun _ => rfl) _
  exact ⟨⟨v, by simpa using blk_set hb 1 (.int .i64 (b : Int)), hr.ext HE (fun k hk _ e => hg (e ▸ hk))⟩, HE⟩

/-- What Number says, and where the reader stands behind it. -/
def rNum (bs : List UInt8) (a : Nat) (err : Int) : Int × Nat × Int :=
  if err ≠ 0 then (0, a, err) else if (numR (bs.drop a)).2.2 ≠ 0 then (0, a, (numR (bs.drop a)).2.2) else ((numR (bs.drop a)).1, a + (numR (bs.drop a)).2.1, 0)

def RPost (ok : Nat → Prop) (g : Nat) (bs : List UInt8) (w : World) (v : Value) (s : Nat × Int) (e : Ending) (w' : World) : Prop :=
  e = .returned v ∧ RdrAt w' ok g bs s.1 s.2 ∧ Ext (Only g) w w'

theorem RNumber_bad (hR : RdrAt w ok g bs a err) (h : err ≠ 0) : Calls Try.prog 50 #[.pointer (some ⟨g, 0, none⟩)] w (RPost ok g bs w (.int .i64 0) (a, err)) := by
  obtain ⟨v, c0, c1, c2, c3, y1, y2, hr⟩ := hR.cells
  have HR := Lib.hid hR
  clear hR hr
  go_enter Try.func50, Try.ntmps50
  go_wp2_with (first | (go_at_call 45; refine (rdead_at g _ true c3).mono ?_; rintro e w1 ⟨rfl, rfl⟩) | fail)
  refine (bytes_bad HR.out h 1).mono ?_
  rintro e w1 ⟨rfl, he⟩
  have HE := Lib.hid he
  clear he
  go_wp2_with fail
  go_ret
  exact ⟨rfl, HR.out.ext HE.out, HE.out.of0⟩

theorem RNumber_end (hR : RdrAt w ok g bs a 0) (hg : ¬ ok g) (h : bs.length ≤ a) (ha : a ≤ bs.length) : Calls Try.prog 50 #[.pointer (some ⟨g, 0, none⟩)] w (RPost ok g bs w (.int .i64 0) (a, 2)) := by
  obtain ⟨v, c0, c1, c2, c3, y1, y2, hr⟩ := hR.cells
  have HR := Lib.hid hR
  clear hR hr
  go_enter Try.func50, Try.ntmps50
  go_wp2_with (first | (go_at_call 45; refine (rdead_at g _ true c3).mono ?_; rintro e w1 ⟨rfl, rfl⟩) | fail)
  refine (bytes_short HR.out hg ha 1 (by omega)).mono ?_
  rintro e w1 ⟨rfl, h1, he⟩
  have HE := Lib.hid he
  have H1 := Lib.hid h1
  clear he h1
  go_wp2_with fail
  go_ret
  exact ⟨rfl, H1.out, HE.out⟩

theorem RNumber_form (hR : RdrAt w ok g bs a 0) (hg : ¬ ok g) {b : UInt8} {t : List UInt8} (hd : bs.drop a = b :: t) (h8 : 8 < b.toNat) : Calls Try.prog 50 #[.pointer (some ⟨g, 0, none⟩)] w (RPost ok g bs w (.int .i64 0) (a, 11)) := by
  obtain ⟨v, c0, c1, c2, c3, y1, y2, hr⟩ := hR.cells
  have HR := Lib.hid hR
  have HD := Lib.hid hd
  have hlen : a + 1 ≤ bs.length := by
    have := congrArg List.length hd
    rw [List.length_drop, List.length_cons] at this
    omega
  have hne : bs ≠ [] := by intro e; subst e; simp only [List.length_nil] at hlen; omega
  clear hR hr hd
  go_enter Try.func50, Try.ntmps50
  go_wp2_with (first | (go_at_call 45; refine (rdead_at g _ true c3).mono ?_; rintro e w1 ⟨rfl, rfl⟩) | fail)
  refine (bytes_yes HR.out hg 1 hlen hne).mono ?_
  rintro e w1 ⟨v1, rfl, h1, h2, he⟩
  rw [HD.out, show (b :: t).take 1 = [b] from rfl] at h1
  obtain ⟨A1, c1', rfl, _, _⟩ := h1.slice
  obtain ⟨g1, o1, rfl, hg1, hl1, hc1⟩ := h1.flat_at (show [b][0]? = some b from rfl)
  have d0 := hc1 0 _ rfl
  simp only [Nat.add_zero, Nat.zero_mul] at d0
  obtain ⟨v', e0, e1, e2, e3, y1, y2, hr⟩ := h2.cells
  have H2 := Lib.hid h2
  have HE := Lib.hid he
  have q : (8 : Int) < (b.toNat : Int) := by omega
  clear h1 h2 he hc1 hr
  go_wp2_with fail
  have S := H2.out.set_at hg a
  refine (fail_yes S.1 hg 11).mono ?_
  rintro e w2 ⟨rfl, h3, h4⟩
  have H3 := Lib.hid h3
  have H4 : Hid (Ext (Only g) w w2) := (HE.out.trans S.2 (fun _ _ e => e)).trans h4 (fun _ _ e => e)
  clear h3 h4 S
  go_wp2_with fail
  go_ret
  exact ⟨rfl, H3.out, H4.out⟩

theorem RNumber_short (hR : RdrAt w ok g bs a 0) (hg : ¬ ok g) {b : UInt8} {t : List UInt8} (hd : bs.drop a = b :: t) (h8 : b.toNat ≤ 8) (ht : t.length < b.toNat) : Calls Try.prog 50 #[.pointer (some ⟨g, 0, none⟩)] w (RPost ok g bs w (.int .i64 0) (a, 2)) := by
  obtain ⟨v, c0, c1, c2, c3, y1, y2, hr⟩ := hR.cells
  have HR := Lib.hid hR
  have HD := Lib.hid hd
  have hlen : bs.length = a + 1 + t.length := by
    have := congrArg List.length hd
    rw [List.length_drop, List.length_cons] at this
    omega
  have hne : bs ≠ [] := by intro e; subst e; simp only [List.length_nil] at hlen; omega
  clear hR hr hd
  go_enter Try.func50, Try.ntmps50
  go_wp2_with (first | (go_at_call 45; refine (rdead_at g _ true c3).mono ?_; rintro e w1 ⟨rfl, rfl⟩) | fail)
  refine (bytes_yes HR.out hg 1 (by omega) hne).mono ?_
  rintro e w1 ⟨v1, rfl, h1, h2, he⟩
  rw [HD.out, show (b :: t).take 1 = [b] from rfl] at h1
  obtain ⟨A1, c1', rfl, _, _⟩ := h1.slice
  obtain ⟨g1, o1, rfl, hg1, hl1, hc1⟩ := h1.flat_at (show [b][0]? = some b from rfl)
  have d0 := hc1 0 _ rfl
  simp only [Nat.add_zero, Nat.zero_mul] at d0
  have H2 := Lib.hid h2
  have HE := Lib.hid he
  have q : ¬ (8 : Int) < (b.toNat : Int) := by omega
  clear h1 h2 he hc1
  go_wp2_with fail
  refine (bytes_short H2.out hg (by omega) (b.toNat : Int) (by omega)).mono ?_
  rintro e w2 ⟨rfl, h1, he⟩
  obtain ⟨v', e0, e1, e2, e3, y1, y2, hr⟩ := h1.cells
  have H3 := Lib.hid h1
  have HE3 : Hid (Ext (Only g) w w2) := HE.out.trans he (fun _ _ e => e)
  clear h1 he hr c0 c1 c2 c3
  go_wp2_with fail
  go_loopw [5, 38] (fun n i wr => n = .int .u64 0 ∧ i = .int .i64 0 ∧ wr = w2) (fun _ _ _ => 0)
  case atStart => exact ⟨rfl, rfl, rfl⟩
  case round =>
    obtain ⟨rfl, rfl, rfl⟩ := hrel
    go_wp2_with fail
    go_ret
    have S := H3.out.set_at hg a
    exact ⟨rfl, S.1, HE3.out.trans S.2 (fun _ _ e => e)⟩

theorem or_byte {n x : Nat} (hn : n < 256 ^ 7) (hx : x < 256) : bits .or .u64 (((256 * n : Nat)) : Int) (x : Int) = ((256 * n + x : Nat) : Int) := by
  have h7 : (256 : Nat) ^ 7 = 72057594037927936 := by decide
  rw [bits_or_u64_nat _ _ (by omega) (by omega)]
  congr 1
  have := Nat.two_pow_add_eq_or_of_lt (i := 8) (b := x) (by omega) n
  rw [show (2 : Nat) ^ 8 = 256 from rfl] at this
  exact this.symm
theorem shl_byte {n x : Nat} (hn : n < 256 ^ 7) (hx : x < 256) : bits .or .u64 (IntKind.u64.wrap ((n : Int) * 256)) (IntKind.u64.wrap (x : Int)) = ((256 * n + x : Nat) : Int) := by
  have h7 : (256 : Nat) ^ 7 = 72057594037927936 := by decide
  rw [IntKind.wrap_u64, IntKind.wrap_u64, ← or_byte hn hx]
  congr 1 <;> omega

theorem rNum_of {r : Nat × Nat × Int} (h : numR (bs.drop a) = r) : rNum bs a 0 = if r.2.2 ≠ 0 then (0, a, r.2.2) else ((r.1 : Int), a + r.2.1, 0) := by
  subst h
  simp [rNum]
theorem rNum_read {b : UInt8} {t : List UInt8} (hd : bs.drop a = b :: t) (h8 : b.toNat ≤ 8) (ht : b.toNat ≤ t.length) : rNum bs a 0 = if (t.take b.toNat).head? = some 0 then (0, a, 11) else if 9223372036854775807 < bval (t.take b.toNat) then (0, a, 5) else ((bval (t.take b.toNat) : Int), a + 1 + b.toNat, 0) := by
  have hh : (0 < b.toNat ∧ t.head? = some 0) ↔ (t.take b.toNat).head? = some 0 := by
    cases t with
    | nil => simp
    | cons y t' =>
      rcases Nat.eq_zero_or_pos b.toNat with h | h
      · rw [h]; simp
      · obtain ⟨q, hq⟩ : ∃ q, b.toNat = q + 1 := ⟨b.toNat - 1, by omega⟩
        rw [hq]
        simp
  by_cases h1 : (t.take b.toNat).head? = some 0
  · rw [rNum_of (r := (0, 0, 11)) (by rw [hd]; simp only [numR]; rw [if_neg (by omega), if_neg (by omega), if_pos (hh.2 h1)]), if_pos h1]
    simp
  · by_cases h2 : 9223372036854775807 < bval (t.take b.toNat)
    · rw [rNum_of (r := (0, 0, 5)) (by rw [hd]; simp only [numR]; rw [if_neg (by omega), if_neg (by omega), if_neg (fun h => h1 (hh.1 h)), if_pos h2]), if_neg h1, if_pos h2]
      simp
    · rw [rNum_of (r := (bval (t.take b.toNat), b.toNat + 1, 0)) (by rw [hd]; simp only [numR]; rw [if_neg (by omega), if_neg (by omega), if_neg (fun h => h1 (hh.1 h)), if_neg h2]), if_neg h1, if_neg h2]
      simp
      omega

theorem RNumber_read (hR : RdrAt w ok g bs a 0) (hg : ¬ ok g) {b : UInt8} {t : List UInt8} (hd : bs.drop a = b :: t) (h8 : b.toNat ≤ 8) (ht : b.toNat ≤ t.length) : Calls Try.prog 50 #[.pointer (some ⟨g, 0, none⟩)] w (RPost ok g bs w (.int .i64 (rNum bs a 0).1) (rNum bs a 0).2) := by
  obtain ⟨v, c0, c1, c2, c3, y1, y2, hr⟩ := hR.cells
  have HR := Lib.hid hR
  have HD := Lib.hid hd
  have hlen : bs.length = a + 1 + t.length := by
    have := congrArg List.length hd
    rw [List.length_drop, List.length_cons] at this
    omega
  have hd2 : bs.drop (a + 1) = t := by rw [← List.drop_drop, hd]; rfl
  have HD2 := Lib.hid hd2
  have hne : bs ≠ [] := by intro e; subst e; simp only [List.length_nil] at hlen; omega
  clear hR hr hd hd2
  go_enter Try.func50, Try.ntmps50
  go_wp2_with (first | (go_at_call 45; refine (rdead_at g _ true c3).mono ?_; rintro e w1 ⟨rfl, rfl⟩) | fail)
  refine (bytes_yes HR.out hg 1 (by omega) hne).mono ?_
  rintro e w1 ⟨v1, rfl, h1, h2, he⟩
  rw [HD.out, show (b :: t).take 1 = [b] from rfl] at h1
  obtain ⟨A1, c1', rfl, _, _⟩ := h1.slice
  obtain ⟨g1, o1, rfl, hg1, hl1, hc1⟩ := h1.flat_at (show [b][0]? = some b from rfl)
  have d0 := hc1 0 _ rfl
  simp only [Nat.add_zero, Nat.zero_mul] at d0
  have H2 := Lib.hid h2
  have HE := Lib.hid he
  have q : ¬ (8 : Int) < (b.toNat : Int) := by omega
  clear h1 h2 he hc1
  go_wp2_with fail
  refine (bytes_yes H2.out hg b.toNat (by omega) hne).mono ?_
  rintro e w2 ⟨v2, rfl, h1, h2, he⟩
  rw [HD2.out] at h1
  obtain ⟨A2, c2', rfl, _, _⟩ := h1.slice
  obtain ⟨v', e0, e1, e2, e3, y1, y2, hr⟩ := h2.cells
  have H3 := Lib.hid h2
  have R3 := Lib.hid h1
  have HE3 : Hid (Ext (Only g) w w2) := HE.out.trans he (fun _ _ e => e)
  obtain ⟨l, hl⟩ : ∃ l, l = t.take b.toNat := ⟨_, rfl⟩
  rw [← hl] at R3 ⊢
  have hll : l.length = b.toNat := by rw [hl, List.length_take]; omega
  have HL := Lib.hid hl
  clear h1 h2 he hr c0 c1 c2 c3 hl
  go_wp2_with fail
  go_loopw [5, 38] (fun n i wr => ∃ j : Nat, n = .int .u64 (bval (l.take j) : Int) ∧ i = .int .i64 (j : Int) ∧ j ≤ l.length ∧ wr = w2) (fun _ i _ => l.length - (intOf i).toNat)
  case atStart => exact ⟨0, rfl, rfl, by omega, rfl⟩
  case round =>
    obtain ⟨j, rfl, rfl, hj, rfl⟩ := hrel
    by_cases hlt : j < l.length
    · obtain ⟨x, hx⟩ : ∃ x, l[j]? = some x := ⟨_, List.getElem?_eq_getElem hlt⟩
      obtain ⟨g3, o3, rfl, hg3, hl3, hc3⟩ := R3.out.flat_at hx
      have d3 := hc3 0 _ rfl
      simp only [Nat.add_zero, Nat.mul_one] at d3
      have q0 : (j : Int) < (l.length : Int) := by omega
      have q1 : (0 : Int) ≤ (j : Int) := by omega
      have HX := Lib.hid hx
      clear hx hc3
      go_wp2_with fail
      have hpow : bval (l.take j) < 256 ^ 7 := by
        refine Nat.lt_of_lt_of_le (bval_lt _) (Nat.pow_le_pow_right (by omega) ?_)
        rw [List.length_take]
        omega
      have ht : l.take (j + 1) = l.take j ++ [x] := by rw [List.take_add_one, HX.out]; rfl
      refine ⟨⟨j + 1, ?_, by simp, by omega, trivial⟩, by simp [intOf]; omega⟩
      rw [ht, bval_app, shl_byte hpow x.toNat_lt]
    · obtain rfl : j = l.length := by omega
      have hnum := rNum_read HD.out h8 ht
      rw [← HL.out] at hnum
      have HNUM := Lib.hid hnum
      clear hnum
      simp only [List.take_length]
      cases l with
      | nil =>
        rw [show bval [] = 0 from rfl]
        have hb0 : b.toNat = 0 := hll.symm
        have HB0 := Lib.hid hb0
        rw [hb0]
        clear hll hb0 q
        go_wp2_with fail
        go_ret
        have h : rNum bs a 0 = (0, a + 1 + b.toNat, 0) := by have := HNUM.out; simpa [bval] using this
        rw [h]
        exact ⟨rfl, H3.out, HE3.out⟩
      | cons x l' =>
        obtain ⟨g3, o3, rfl, hg3, hl3, hc3⟩ := R3.out.flat_at (show (x :: l')[0]? = some x from rfl)
        have d3 := hc3 0 _ rfl
        simp only [Nat.add_zero, Nat.zero_mul] at d3
        have q0 : (0 : Int) < ((x :: l').length : Int) := by rw [List.length_cons]; omega
        have q1 : ¬ ((x :: l').length : Int) < ((x :: l').length : Int) := by omega
        have q2 : ¬ (x :: l').length < (x :: l').length := by omega
        generalize (x :: l').length = N at *
        by_cases hx : x = 0
        · subst hx
          have HNUM2 : Hid (rNum bs a 0 = (0, a, 11)) := by have := HNUM.out; show _ = _; simpa using this
          generalize bval (0 :: l') = V at *
          clear HNUM hc3
          go_wp2_with fail
          refine (fail_yes H3.out hg 11).mono ?_
          rintro e w3 ⟨rfl, h3, h4⟩
          obtain ⟨v', e0, e1, e2, e3, y1, y2, hr⟩ := h3.cells
          have H4 := Lib.hid h3
          have HE4 : Hid (Ext (Only g) w w3) := HE3.out.trans h4 (fun _ _ e => e)
          clear h3 h4 hr
          go_wp2_with fail
          go_ret
          have S := H4.out.set_at hg a
          rw [HNUM2.out]
          exact ⟨rfl, S.1, HE4.out.trans S.2 (fun _ _ e => e)⟩
        · have q3 : ((x.toNat : Int) == 0) = false := by
            have : x.toNat ≠ 0 := fun h => hx (UInt8.toNat_inj.1 h)
            simpa using this
          have HNUM2 : Hid (rNum bs a 0 = if 9223372036854775807 < bval (x :: l') then (0, a, 5) else ((bval (x :: l') : Int), a + 1 + b.toNat, 0)) := by have := HNUM.out; show _ = _; rw [if_neg (by simpa using hx)] at this; exact this
          generalize bval (x :: l') = V at *
          clear HNUM hc3 hx
          by_cases hV : 9223372036854775807 < V
          · have q4 : (9223372036854775807 : Int) < (V : Int) := by omega
            go_wp2_with fail
            refine (fail_yes H3.out hg 5).mono ?_
            rintro e w3 ⟨rfl, h3, h4⟩
            obtain ⟨v', e0, e1, e2, e3, y1, y2, hr⟩ := h3.cells
            have H4 := Lib.hid h3
            have HE4 : Hid (Ext (Only g) w w3) := HE3.out.trans h4 (fun _ _ e => e)
            clear h3 h4 hr
            go_wp2_with fail
            go_ret
            have S := H4.out.set_at hg a
            rw [HNUM2.out, if_pos hV]
            exact ⟨rfl, S.1, HE4.out.trans S.2 (fun _ _ e => e)⟩
          · have q4 : ¬ (9223372036854775807 : Int) < (V : Int) := by omega
            have q5 : IntKind.i64.wrap (V : Int) = (V : Int) := IntWalk.i64_in _ (by omega)
            go_wp2_with fail
            go_ret
            rw [HNUM2.out, if_neg hV]
            exact ⟨rfl, H3.out, HE3.out⟩

theorem RNumber_calls (hR : RdrAt w ok g bs a err) (hg : ¬ ok g) (ha : a ≤ bs.length) : Calls Try.prog 50 #[.pointer (some ⟨g, 0, none⟩)] w (RPost ok g bs w (.int .i64 (rNum bs a err).1) (rNum bs a err).2) := by
  by_cases he : err = 0
  · subst he
    cases hd : bs.drop a with
    | nil =>
      rw [rNum_of (r := (0, 0, 2)) (by rw [hd]; rfl)]
      exact RNumber_end hR hg (by have := congrArg List.length hd; rw [List.length_drop, List.length_nil] at this; omega) ha
    | cons b t =>
      by_cases h8 : 8 < b.toNat
      · rw [rNum_of (r := (0, 0, 11)) (by rw [hd]; simp only [numR]; rw [if_pos h8])]
        exact RNumber_form hR hg hd h8
      · by_cases ht : t.length < b.toNat
        · rw [rNum_of (r := (0, 0, 2)) (by rw [hd]; simp only [numR]; rw [if_neg h8, if_pos ht])]
          exact RNumber_short hR hg hd (by omega) ht
        · exact RNumber_read hR hg hd (by omega) (by omega)
  · rw [show rNum bs a err = (0, a, err) from by unfold rNum; rw [if_pos he]]
    exact RNumber_bad hR he
theorem rNum_le (ha : a ≤ bs.length) : (rNum bs a err).2.1 ≤ bs.length ∧ 0 ≤ (rNum bs a err).1 ∧ (rNum bs a err).1 ≤ 9223372036854775807 ∧ a ≤ (rNum bs a err).2.1 := by
  unfold rNum
  split
  · exact ⟨ha, by simp, by simp, by simp⟩
  split
  · exact ⟨ha, by simp, by simp, by simp⟩
  · rename_i h
    generalize hr : numR (bs.drop a) = r at h ⊢
    obtain ⟨n, k, e⟩ := r
    have he : e = 0 := by simpa using h
    subst he
    obtain ⟨h1, h2, _, h3⟩ := numR_ok hr
    rw [List.length_drop] at h2
    refine ⟨?_, ?_, ?_, ?_⟩ <;> simp <;> omega
end
end Go.Proofs.Ytiebnjkjgobklaa
