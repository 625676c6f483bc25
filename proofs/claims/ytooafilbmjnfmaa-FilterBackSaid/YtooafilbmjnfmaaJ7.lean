/- PLAIN LAW: what is read is put as it was; both readers take the same. -/
import Derived.Test.YtooafilbmjnfmaaJ5
import Derived.Test.YtooafilbmjnfmaaJ6
namespace Go.Proofs.Ytooafilbmjnfmaa
open Go.RowKit Go.TM
section
variable {bs : List UInt8} {a : Nat} {e : Int}
theorem rNum_e0 (h : (rNum bs a e).2.2 = 0) : e = 0 := by
  by_cases h0 : e = 0
  · exact h0
  · have h1 : rNum bs a e = (0, a, e) := if_pos h0
    rw [h1] at h
    exact h
theorem rText_e0 {m : Int} (h : (rText bs a e m).2.2 = 0) : e = 0 := by
  by_cases h0 : (rNum bs a e).2.2 = 0
  · exact rNum_e0 h0
  · have h1 : rText bs a e m = ([], a, (rNum bs a e).2.2) := if_pos h0
    rw [h1] at h
    exact absurd h h0
theorem rWithin_e0 {lo hi : Int} (h : (rWithin bs a e lo hi).2.2 = 0) : e = 0 := by
  by_cases h0 : (rNum bs a e).2.2 = 0
  · exact rNum_e0 h0
  · have h1 : rWithin bs a e lo hi = (0, (rNum bs a e).2.1, (rNum bs a e).2.2) := if_pos h0
    rw [h1] at h
    exact absurd h h0
theorem rNum_can {n : Int} {p : Nat} (h : rNum bs a 0 = (n, p, 0)) : ∃ m : Nat, n = (m : Int) ∧ bs.drop a = numB m ++ bs.drop p ∧ p = a + (numB m).length := by
  obtain ⟨m, k, e1⟩ : ∃ m k, ∃ e, numR (bs.drop a) = (m, k, e) := ⟨_, _, _, rfl⟩
  obtain ⟨e1, h1⟩ := e1
  rw [rNum_eq h1] at h
  by_cases h0 : e1 = 0
  · subst h0
    rw [if_neg (by simp)] at h
    simp only [Prod.mk.injEq] at h
    obtain ⟨rfl, rfl, -⟩ := h
    obtain ⟨h2, h3, h4, -⟩ := numR_ok h1
    refine ⟨m, rfl, ?_, ?_⟩
    · rw [h4, ← List.drop_drop]
      exact (List.take_append_drop k (bs.drop a)).symm
    · rw [h4, List.length_take]
      omega
  · rw [if_pos h0] at h
    simp only [Prod.mk.injEq] at h
    exact absurd h.2.2 h0
theorem rText_can {m : Int} {s : List UInt8} {p : Nat} (ha : a ≤ bs.length) (h : rText bs a 0 m = (s, p, 0)) : bs.drop a = numB s.length ++ (s ++ bs.drop p) := by
  obtain ⟨r, hr⟩ : ∃ r, rNum bs a 0 = r := ⟨_, rfl⟩
  obtain ⟨n, p1, e1⟩ := r
  have hle := (rNum_le (bs := bs) (err := 0) ha).1
  rw [hr] at hle
  unfold rText at h
  rw [hr] at h
  simp only at h
  by_cases h0 : e1 = 0
  · subst h0
    rw [if_neg (by simp)] at h
    split at h
    · simp at h
    · split at h
      · simp at h
      · rename_i h1 h2
        simp only [Prod.mk.injEq] at h
        obtain ⟨rfl, rfl, -⟩ := h
        obtain ⟨k, rfl, h3, -⟩ := rNum_can hr
        have hle' : p1 ≤ bs.length := hle
        have h4 : ((bs.drop p1).take k).length = k := by
          rw [List.length_take, List.length_drop]
          omega
        simp only [Int.toNat_natCast]
        rw [h4, h3, ← List.drop_drop, List.take_append_drop]
  · rw [if_pos h0] at h
    simp only [Prod.mk.injEq] at h
    exact absurd h.2.2 h0
theorem rWithin_can {n : Int} {p : Nat} {hi : Int} (h : rWithin bs a 0 0 hi = (n, p, 0)) : ∃ m : Nat, n = (m : Int) ∧ bs.drop a = numB m ++ bs.drop p := by
  obtain ⟨r, hr⟩ : ∃ r, rNum bs a 0 = r := ⟨_, rfl⟩
  obtain ⟨n1, p1, e1⟩ := r
  unfold rWithin at h
  rw [hr] at h
  simp only at h
  by_cases h0 : e1 = 0
  · subst h0
    rw [if_neg (by simp)] at h
    split at h
    · simp at h
    · obtain ⟨m, h1, h2, -⟩ := rNum_can (hr.trans h)
      exact ⟨m, h1, h2⟩
  · rw [if_pos h0] at h
    simp only [Prod.mk.injEq] at h
    exact absurd h.2.2 h0
theorem rdKids_can {F : Nat → Int → Flt × Nat × Int} {E : Flt → List UInt8} (hF : ∀ a, a ≤ bs.length → (F a 0).2.1 ≤ bs.length) : ∀ (m : Nat) (a : Nat) (l : List Flt) (p : Nat), a ≤ bs.length → rdKids F m a 0 = (l, p, 0) →
    (∀ x ∈ l, ∀ a p, a ≤ bs.length → F a 0 = (x, p, 0) → bs.drop a = E x ++ bs.drop p) → l.length = m ∧ bs.drop a = l.flatMap E ++ bs.drop p
  | 0, a, l, p, _, h, _ => by
    simp only [rdKids, Prod.mk.injEq] at h
    obtain ⟨rfl, rfl, -⟩ := h
    exact ⟨rfl, by simp⟩
  | m + 1, a, l, p, ha, h, hx => by
    obtain ⟨r, hr⟩ : ∃ r, F a 0 = r := ⟨_, rfl⟩
    have hle := hF a ha
    rw [hr] at hle
    obtain ⟨x, a1, e1⟩ := r
    rw [rdKids_go hr] at h
    simp only [Prod.mk.injEq] at h
    obtain ⟨rfl, h2⟩ := h
    by_cases h0 : e1 = 0
    · subst h0
      obtain ⟨h3, h4⟩ := rdKids_can hF m a1 (rdKids F m a1 0).1 p hle (Prod.ext rfl h2) (fun x hx' => hx x (List.mem_cons_of_mem _ hx'))
      refine ⟨by rw [List.length_cons, h3], ?_⟩
      rw [List.flatMap_cons, List.append_assoc, ← h4]
      exact hx x List.mem_cons_self a a1 ha hr
    · rw [rdKids_err h0] at h2
      simp only [Prod.mk.injEq] at h2
      exact absurd h2.2 h0
/-- What is read, and may be, lies there as it is put. -/
theorem can {lim : Int} : ∀ (k : Nat) (d c : Int) (a : Nat) (f : Flt) (p : Nat), 0 ≤ lim → lim ≤ 192 → 0 ≤ c → c ≤ 24 → a ≤ bs.length → rdT lim bs k a 0 = (f, p, 0) → (chk (k + 1) f d c).1 = 0 → 7 ≤ d + k → bs.drop a = encF (k + 1) f ++ bs.drop p
  | 0, d, c, a, f, p, l0, l1, h0, h1, ha, hr, hc, hk => by
    have ho := rdT_okL (bs := bs) lim l0 l1 0 a 0 ha
    rw [hr] at ho
    have := (chk_kids h0 h1 hc ho).1
    omega
  | k + 1, d, c, a, f, p, l0, l1, h0, h1, ha, hr, hc, hk => by
    have ho := rdT_okL (bs := bs) lim l0 l1 (k + 1) a 0 ha
    rw [hr] at ho
    obtain ⟨-, -, -, hks⟩ := chk_kids h0 h1 hc ho
    obtain ⟨i1, i2, i3, i4, -⟩ := q4_le (bs := bs) (e := 0) lim ha
    obtain ⟨x1, hx1⟩ : ∃ x, q1 bs a 0 = x := ⟨_, rfl⟩
    obtain ⟨x2, hx2⟩ : ∃ x, q2 lim bs a 0 = x := ⟨_, rfl⟩
    obtain ⟨x3, hx3⟩ : ∃ x, q3 lim bs a 0 = x := ⟨_, rfl⟩
    obtain ⟨x4, hx4⟩ : ∃ x, q4 lim bs a 0 = x := ⟨_, rfl⟩
    rw [hx1] at i1
    rw [hx2] at i2
    rw [hx3] at i3
    rw [hx4] at i4
    have hT : rdT lim bs (k + 1) a 0 = (.mk x1.1 ⟨x2.1.toArray⟩ ⟨x3.1.toArray⟩ (rdKids (rdT lim bs k) x4.1.toNat x4.2.1 x4.2.2).1, (rdKids (rdT lim bs k) x4.1.toNat x4.2.1 x4.2.2).2) := by
      simp only [rdT, hx1, hx2, hx3, hx4]
    have g1 : rNum bs a 0 = x1 := hx1
    have g2 : rText bs x1.2.1 x1.2.2 lim = x2 := by rw [← hx1]; exact hx2
    have g3 : rText bs x2.2.1 x2.2.2 192 = x3 := by rw [← hx2]; exact hx3
    have g4 : rWithin bs x3.2.1 x3.2.2 0 24 = x4 := by rw [← hx3]; exact hx4
    rw [hT] at hr
    obtain ⟨n1, a1, e1⟩ := x1
    obtain ⟨s2, a2, e2⟩ := x2
    obtain ⟨s3, a3, e3⟩ := x3
    obtain ⟨n4, a4, e4⟩ := x4
    simp only [Prod.mk.injEq] at hr
    obtain ⟨rfl, hr2⟩ := hr
    simp only at g1 g2 g3 g4 i1 i2 i3 i4 hr2 hks
    have z4 : e4 = 0 := by
      by_cases h : e4 = 0
      · exact h
      · rw [rdKids_err h] at hr2
        simp only [Prod.mk.injEq] at hr2
        exact hr2.2
    subst z4
    obtain rfl : e3 = 0 := rWithin_e0 (by rw [g4])
    obtain rfl : e2 = 0 := rText_e0 (by rw [g3])
    obtain rfl : e1 = 0 := rText_e0 (by rw [g2])
    obtain ⟨m1, rfl, c1, -⟩ := rNum_can g1
    have c2 := rText_can i1 g2
    have c3 := rText_can i2 g3
    obtain ⟨N, rfl, c4⟩ := rWithin_can g4
    simp only [Int.toNat_natCast] at hr2 hks ⊢
    obtain ⟨c5, c6⟩ := rdKids_can (F := rdT lim bs k) (E := encF (k + 1)) (fun a h => (rdT_le lim k a 0 h).1) N a4 (rdKids (rdT lim bs k) N a4 0).1 p i4 (Prod.ext rfl hr2) (fun x hx a p ha hF => by
      obtain ⟨c', hc0, hc1, hc2⟩ := hks x hx
      exact can k (d + 1) c' a x p l0 l1 hc0 hc1 ha hF hc2 (by omega))
    have hE : encF (k + 1 + 1) (.mk (m1 : Int) ⟨s2.toArray⟩ ⟨s3.toArray⟩ (rdKids (rdT lim bs k) N a4 0).1) = numB m1 ++ (numB s2.length ++ (s2 ++ (numB s3.length ++ (s3 ++ (numB N ++ (rdKids (rdT lim bs k) N a4 0).1.flatMap (encF (k + 1))))))) := by
      show hdF _ ++ _ = _
      simp [hdF, Flt.op, Flt.key, Flt.val, Flt.kids, arr_size, c5]
    rw [hE, c1, c2, c3, c4, c6]
    simp
/-- Both take the same at the beginning of bytes. -/
theorem tk_can (ha : a ≤ bs.length) (h : tkOK bs a 0 = true) : ∃ f p, rdT 32 bs 6 a 0 = (f, p, 0) ∧ okL 7 f ∧ checkE 7 f = 0 ∧ bs.drop a = encF 7 f ++ bs.drop p ∧ p ≤ bs.length := by
  obtain ⟨r, hr⟩ : ∃ r, rdT 32 bs 6 a 0 = r := ⟨_, rfl⟩
  have ho := rdT_okL (bs := bs) 32 (by omega) (by omega) 6 a 0 ha
  have hle := (rdT_le (bs := bs) 32 6 a 0 ha).1
  unfold tkOK at h
  rw [hr] at h ho hle
  obtain ⟨f, p, e⟩ := r
  simp only [Bool.and_eq_true, decide_eq_true_eq] at h
  obtain ⟨rfl, h2⟩ := h
  exact ⟨f, p, hr, ho, h2, can 6 1 0 a f p (by omega) (by omega) (by omega) (by omega) ha hr h2 (by omega), hle⟩
theorem take_same : tlOK bs 0 0 = tkOK bs 0 0 ∧ (tkOK bs 0 0 = true → rdT 192 bs 7 0 0 = rdT 32 bs 6 0 0) := by
  have h1 : tkOK bs 0 0 = true → tlOK bs 0 0 = true ∧ rdT 192 bs 7 0 0 = rdT 32 bs 6 0 0 := by
    intro h
    obtain ⟨f, p, hr, ho, hc, hd, hp⟩ := tk_can (Nat.zero_le _) h
    have h2 := rt (bs := bs) (lim := 192) (by omega) 7 f 1 0 7 0 (bs.drop p) ho (by omega) (by omega) hc (by omega) hd
    have h3 := rdT_okL (bs := bs) 192 (by omega) (by omega) 7 0 0 (Nat.zero_le _)
    rw [h2] at h3
    have hlen : p = (encF 7 f).length := by
      have := congrArg List.length hd
      rw [List.drop_zero, List.length_append, List.length_drop] at this
      omega
    have htake : bs.take p = encF 7 f := by
      rw [List.drop_zero] at hd
      rw [hd, hlen, List.take_left]
    refine ⟨?_, by rw [h2, hr, Nat.zero_add, hlen]⟩
    unfold tlOK
    rw [h2]
    simp only [Bool.and_eq_true, decide_eq_true_eq, true_and]
    exact ⟨(check_same h3 ho).trans hc, by rw [Nat.zero_add, ← hlen, htake, enc_same 8 7 f h3 ho]; exact beq_self_eq_true _⟩
  have h4 : tlOK bs 0 0 = true → tkOK bs 0 0 = true := by
    intro h
    obtain ⟨r, hr⟩ : ∃ r, rdT 192 bs 7 0 0 = r := ⟨_, rfl⟩
    have ho := rdT_okL (bs := bs) 192 (by omega) (by omega) 7 0 0 (Nat.zero_le _)
    unfold tlOK at h
    rw [hr] at h ho
    obtain ⟨f, p, e⟩ := r
    simp only [Bool.and_eq_true, decide_eq_true_eq, beq_iff_eq] at h
    obtain ⟨⟨rfl, h2⟩, h3⟩ := h
    exact (tk_put (bs := bs) (a := 0) (r := bs.drop p) (Nat.zero_le _) ho h2 (by rw [List.drop_zero, h3, List.take_append_drop])).1
  refine ⟨?_, fun h => (h1 h).2⟩
  cases hb : tkOK bs 0 0 with
  | true => exact (h1 hb).1
  | false =>
    cases hc : tlOK bs 0 0 with
    | false => rfl
    | true => rw [h4 hc] at hb; cases hb
theorem tlF_same : tlF bs 0 0 = tkF bs 0 0 := by
  unfold tlF tkF
  rw [take_same.1]
  by_cases h : tkOK bs 0 0 = true
  · rw [if_pos h, if_pos h, take_same.2 h]
  · rw [if_neg h, if_neg h]
theorem get_same : glOK bs = gtOK bs := by
  unfold glOK gtOK
  rw [take_same.1]
  cases h : tkOK bs 0 0 with
  | false => rfl
  | true => rw [take_same.2 h]
theorem glF_same : glF bs = gtF bs := by
  unfold glF gtF
  rw [get_same]
  by_cases h : gtOK bs = true
  · rw [if_pos h, if_pos h, take_same.2 (by unfold gtOK at h; simp only [Bool.and_eq_true] at h; exact h.1)]
  · rw [if_neg h, if_neg h]
theorem glE_same : glE bs = gtE bs := by
  unfold glE gtE
  rw [get_same]
theorem noF_okL : okL 7 noF := ⟨⟨by decide, by decide⟩, by decide, by decide, by decide, fun k hk => by cases hk⟩
theorem tkF_okL (ha : a ≤ bs.length) : okL 7 (tkF bs a e) := by
  unfold tkF
  split
  · exact rdT_okL 32 (by omega) (by omega) 6 a e ha
  · exact noF_okL
theorem gtF_okL : okL 7 (gtF bs) := by
  unfold gtF
  split
  · exact rdT_okL 32 (by omega) (by omega) 6 0 0 (Nat.zero_le _)
  · exact noF_okL
/-- What Get gets is put as it was. -/
theorem gt_back (h : gtOK bs = true) : checkE 7 (gtF bs) = 0 ∧ putOut 7 (gtF bs) = bs := by
  have h' := h
  unfold gtOK at h
  simp only [Bool.and_eq_true, decide_eq_true_eq] at h
  obtain ⟨f, p, hr, ho, hc, hd, hp⟩ := tk_can (Nat.zero_le _) h.1
  have hf : gtF bs = f := by unfold gtF; rw [if_pos h', hr]
  have h2 := h.2
  rw [hr] at h2
  have hpl : ¬ p < bs.length := by
    intro hlt
    unfold rEnd at h2
    rw [if_neg (by simp), if_pos hlt] at h2
    exact absurd h2 (by decide)
  rw [hf]
  refine ⟨hc, ?_⟩
  rw [show putOut 7 f = encF 7 f from if_pos hc]
  rw [List.drop_zero, List.drop_eq_nil_of_le (by omega), List.append_nil] at hd
  exact hd.symm
end
end Go.Proofs.Ytooafilbmjnfmaa
