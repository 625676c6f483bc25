/- PLAIN LAW: a filter that may be is read as it was put. -/
import Derived.Test.YtdjfijdnhfmeeaaJ4
import Derived.Test.YtdjfijdnhfmeeaaHA
namespace Go.Proofs.Ytdjfijdnhfmeeaa
open Go.RowKit Go.TM
section
variable {bs : List UInt8} {a : Nat}
theorem rNum_eq {m k : Nat} {e : Int} (h : numR (bs.drop a) = (m, k, e)) : rNum bs a 0 = if e ≠ 0 then (0, a, e) else ((m : Int), a + k, 0) := rNum_of (r := (m, k, e)) h
theorem rText_full {m p : Nat} {most err : Int} (h : rNum bs a err = ((m : Int), p, 0)) (hl : ¬ max most 0 < (m : Int)) (hs : ¬ (bs.length : Int) - (p : Int) < (m : Int)) : rText bs a err most = ((bs.drop p).take m, p + m, 0) := by
  unfold rText
  rw [h]
  simp only [ne_eq, not_true_eq_false, if_false]
  rw [if_neg hl, if_neg hs, Int.toNat_natCast]
theorem rNum_put {m : Nat} {r : List UInt8} (hm : m ≤ 9223372036854775807) (h : bs.drop a = numB m ++ r) : rNum bs a 0 = ((m : Int), a + (numB m).length, 0) := by
  have h1 := numR_numB hm r
  rw [← h] at h1
  exact (rNum_eq h1).trans (if_neg (by simp))
theorem drop_more {l r : List UInt8} (h : bs.drop a = l ++ r) : bs.drop (a + l.length) = r := by
  rw [← List.drop_drop, h, List.drop_left]
theorem drop_len {l r : List UInt8} (h : bs.drop a = l ++ r) (hl : 0 < l.length) : a + l.length + r.length = bs.length := by
  have := congrArg List.length h
  rw [List.length_drop, List.length_append] at this
  omega
theorem numB_pos (m : Nat) : 0 < (numB m).length := by unfold numB; simp
theorem rText_put {t : ByteArray} {lim : Int} {r : List UInt8} (ht : (t.size : Int) ≤ lim) (hm : t.size ≤ 9223372036854775807) (h : bs.drop a = numB t.size ++ (t.data.toList ++ r)) : rText bs a 0 lim = (t.data.toList, a + (numB t.size).length + t.size, 0) := by
  have h1 := rNum_put hm h
  have h2 := drop_more h
  have h3 := drop_len h (numB_pos _)
  rw [List.length_append, size_list] at h3
  rw [rText_full h1 (by omega) (by omega), h2]
  congr 1
  exact List.take_left' (size_list t)
theorem rWithin_put {m : Nat} {r : List UInt8} (hm : m ≤ 24) (h : bs.drop a = numB m ++ r) : rWithin bs a 0 0 24 = ((m : Int), a + (numB m).length, 0) := by
  have h1 := rNum_put (m := m) (by omega) h
  unfold rWithin
  rw [h1]
  simp only
  rw [if_neg (by simp), if_neg (by omega)]
theorem rdKids_put {F : Nat → Int → Flt × Nat × Int} {E : Flt → List UInt8} {r : List UInt8} : ∀ (l : List Flt) (a : Nat), (∀ k ∈ l, ∀ (a : Nat) (r : List UInt8), bs.drop a = E k ++ r → F a 0 = (k, a + (E k).length, 0)) → bs.drop a = l.flatMap E ++ r →
    rdKids F l.length a 0 = (l, a + (l.flatMap E).length, 0)
  | [], a, _, _ => by simp [rdKids]
  | k :: ks, a, h, hd => by
    rw [List.flatMap_cons, List.append_assoc] at hd
    have h1 := h k List.mem_cons_self a _ hd
    have h2 := rdKids_put ks (a + (E k).length) (fun k' hk' => h k' (List.mem_cons_of_mem _ hk')) (drop_more hd)
    rw [List.length_cons, rdKids_go h1, h2, List.flatMap_cons, List.length_append, Nat.add_assoc]
end
theorem arr_back (s : ByteArray) : (⟨s.data.toList.toArray⟩ : ByteArray) = s := by cases s; simp
/-- What was put is read. -/
theorem foldELen {F : Flt → Int → Int × Int} : ∀ (l : List Flt) (c : Int), (∀ k ∈ l, ∀ c, (F k c).1 = 0 → c + 1 ≤ (F k c).2) → (foldE F l c).1 = 0 → c + (l.length : Int) ≤ (foldE F l c).2 ∧ ∀ k ∈ l, ∃ c', c ≤ c' ∧ (F k c').1 = 0
  | [], c, _, _ => ⟨by simp [foldE], fun k hk => by cases hk⟩
  | k :: ks, c, h, hb => by
    by_cases hk : (F k c).1 = 0
    · have hf : foldE F (k :: ks) c = foldE F ks (F k c).2 := foldE_yes (by rw [← hk])
      rw [hf] at hb ⊢
      obtain ⟨h1, h2⟩ := foldELen ks (F k c).2 (fun k' hk' => h k' (List.mem_cons_of_mem _ hk')) hb
      have h3 := h k List.mem_cons_self c hk
      refine ⟨by rw [List.length_cons]; omega, fun k' hk' => ?_⟩
      rcases List.mem_cons.1 hk' with rfl | hk'
      · exact ⟨c, Int.le_refl _, hk⟩
      · obtain ⟨c', hc', h4⟩ := h2 k' hk'
        exact ⟨c', by omega, h4⟩
    · rw [foldE_no hk] at hb
      exact absurd hb hk
theorem chkKids {n : Nat} {f : Flt} {d c : Int} (h0 : 0 ≤ c) (h1 : c ≤ 24) (h : (chk (n + 1) f d c).1 = 0) (ho : okL (n + 1) f) : d ≤ 6 ∧ mayF f = true ∧ f.kids.length ≤ 24 ∧ ∀ k ∈ f.kids, ∃ c', 0 ≤ c' ∧ c' ≤ 24 ∧ (chk n k (d + 1) c').1 = 0 := by
  by_cases c1 : 6 < d ∨ 24 ≤ c
  · rw [chk_deep c1] at h
    cases h
  · cases c2 : mayF f with
    | false =>
      rw [chk_bad c1 c2] at h
      cases h
    | true =>
      have h2 := (chk_le (n + 1) f d c h0 h1 h).2
      rw [chk_go c1 c2] at h h2
      have hup : ∀ k ∈ f.kids, ∀ c, (chk n k (d + 1) c).1 = 0 → c + 1 ≤ (chk n k (d + 1) c).2 := by
        intro k hk c hc
        cases n with
        | zero => exact (ho.2.2.2.2 k hk).elim
        | succ n => exact chk_up hc
      obtain ⟨h3, h4⟩ := foldELen (F := fun k c => chk n k (d + 1) c) f.kids (c + 1) hup h
      refine ⟨by omega, rfl, by omega, fun k hk => ?_⟩
      obtain ⟨c', hc', h5⟩ := h4 k hk
      refine ⟨c', by omega, ?_, h5⟩
      cases n with
      | zero => exact (ho.2.2.2.2 k hk).elim
      | succ n =>
        by_cases h6 : 24 ≤ c'
        · rw [chk_deep (.inr h6)] at h5
          cases h5
        · omega
theorem rt {bs : List UInt8} {lim : Int} (hl : 32 ≤ lim) : ∀ (n : Nat) (f : Flt) (d c : Int) (k : Nat) (a : Nat) (r : List UInt8), okL n f → 0 ≤ c → c ≤ 24 → (chk n f d c).1 = 0 → 7 ≤ d + k → bs.drop a = encF n f ++ r → rdT lim bs k a 0 = (f, a + (encF n f).length, 0)
  | 0, _, _, _, _, _, _, ho, _, _, _, _, _ => ho.elim
  | n + 1, f, d, c, k, a, r, ho, h0, h1, hc, hk, hd => by
    obtain ⟨hd6, hm, hkl, hks⟩ := chkKids h0 h1 hc ho
    obtain ⟨m1, m2, m3, m4⟩ := may_small hm
    obtain ⟨op, key, val, kids⟩ := f
    simp only [Flt.op, Flt.key, Flt.val, Flt.kids] at m1 m2 m3 m4 hkl hks
    obtain ⟨k', rfl⟩ : ∃ k', k = k' + 1 := ⟨k - 1, by omega⟩
    have hE : encF (n + 1) (.mk op key val kids) = numB op.toNat ++ (numB key.size ++ (key.data.toList ++ (numB val.size ++ (val.data.toList ++ (numB kids.length ++ kids.flatMap (encF n)))))) := by
      show hdF _ ++ _ = _
      simp [hdF, Flt.op, Flt.key, Flt.val, Flt.kids]
    rw [hE] at hd
    simp only [List.append_assoc] at hd
    have g1 := rNum_put (m := op.toNat) (by omega) hd
    rw [show ((op.toNat : Nat) : Int) = op by omega] at g1
    have d1 := drop_more hd
    have g2 := rText_put (lim := lim) (by omega) (by omega) d1
    have d2 := drop_more d1
    have d2' := drop_more d2
    rw [size_list] at d2'
    have g3 := rText_put (lim := 192) (by omega) (by omega) d2'
    have d3 := drop_more d2'
    have d3' := drop_more d3
    rw [size_list] at d3'
    have g4 := rWithin_put hkl d3'
    have d4 := drop_more d3'
    have g5 := rdKids_put (F := rdT lim bs k') (E := encF n) kids _ (fun k hk a r hd => by
      obtain ⟨c', hc0, hc1, hc2⟩ := hks k hk
      exact rt hl n k (d + 1) c' k' a r (ho.2.2.2.2 k hk) hc0 hc1 hc2 (by omega) hd) d4
    have e1 : q1 bs a 0 = (op, a + (numB op.toNat).length, 0) := g1
    have e2 : q2 lim bs a 0 = (key.data.toList, a + (numB op.toNat).length + (numB key.size).length + key.size, 0) := by unfold q2; rw [e1]; exact g2
    have e3 : q3 lim bs a 0 = (val.data.toList, a + (numB op.toNat).length + (numB key.size).length + key.size + (numB val.size).length + val.size, 0) := by unfold q3; rw [e2]; exact g3
    have e4 : q4 lim bs a 0 = ((kids.length : Int), a + (numB op.toNat).length + (numB key.size).length + key.size + (numB val.size).length + val.size + (numB kids.length).length, 0) := by unfold q4; rw [e3]; exact g4
    rw [rdT, e1, e2, e3, e4]
    simp only [Int.toNat_natCast, g5, arr_back]
    rw [hE]
    simp only [List.length_append, size_list]
    congr 2
    omega
theorem foldE_congr {F G : Flt → Int → Int × Int} : ∀ (l : List Flt) (c : Int), (∀ k ∈ l, ∀ c, F k c = G k c) → foldE F l c = foldE G l c
  | [], _, _ => rfl
  | k :: ks, c, h => by
    unfold foldE
    rw [h k List.mem_cons_self c]
    rw [foldE_congr ks (G k c).2 (fun k' hk' => h k' (List.mem_cons_of_mem _ hk'))]
theorem chk_same : ∀ (n m : Nat) (f : Flt) (d c : Int), okL n f → okL m f → chk n f d c = chk m f d c
  | 0, _, _, _, _, h, _ => h.elim
  | _ + 1, 0, _, _, _, _, h => h.elim
  | n + 1, m + 1, f, d, c, h1, h2 => by
    by_cases c1 : 6 < d ∨ 24 ≤ c
    · rw [chk_deep c1, chk_deep c1]
    · cases c2 : mayF f with
      | false => rw [chk_bad c1 c2, chk_bad c1 c2]
      | true =>
        rw [chk_go c1 c2, chk_go c1 c2]
        exact foldE_congr _ _ (fun k hk c => chk_same n m k (d + 1) c (h1.2.2.2.2 k hk) (h2.2.2.2.2 k hk))
theorem check_same {n m : Nat} {f : Flt} (h1 : okL n f) (h2 : okL m f) : checkE n f = checkE m f := by
  unfold checkE
  rw [chk_same n m f 1 0 h1 h2]
theorem flat_congr {F G : Flt → List UInt8} : ∀ (l : List Flt), (∀ k ∈ l, F k = G k) → l.flatMap F = l.flatMap G
  | [], _ => rfl
  | k :: ks, h => by rw [List.flatMap_cons, List.flatMap_cons, h k List.mem_cons_self, flat_congr ks (fun k' hk' => h k' (List.mem_cons_of_mem _ hk'))]
theorem enc_same : ∀ (n m : Nat) (f : Flt), okL n f → okL m f → encF n f = encF m f
  | 0, _, _, h, _ => h.elim
  | _ + 1, 0, _, _, h => h.elim
  | n + 1, m + 1, f, h1, h2 => by
    show hdF f ++ f.kids.flatMap (encF n) = hdF f ++ f.kids.flatMap (encF m)
    rw [flat_congr f.kids (fun k hk => enc_same n m k (h1.2.2.2.2 k hk) (h2.2.2.2.2 k hk))]
/-- Take of what was put. -/
theorem tk_put {n : Nat} {f : Flt} {bs : List UInt8} {a : Nat} {r : List UInt8} (ha : a ≤ bs.length) (ho : okL n f) (h : checkE n f = 0) (hd : bs.drop a = encF n f ++ r) : tkOK bs a 0 = true ∧ rdT 32 bs 6 a 0 = (f, a + (encF n f).length, 0) := by
  have h1 := rt (bs := bs) (lim := 32) (by omega) n f 1 0 6 a r ho (by omega) (by omega) h (by omega) hd
  have h2 := rdT_okL (bs := bs) 32 (by omega) (by omega) 6 a 0 ha
  rw [h1] at h2
  refine ⟨?_, h1⟩
  unfold tkOK
  rw [h1, Bool.and_eq_true]
  exact ⟨decide_eq_true rfl, decide_eq_true ((check_same h2 ho).trans h)⟩
end Go.Proofs.Ytdjfijdnhfmeeaa
