/- Frames that are cut off, or of which one byte is another one: plain words; a byte that is written in a row of one's own. -/
import Derived.Test.YtiapjdbeooonjaaDoorE2
namespace Go.Proofs.YtiapjdbeooonjaaDoor
open Go.RowKit Go.TM

theorem numB_length (m : Nat) : (numB m).length = (be m).length + 1 := by unfold numB; rw [List.length_cons]
theorem nextR_cut {p : List UInt8} (hp : p.length ≤ 32768) {j : Nat} (hj : j < (frameB p).length) : nextR ((frameB p).take j) = ([], 0, 2) := by
  have h8 := be_le8 (m := p.length) (by omega)
  have hk : (UInt8.ofNat (be p.length).length).toNat = (be p.length).length := by
    have : (UInt8.ofNat (be p.length).length).toNat = (be p.length).length % 256 := by simp
    omega
  rw [frameB_length, numB_length] at hj
  have bad : numR ((frameB p).take j) = (0, 0, 2) → nextR ((frameB p).take j) = ([], 0, 2) := by
    intro h
    unfold nextR
    rw [h]
    rfl
  by_cases h1 : j ≤ (be p.length).length
  · apply bad
    rcases j with _ | j
    · rfl
    · unfold frameB numB
      rw [List.append_assoc, List.cons_append, List.take_succ_cons, List.take_append_of_le_length (by omega)]
      simp only [numR]
      rw [hk, if_neg (by omega), if_pos (by rw [List.length_take]; omega)]
  · have hn : numR ((frameB p).take j) = (p.length, (numB p.length).length, 0) := by
      unfold frameB
      rw [List.append_assoc, List.take_append, List.take_of_length_le (by rw [numB_length]; omega)]
      exact numR_numB (by omega) _
    have hl : ((frameB p).take j).length = j := by rw [List.length_take, frameB_length, numB_length]; omega
    unfold nextR
    rw [hn]
    simp only []
    rw [if_neg (by simp), if_neg (by omega), if_pos (by rw [hl, numB_length]; omega)]

theorem numB_mono {m n : Nat} (h : (numB m).length + m = (numB n).length + n) : m = n := by
  rw [numB_length, numB_length] at h
  have key : ∀ (k m n : Nat), m ≤ k → m ≤ n → (be m).length ≤ (be n).length := by
    intro k
    induction k with
    | zero =>
      intro m n h1 _
      have : m = 0 := by omega
      subst this
      rw [be_zero]
      simp
    | succ k ih =>
      intro m n h1 h2
      rcases Nat.eq_zero_or_pos m with h0 | h0
      · subst h0
        rw [be_zero]
        simp
      · rw [be_pos h0, be_pos (m := n) (by omega), List.length_append, List.length_append]
        have := ih (m / 256) (n / 256) (by omega) (Nat.div_le_div_right h2)
        simp only [List.length_singleton]
        omega
  rcases Nat.lt_trichotomy m n with h1 | h1 | h1
  · have := key m m n (Nat.le_refl _) (by omega)
    omega
  · exact h1
  · have := key n n m (Nat.le_refl _) (by omega)
    omega
theorem sum_set {l : List UInt8} {i : Nat} {x y : UInt8} (hx : l[i]? = some x) (h : Crc.sum (l.set i y) = Crc.sum l) : y = x := by
  obtain ⟨hi, he⟩ := List.getElem?_eq_some_iff.1 hx
  have e1 : l = l.take i ++ x :: l.drop (i + 1) := by
    rw [← he, List.getElem_cons_drop, List.take_append_drop]
  have e2 : l.set i y = l.take i ++ y :: l.drop (i + 1) := by rw [List.set_eq_take_append_cons_drop, if_pos hi]
  rw [e2] at h
  conv at h => rhs; rw [e1]
  exact Crc.sum_turned _ _ h
theorem sum4_inj {a b : Nat} (ha : a < 2 ^ 32) (hb : b < 2 ^ 32) (h : sum4 a = sum4 b) : a = b := by
  have key : ∀ n, n < 2 ^ 32 → ∃ b0 b1 b2 b3, sum4 n = [b0, b1, b2, b3] := fun n _ => ⟨_, _, _, _, rfl⟩
  obtain ⟨b0, b1, b2, b3, h1⟩ := key a ha
  have ea := (sum4_le4 ha b0 b1 b2 b3).1 h1.symm
  have eb := (sum4_le4 hb b0 b1 b2 b3).1 (h1.symm.trans h)
  omega

theorem nextR_turned {p : List UInt8} (hp : p.length ≤ 32768) {i : Nat} {x y : UInt8} (hx : (frameB p)[i]? = some x) (hy : y ≠ x) :
    (nextR ((frameB p).set i y)).2.2 ≠ 0 ∨ (nextR ((frameB p).set i y)).2.1 ≠ (frameB p).length := by
  apply Classical.byContradiction
  intro hno
  have h0 : (nextR ((frameB p).set i y)).2.2 = 0 := Classical.byContradiction fun h => hno (.inl h)
  have h1 : (nextR ((frameB p).set i y)).2.1 = (frameB p).length := Classical.byContradiction fun h => hno (.inr h)
  clear hno
  obtain ⟨hi, _⟩ := List.getElem?_eq_some_iff.1 hx
  obtain ⟨⟨m, k, e⟩, hr⟩ : ∃ r, numR ((frameB p).set i y) = r := ⟨_, rfl⟩
  unfold nextR at h0 h1
  rw [hr] at h0 h1
  simp only [] at h0 h1
  by_cases he : e = 0
  · subst he
    rw [if_neg (by simp)] at h0 h1
    by_cases hm : 32768 < m
    · rw [if_pos hm] at h0
      simp at h0
    · rw [if_neg hm] at h0 h1
      by_cases hs : ((frameB p).set i y).length - k < m + 4
      · rw [if_pos hs] at h0
        simp at h0
      · rw [if_neg hs] at h0 h1
        by_cases hc : (((frameB p).set i y).drop (k + m)).take 4 = sum4 (Crc.sum (((frameB p).set i y).take (k + m)))
        · rw [if_pos hc] at h1
          simp only [] at h1
          obtain ⟨hk0, hkl, hnum, hmm⟩ := numR_ok hr
          have hkn : (numB m).length = k := by rw [hnum, List.length_take]; omega
          rw [frameB_length] at h1
          have hmp : m = p.length := numB_mono (by omega)
          subst hmp
          have hfr : (frameB p).take (k + p.length) = numB p.length ++ p := by
            unfold frameB
            exact List.take_left' (by rw [List.length_append]; omega)
          have hfd : (frameB p).drop (k + p.length) = sum4 (Crc.sum (numB p.length ++ p)) := by
            unfold frameB
            exact List.drop_left' (by rw [List.length_append]; omega)
          have hS4 : (sum4 (Crc.sum (numB p.length ++ p))).length = 4 := rfl
          by_cases hik : k + p.length ≤ i
          · have e1 : ((frameB p).set i y).take (k + p.length) = numB p.length ++ p := by rw [List.take_set, hfr, List.set_eq_of_length_le (by rw [List.length_append]; omega)]
            have e2 : ((frameB p).set i y).drop (k + p.length) = (sum4 (Crc.sum (numB p.length ++ p))).set (i - (k + p.length)) y := by rw [List.drop_set, if_neg (by omega), hfd]
            rw [e1, e2, List.take_of_length_le (by rw [List.length_set]; omega)] at hc
            have hj : (sum4 (Crc.sum (numB p.length ++ p)))[i - (k + p.length)]? = some x := by
              rw [← hfd, List.getElem?_drop, show k + p.length + (i - (k + p.length)) = i from by omega]
              exact hx
            have hjl := (List.getElem?_eq_some_iff.1 hj).1
            have : ((sum4 (Crc.sum (numB p.length ++ p))).set (i - (k + p.length)) y)[i - (k + p.length)]? = (sum4 (Crc.sum (numB p.length ++ p)))[i - (k + p.length)]? := congrArg (fun l : List UInt8 => l[i - (k + p.length)]?) hc
            rw [List.getElem?_set_self hjl, hj] at this
            exact hy (by simpa using this)
          · have e1 : ((frameB p).set i y).take (k + p.length) = (numB p.length ++ p).set i y := by rw [List.take_set, hfr]
            have e2 : ((frameB p).set i y).drop (k + p.length) = sum4 (Crc.sum (numB p.length ++ p)) := by rw [List.drop_set, if_pos (by omega), hfd]
            rw [e1, e2, List.take_of_length_le (by omega)] at hc
            have h2 := sum4_inj (Crc.sum_lt _) (Crc.sum_lt _) hc
            have hx2 : (numB p.length ++ p)[i]? = some x := by rw [← hfr, List.getElem?_take_of_lt (by omega)]; exact hx
            exact hy (sum_set hx2 h2.symm)
        · rw [if_neg hc] at h0
          simp at h0
  · rw [if_pos he] at h0
    exact he h0

/-- A byte that is written. -/
theorem own_set8 {w : World} {base : Nat} {ok : Nat → Prop} {A : Option Addr} {n c : Nat} {xs : List UInt8} (h : Own Kd.u8 5 w base ok (.slice A n c) xs) {i : Nat} {x : UInt8} (hx : xs[i]? = some x) (y : UInt8) :
    ∃ g, A = some ⟨g, 0, none⟩ ∧ base ≤ g ∧ g < w.heap.size ∧ w.cell? ⟨g, i, none⟩ = some (.int .u8 x.toNat) ∧ w.frozen? ⟨g, i, none⟩ = false ∧ Own Kd.u8 5 (w.setCell ⟨g, i, none⟩ (.int .u8 y.toNat)) base ok (.slice A n c) (xs.set i y) := by
  obtain ⟨hi, he⟩ := List.getElem?_eq_some_iff.1 hx
  obtain ⟨g, rfl⟩ : ∃ g, A = some ⟨g, 0, none⟩ := by
    obtain ⟨_, inner, ho, _⟩ := h
    rcases ho.2 with ⟨h2, h3⟩ | ⟨g', cap, cur, h2, _⟩
    · omega
    · simp only [Value.slice.injEq] at h2
      exact ⟨g', h2.1⟩
  obtain ⟨rfl, cur, hb⟩ := Own.to_blk h
  have hget : cur[i]? = some (.int .u8 x.toNat) := by
    have := congrArg (fun l : List Value => l[i]?) hb.take
    simp only [flat_map_u8, List.getElem?_map, hx, Option.map_some] at this
    rw [List.getElem?_take_of_lt (by omega)] at this
    simpa using this
  refine ⟨g, rfl, hb.basele, blk_lt hb.blk, by rw [blk_cell hb.blk, hget], blk_frozen hb.blk i, ?_⟩
  have hlen : (xs.set i y).length = xs.length := List.length_set ..
  have := Own.of_blk (hl := fun _ => rfl) (h1 := by simp [Value.oneCell']) (w := w.setCell ⟨g, i, none⟩ (.int .u8 y.toNat)) (base := base) (ok := ok) (g := g) (c := c) (xs := xs.set i y) (cur := cur.setIfInBounds i (.int .u8 y.toNat)) (e := 5) (sz := 1) (enc := fun n : UInt8 => [Value.int .u8 n.toNat])
    ⟨hb.okg, hb.basele, blk_set hb.blk i _, by rw [hlen]; exact hb.len, hb.cap, by simpa using hb.size, by
      have ht := hb.take
      rw [flat_map_u8] at ht ⊢
      rw [hlen, Array.toList_setIfInBounds, List.take_set, ht, List.map_set]⟩
  rw [hlen] at this
  exact this
end Go.Proofs.YtiapjdbeooonjaaDoor
