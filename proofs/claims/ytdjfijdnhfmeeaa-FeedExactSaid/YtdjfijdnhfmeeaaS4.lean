/- PLAIN LAW: what a feed's subscribers keep: numbers in order, cursors between their beginning and the top; who is let go. -/
import Derived.Test.YtdjfijdnhfmeeaaR6
namespace Go.Proofs.Ytdjfijdnhfmeeaa
open Go.RowKit Go.TM
theorem lastTo_min {l : List Sb} : ∀ {j : Nat}, (lastTo l j = none → ∀ i t, i < j → l[i]? = some t → t.gone = true) ∧ (∀ a, lastTo l j = some a → ∀ i t, i < j → l[i]? = some t → t.gone = false → atOf l a ≤ t.at_)
  | 0 => ⟨fun _ i t h => by omega, fun a h => by cases h⟩
  | j + 1 => by
    obtain ⟨h1, h2⟩ := lastTo_min (l := l) (j := j)
    cases hj : l[j]? with
    | none =>
      have he : lastTo l (j + 1) = lastTo l j := by
        conv => lhs; unfold lastTo
        rw [hj]
      rw [he]
      refine ⟨fun hn i t hi ht => ?_, fun a ha i t hi ht hg => ?_⟩
      · rcases Nat.lt_succ_iff_lt_or_eq.1 hi with h | rfl
        · exact h1 hn i t h ht
        · rw [hj] at ht; cases ht
      · rcases Nat.lt_succ_iff_lt_or_eq.1 hi with h | rfl
        · exact h2 a ha i t h ht hg
        · rw [hj] at ht; cases ht
    | some s =>
      cases hg : s.gone with
      | true =>
        rw [lastTo_gone hj hg]
        refine ⟨fun hn i t hi ht => ?_, fun a ha i t hi ht hgt => ?_⟩
        · rcases Nat.lt_succ_iff_lt_or_eq.1 hi with h | rfl
          · exact h1 hn i t h ht
          · rw [hj] at ht; cases ht; exact hg
        · rcases Nat.lt_succ_iff_lt_or_eq.1 hi with h | rfl
          · exact h2 a ha i t h ht hgt
          · rw [hj] at ht; cases ht; rw [hg] at hgt; cases hgt
      | false =>
        have hat : atOf l j = s.at_ := by unfold atOf; rw [hj]
        cases hb : lastTo l j with
        | none =>
          rw [lastTo_new hj hg hb]
          refine ⟨fun hn => (by cases hn), fun a ha i t hi ht hgt => ?_⟩
          cases ha
          rcases Nat.lt_succ_iff_lt_or_eq.1 hi with h | rfl
          · have := h1 hb i t h ht; rw [this] at hgt; cases hgt
          · rw [hj] at ht; cases ht; omega
        | some b =>
          have hm := h2 b hb
          by_cases hx : s.at_ < atOf l b
          · rw [lastTo_less hj hg hb hx]
            refine ⟨fun hn => (by cases hn), fun a ha i t hi ht hgt => ?_⟩
            cases ha
            rcases Nat.lt_succ_iff_lt_or_eq.1 hi with h | rfl
            · have := hm i t h ht hgt; omega
            · rw [hj] at ht; cases ht; omega
          · rw [lastTo_keep hj hg hb hx]
            refine ⟨fun hn => (by cases hn), fun a ha i t hi ht hgt => ?_⟩
            cases ha
            rcases Nat.lt_succ_iff_lt_or_eq.1 hi with h | rfl
            · exact hm i t h ht hgt
            · rw [hj] at ht; cases ht; omega
/-- Behind Notes and cuts: the same subscribers, but that some are gone. -/
def SubLe (s s' : Sb) : Prop := s'.id = s.id ∧ s'.fr = s.fr ∧ s'.at_ = s.at_ ∧ s'.q = s.q ∧ (s.gone = true → s'.gone = true)
def SubsLe (l l' : List Sb) : Prop := l'.length = l.length ∧ ∀ (i : Nat) (s' : Sb), l'[i]? = some s' → ∃ s : Sb, l[i]? = some s ∧ SubLe s s'
theorem SubsLe.refl (l : List Sb) : SubsLe l l := ⟨rfl, fun _ s' h => ⟨s', h, rfl, rfl, rfl, rfl, fun h => h⟩⟩
theorem SubsLe.trans {a b c : List Sb} (h : SubsLe a b) (k : SubsLe b c) : SubsLe a c := ⟨k.1.trans h.1, fun i s' hs => by
  obtain ⟨s1, h1, e1, e2, e3, e4, e5⟩ := k.2 i s' hs
  obtain ⟨s0, h0, f1, f2, f3, f4, f5⟩ := h.2 i s1 h1
  exact ⟨s0, h0, e1.trans f1, e2.trans f2, e3.trans f3, e4.trans f4, fun h => e5 (f5 h)⟩⟩
theorem goneD_le (D : Fdr) : SubsLe D.subs (goneD D).subs := by
  rcases goneD_eq D with e | ⟨a, ha, e⟩
  · rw [e]; exact SubsLe.refl _
  · rw [e]
    obtain ⟨s, hs, hg⟩ := lastTo_spec ha
    have hset : setAt D.subs a toGone = D.subs.set a (toGone s) := by unfold setAt; rw [hs]
    show SubsLe D.subs (setAt D.subs a toGone)
    rw [hset]
    refine ⟨List.length_set, fun i s' h => ?_⟩
    rw [List.getElem?_set] at h
    split at h
    · rename_i hi
      subst hi
      split at h
      · cases h
        exact ⟨s, hs, rfl, rfl, rfl, rfl, fun _ => rfl⟩
      · cases h
    · exact ⟨s', h, rfl, rfl, rfl, rfl, fun h => h⟩
theorem evict_le_subs : ∀ (k : Nat) (D : Fdr), SubsLe D.subs (evict k D).subs
  | 0, D => SubsLe.refl _
  | k + 1, D => by
    unfold evict
    split
    · exact (goneD_le D).trans (evict_le_subs k (trimD (goneD D)))
    · exact SubsLe.refl _
theorem evict_top : ∀ (k : Nat) (D : Fdr), (evict k D).top = D.top ∧ (evict k D).next = D.next
  | 0, D => ⟨rfl, rfl⟩
  | k + 1, D => by
    unfold evict
    split
    · obtain ⟨h1, h2⟩ := evict_top k (trimD (goneD D))
      have hg : (goneD D).top = D.top ∧ (goneD D).next = D.next := by
        rcases goneD_eq D with e | ⟨a, _, e⟩ <;> rw [e] <;> exact ⟨rfl, rfl⟩
      exact ⟨h1.trans hg.1, h2.trans hg.2⟩
    · exact ⟨rfl, rfl⟩
/-- Who is let go is furthest behind. -/
theorem evict_far : ∀ (k : Nat) (D : Fdr) (i j : Nat) (s s' t' : Sb), D.subs[i]? = some s → s.gone = false → (evict k D).subs[i]? = some s' → s'.gone = true → (evict k D).subs[j]? = some t' → t'.gone = false → s'.at_ ≤ t'.at_
  | 0, D, i, j, s, s', t', h1, h2, h3, h4, _, _ => by
    have h3' : D.subs[i]? = some s' := h3
    rw [h1] at h3'
    cases h3'
    rw [h2] at h4
    cases h4
  | k + 1, D, i, j, s, s', t', h1, h2, h3, h4, h5, h6 => by
    unfold evict at h3 h5
    split at h3
    · rename_i h32
      rw [if_pos h32] at h5
      have hle := evict_le_subs k (trimD (goneD D))
      cases hs : (goneD D).subs[i]? with
      | none =>
        have := (goneD_le D).1
        have hi := (List.getElem?_eq_some_iff.1 h1).1
        rw [List.getElem?_eq_none_iff] at hs
        omega
      | some s1 =>
        cases hg : s1.gone with
        | false => exact evict_far k (trimD (goneD D)) i j s1 s' t' hs hg h3 h4 h5 h6
        | true =>
          rcases goneD_eq D with e | ⟨a, ha, e⟩
          · rw [e, h1] at hs
            cases hs
            rw [h2] at hg
            cases hg
          · obtain ⟨y, hy, hyg⟩ := lastTo_spec ha
            have hset : (goneD D).subs = D.subs.set a (toGone y) := by rw [e]; simp only [setAt, hy]
            have hia : a = i := by
              rw [hset, List.getElem?_set] at hs
              split at hs
              · assumption
              · rw [h1] at hs
                cases hs
                rw [h2] at hg
                cases hg
            subst hia
            obtain ⟨s2, hs2, e1, e2, e3, e4, e5⟩ := ((goneD_le D).trans hle).2 a s' h3
            obtain ⟨t, ht, f1, f2, f3, f4, f5⟩ := ((goneD_le D).trans hle).2 j t' h5
            have htg : t.gone = false := by
              cases hc : t.gone with
              | false => rfl
              | true => have := f5 hc; rw [h6] at this; cases this
            have hmin := (lastTo_min (l := D.subs)).2 a ha j t (List.getElem?_eq_some_iff.1 ht).1 ht htg
            have hat : atOf D.subs a = s2.at_ := by unfold atOf; rw [hs2]
            omega
    · rw [h1] at h3
      cases h3
      rw [h2] at h4
      cases h4
/-- Numbers in order, cursors between their beginning and the top. -/
structure Ord (D : Fdr) : Prop where
  cur : ∀ s ∈ D.subs, 0 ≤ s.fr ∧ s.fr ≤ s.at_ ∧ s.at_ ≤ D.top ∧ s.id < D.next
  ids : D.subs.Pairwise fun a b => a.id < b.id
theorem Ord.le {D : Fdr} (h : Ord D) {E : Fdr} (hs : SubsLe D.subs E.subs) (ht : D.top ≤ E.top) (hn : E.next = D.next) : Ord E := by
  refine ⟨fun s' hs' => ?_, ?_⟩
  · obtain ⟨i, hi⟩ := List.getElem?_of_mem hs'
    obtain ⟨s, h0, e1, e2, e3, e4, e5⟩ := hs.2 i s' hi
    have := h.cur s (List.mem_of_getElem? h0)
    omega
  · rw [List.pairwise_iff_getElem]
    intro i j hi hj hij
    obtain ⟨s, h0, e1, _⟩ := hs.2 i _ (List.getElem?_eq_getElem hi)
    obtain ⟨t, h1, f1, _⟩ := hs.2 j _ (List.getElem?_eq_getElem hj)
    have := List.pairwise_iff_getElem.1 h.ids i j (List.getElem?_eq_some_iff.1 h0).1 (List.getElem?_eq_some_iff.1 h1).1 hij
    rw [(List.getElem?_eq_some_iff.1 h0).2, (List.getElem?_eq_some_iff.1 h1).2] at this
    omega
theorem noteR_le {D : Fdr} (pos : Int) (l : List Ev) : SubsLe D.subs (noteR D pos l).2.subs ∧ D.top ≤ (noteR D pos l).2.top ∧ (noteR D pos l).2.next = D.next := by
  unfold noteR
  split
  · exact ⟨SubsLe.refl _, Int.le_refl _, rfl⟩
  · split
    · exact ⟨SubsLe.refl _, Int.le_refl _, rfl⟩
    · rename_i h1 h2
      have he := evict_top (liveN (noteD D pos l).subs) (noteD D pos l)
      refine ⟨evict_le_subs _ (noteD D pos l), ?_, he.2⟩
      show D.top ≤ (evict (liveN (noteD D pos l).subs) (noteD D pos l)).top
      rw [he.1]
      show D.top ≤ pos
      omega
theorem step_ord {n : Nat} {D : Fdr} {k : Dc} (hg : Good n D) (h : Ord D) : Ord (stepR n D k).2 := by
  unfold stepR
  split
  · show Ord (addR n D k.q).2
    unfold addR
    split
    · exact h
    · split
      · exact h
      · split
        · exact h
        · refine ⟨fun s hs => ?_, ?_⟩
          · rcases List.mem_append.1 hs with hs | hs
            · have := h.cur s hs
              show 0 ≤ s.fr ∧ s.fr ≤ s.at_ ∧ s.at_ ≤ D.top ∧ s.id < D.next + 1
              omega
            · rw [List.mem_singleton] at hs
              subst hs
              have := hg.top.1
              show 0 ≤ D.top ∧ D.top ≤ D.top ∧ D.top ≤ D.top ∧ D.next < D.next + 1
              omega
          · refine List.pairwise_append.2 ⟨h.ids, List.pairwise_singleton _ _, fun a ha b hb => ?_⟩
            rw [List.mem_singleton] at hb
            subst hb
            exact (h.cur a ha).2.2.2
  · split
    · unfold dropR
      split
      · exact h
      · exact ⟨fun s hs => h.cur s (List.mem_filter.1 hs).1, h.ids.filter _⟩
    · split
      · unfold ackR
        split
        · exact h
        · split
          · exact h
          · split
            · exact h
            · rename_i h1 h2 h3
              cases hx : D.subs[(findR D.subs k.id).1.toNat]? with
              | none =>
                have hset : setAt D.subs (findR D.subs k.id).1.toNat (toAt k.pos) = D.subs := by unfold setAt; rw [hx]
                rw [hset]
                exact ⟨h.cur, h.ids⟩
              | some x =>
                have hset : setAt D.subs (findR D.subs k.id).1.toNat (toAt k.pos) = D.subs.set (findR D.subs k.id).1.toNat (toAt k.pos x) := by unfold setAt; rw [hx]
                have hat : atOf D.subs (findR D.subs k.id).1.toNat = x.at_ := by unfold atOf; rw [hx]
                rw [hset]
                have hxm := h.cur x (List.mem_of_getElem? hx)
                refine ⟨fun s hs => ?_, ?_⟩
                · rcases List.mem_or_eq_of_mem_set hs with hs | rfl
                  · exact h.cur s hs
                  · show 0 ≤ x.fr ∧ x.fr ≤ k.pos ∧ k.pos ≤ D.top ∧ x.id < D.next
                    omega
                · show (D.subs.set _ _).Pairwise _
                  rw [List.pairwise_iff_getElem]
                  intro i j hi hj hij
                  rw [List.length_set] at hi hj
                  have hp := List.pairwise_iff_getElem.1 h.ids i j hi hj hij
                  have hid : ∀ m (hm : m < D.subs.length) (hm' : m < (D.subs.set (findR D.subs k.id).1.toNat (toAt k.pos x)).length), (D.subs.set (findR D.subs k.id).1.toNat (toAt k.pos x))[m].id = D.subs[m].id := fun m hm hm' => by
                    rw [List.getElem_set]
                    split
                    · rename_i he
                      subst he
                      rw [List.getElem?_eq_getElem hm] at hx
                      cases hx
                      rfl
                    · rfl
                  rw [hid i hi, hid j hj]
                  exact hp
      · split
        · exact h
        · obtain ⟨a, b, c⟩ := noteR_le (nextP D k) k.evs
          exact h.le a b c
theorem newD_ord : Ord newD := ⟨fun s hs => (by cases hs), List.Pairwise.nil⟩
theorem ord_fold {n : Nat} : ∀ {l : List Dc} {D : Fdr}, Good n D → Ord D → (∀ k ∈ l, CallOk n k) → Ord (l.foldl (fun D k => (stepR n D k).2) D)
  | [], _, _, h, _ => h
  | k :: l, _, hg, h, hk => ord_fold (l := l) (step_good hg (hk k (List.mem_cons_self ..))) (step_ord hg h) (fun y hy => hk y (List.mem_cons_of_mem _ hy))
theorem madeD_ord {n : Nat} {l : List Dc} (h : ∀ k ∈ l, CallOk n k) : Ord (madeD n l) := ord_fold (newD_good n) newD_ord h
/-- Nobody is let go but where more than 32 events would be kept. -/
theorem note_lets {D : Fdr} {pos : Int} {l : List Ev} {i : Nat} {s s' : Sb} (h1 : D.subs[i]? = some s) (h2 : s.gone = false) (h3 : (noteR D pos l).2.subs[i]? = some s') (h4 : s'.gone = true) :
    (noteR D pos l).1 = 0 ∧ 32 < D.evs.length + l.length ∧ ∀ (j : Nat) (t' : Sb), (noteR D pos l).2.subs[j]? = some t' → t'.gone = false → s'.at_ ≤ t'.at_ := by
  unfold noteR at h3 ⊢
  split at h3
  · rw [h1] at h3; cases h3; rw [h2] at h4; cases h4
  · rename_i c1
    split at h3
    · rw [h1] at h3; cases h3; rw [h2] at h4; cases h4
    · rename_i c2
      rw [if_neg c1, if_neg c2]
      refine ⟨rfl, ?_, fun j t' h5 h6 => evict_far _ (noteD D pos l) i j s s' t' h1 h2 h3 h4 h5 h6⟩
      refine Nat.lt_of_not_le fun hle => ?_
      have hsm : (noteD D pos l).evs.length ≤ 32 := Nat.le_trans (trimE_len _ _) (by simp only [List.length_append, List.length_map]; omega)
      have hno : ∀ m, evict m (noteD D pos l) = noteD D pos l := fun m => by
        cases m with
        | zero => rfl
        | succ m => unfold evict; rw [if_neg (by omega)]
      simp only [hno] at h3
      have h3' : D.subs[i]? = some s' := h3
      rw [h1] at h3'
      cases h3'
      rw [h2] at h4
      cases h4
end Go.Proofs.Ytdjfijdnhfmeeaa
