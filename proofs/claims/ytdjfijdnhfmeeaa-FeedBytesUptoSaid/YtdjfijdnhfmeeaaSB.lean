/- PLAIN LAW: what a feed's subscribers keep: numbers in order, cursors between their beginning and the top; who is let go. Loads and addresses of elements, as steps of drawn regions: small proofs. PLAIN LAW: feeds whose subscribers all stand at the beginning: what a Note does, what the first one reads. PLAIN LAW: what one subscriber gets who reads again and again: just what passes its filter, in order. PLAIN LAW: the document's way to read a feed is the program's. -/
import Derived.Test.YtdjfijdnhfmeeaaRB
import Derived.Test.YtdjfijdnhfmeeaaL
namespace Go.Proofs.Ytdjfijdnhfmeeaa
open Go.RowKit Go.TM
theorem lastTo_min {l : List Sb} : ∀ {j : Nat}, (lastTo l j = none → ∀ i t, i < j → l[i]? = some t → t.gone = true) ∧ (∀ a, lastTo l j = some a → ∀ i t, i < j → l[i]? = some t → t.gone = false → atOf l a ≤ t.at_)
  | 0 => ⟨fun _ i t h => by omega, fun a h => by cases h⟩
  | j + 1 => by
    obtain ⟨h1, h2⟩ := lastTo_min (l := l) (j := j)
    cases hj : l[j]? with
    | none =>
      have he : lastTo l (j + 1) = lastTo l j := by
        conv => lhs; unfold lastTo
        rw [hj]
      rw [he]
      refine ⟨fun hn i t hi ht => ?_, fun a ha i t hi ht hg => ?_⟩
      · rcases Nat.lt_succ_iff_lt_or_eq.1 hi with h | rfl
        · exact h1 hn i t h ht
        · rw [hj] at ht; cases ht
      · rcases Nat.lt_succ_iff_lt_or_eq.1 hi with h | rfl
        · exact h2 a ha i t h ht hg
        · rw [hj] at ht; cases ht
    | some s =>
      cases hg : s.gone with
      | true =>
        rw [lastTo_gone hj hg]
        refine ⟨fun hn i t hi ht => ?_, fun a ha i t hi ht hgt => ?_⟩
        · rcases Nat.lt_succ_iff_lt_or_eq.1 hi with h | rfl
          · exact h1 hn i t h ht
          · rw [hj] at ht; cases ht; exact hg
        · rcases Nat.lt_succ_iff_lt_or_eq.1 hi with h | rfl
          · exact h2 a ha i t h ht hgt
          · rw [hj] at ht; cases ht; rw [hg] at hgt; cases hgt
      | false =>
        have hat : atOf l j = s.at_ := by unfold atOf; rw [hj]
        cases hb : lastTo l j with
        | none =>
          rw [lastTo_new hj hg hb]
          refine ⟨fun hn => (by cases hn), fun a ha i t hi ht hgt => ?_⟩
          cases ha
          rcases Nat.lt_succ_iff_lt_or_eq.1 hi with h | rfl
          · have := h1 hb i t h ht; rw [this] at hgt; cases hgt
          · rw [hj] at ht; cases ht; omega
        | some b =>
          have hm := h2 b hb
          by_cases hx : s.at_ < atOf l b
          · rw [lastTo_less hj hg hb hx]
            refine ⟨fun hn => (by cases hn), fun a ha i t hi ht hgt => ?_⟩
            cases ha
            rcases Nat.lt_succ_iff_lt_or_eq.1 hi with h | rfl
            · have := hm i t h ht hgt; omega
            · rw [hj] at ht; cases ht; omega
          · rw [lastTo_keep hj hg hb hx]
            refine ⟨fun hn => (by cases hn), fun a ha i t hi ht hgt => ?_⟩
            cases ha
            rcases Nat.lt_succ_iff_lt_or_eq.1 hi with h | rfl
            · exact hm i t h ht hgt
            · rw [hj] at ht; cases ht; omega
/-- Behind Notes and cuts: the same subscribers, but that some are gone. -/
def SubLe (s s' : Sb) : Prop := s'.id = s.id ∧ s'.fr = s.fr ∧ s'.at_ = s.at_ ∧ s'.q = s.q ∧ (s.gone = true → s'.gone = true)
def SubsLe (l l' : List Sb) : Prop := l'.length = l.length ∧ ∀ (i : Nat) (s' : Sb), l'[i]? = some s' → ∃ s : Sb, l[i]? = some s ∧ SubLe s s'
theorem SubsLe.refl (l : List Sb) : SubsLe l l := ⟨rfl, fun _ s' h => ⟨s', h, rfl, rfl, rfl, rfl, fun h => h⟩⟩
theorem SubsLe.trans {a b c : List Sb} (h : SubsLe a b) (k : SubsLe b c) : SubsLe a c := ⟨k.1.trans h.1, fun i s' hs => by
  obtain ⟨s1, h1, e1, e2, e3, e4, e5⟩ := k.2 i s' hs
  obtain ⟨s0, h0, f1, f2, f3, f4, f5⟩ := h.2 i s1 h1
  exact ⟨s0, h0, e1.trans f1, e2.trans f2, e3.trans f3, e4.trans f4, fun h => e5 (f5 h)⟩⟩
theorem goneD_le (D : Fdr) : SubsLe D.subs (goneD D).subs := by
  rcases goneD_eq D with e | ⟨a, ha, e⟩
  · rw [e]; exact SubsLe.refl _
  · rw [e]
    obtain ⟨s, hs, hg⟩ := lastTo_spec ha
    have hset : setAt D.subs a toGone = D.subs.set a (toGone s) := by unfold setAt; rw [hs]
    show SubsLe D.subs (setAt D.subs a toGone)
    rw [hset]
    refine ⟨List.length_set, fun i s' h => ?_⟩
    rw [List.getElem?_set] at h
    split at h
    · rename_i hi
      subst hi
      split at h
      · cases h
        exact ⟨s, hs, rfl, rfl, rfl, rfl, fun _ => rfl⟩
      · cases h
    · exact ⟨s', h, rfl, rfl, rfl, rfl, fun h => h⟩
theorem evict_le_subs : ∀ (k : Nat) (D : Fdr), SubsLe D.subs (evict k D).subs
  | 0, D => SubsLe.refl _
  | k + 1, D => by
    unfold evict
    split
    · exact (goneD_le D).trans (evict_le_subs k (trimD (goneD D)))
    · exact SubsLe.refl _
theorem evict_top : ∀ (k : Nat) (D : Fdr), (evict k D).top = D.top ∧ (evict k D).next = D.next
  | 0, D => ⟨rfl, rfl⟩
  | k + 1, D => by
    unfold evict
    split
    · obtain ⟨h1, h2⟩ := evict_top k (trimD (goneD D))
      have hg : (goneD D).top = D.top ∧ (goneD D).next = D.next := by
        rcases goneD_eq D with e | ⟨a, _, e⟩ <;> rw [e] <;> exact ⟨rfl, rfl⟩
      exact ⟨h1.trans hg.1, h2.trans hg.2⟩
    · exact ⟨rfl, rfl⟩
/-- Who is let go is furthest behind. -/
theorem evict_far : ∀ (k : Nat) (D : Fdr) (i j : Nat) (s s' t' : Sb), D.subs[i]? = some s → s.gone = false → (evict k D).subs[i]? = some s' → s'.gone = true → (evict k D).subs[j]? = some t' → t'.gone = false → s'.at_ ≤ t'.at_
  | 0, D, i, j, s, s', t', h1, h2, h3, h4, _, _ => by
    have h3' : D.subs[i]? = some s' := h3
    rw [h1] at h3'
    cases h3'
    rw [h2] at h4
    cases h4
  | k + 1, D, i, j, s, s', t', h1, h2, h3, h4, h5, h6 => by
    unfold evict at h3 h5
    split at h3
    · rename_i h32
      rw [if_pos h32] at h5
      have hle := evict_le_subs k (trimD (goneD D))
      cases hs : (goneD D).subs[i]? with
      | none =>
        have := (goneD_le D).1
        have hi := (List.getElem?_eq_some_iff.1 h1).1
        rw [List.getElem?_eq_none_iff] at hs
        omega
      | some s1 =>
        cases hg : s1.gone with
        | false => exact evict_far k (trimD (goneD D)) i j s1 s' t' hs hg h3 h4 h5 h6
        | true =>
          rcases goneD_eq D with e | ⟨a, ha, e⟩
          · rw [e, h1] at hs
            cases hs
            rw [h2] at hg
            cases hg
          · obtain ⟨y, hy, hyg⟩ := lastTo_spec ha
            have hset : (goneD D).subs = D.subs.set a (toGone y) := by rw [e]; simp only [setAt, hy]
            have hia : a = i := by
              rw [hset, List.getElem?_set] at hs
              split at hs
              · assumption
              · rw [h1] at hs
                cases hs
                rw [h2] at hg
                cases hg
            subst hia
            obtain ⟨s2, hs2, e1, e2, e3, e4, e5⟩ := ((goneD_le D).trans hle).2 a s' h3
            obtain ⟨t, ht, f1, f2, f3, f4, f5⟩ := ((goneD_le D).trans hle).2 j t' h5
            have htg : t.gone = false := by
              cases hc : t.gone with
              | false => rfl
              | true => have := f5 hc; rw [h6] at this; cases this
            have hmin := (lastTo_min (l := D.subs)).2 a ha j t (List.getElem?_eq_some_iff.1 ht).1 ht htg
            have hat : atOf D.subs a = s2.at_ := by unfold atOf; rw [hs2]
            omega
    · rw [h1] at h3
      cases h3
      rw [h2] at h4
      cases h4
/-- Numbers in order, cursors between their beginning and the top. -/
structure Ord (D : Fdr) : Prop where
  cur : ∀ s ∈ D.subs, 0 ≤ s.fr ∧ s.fr ≤ s.at_ ∧ s.at_ ≤ D.top ∧ s.id < D.next
  ids : D.subs.Pairwise fun a b => a.id < b.id
theorem Ord.le {D : Fdr} (h : Ord D) {E : Fdr} (hs : SubsLe D.subs E.subs) (ht : D.top ≤ E.top) (hn : E.next = D.next) : Ord E := by
  refine ⟨fun s' hs' => ?_, ?_⟩
  · obtain ⟨i, hi⟩ := List.getElem?_of_mem hs'
    obtain ⟨s, h0, e1, e2, e3, e4, e5⟩ := hs.2 i s' hi
    have := h.cur s (List.mem_of_getElem? h0)
    omega
  · rw [List.pairwise_iff_getElem]
    intro i j hi hj hij
    obtain ⟨s, h0, e1, _⟩ := hs.2 i _ (List.getElem?_eq_getElem hi)
    obtain ⟨t, h1, f1, _⟩ := hs.2 j _ (List.getElem?_eq_getElem hj)
    have := List.pairwise_iff_getElem.1 h.ids i j (List.getElem?_eq_some_iff.1 h0).1 (List.getElem?_eq_some_iff.1 h1).1 hij
    rw [(List.getElem?_eq_some_iff.1 h0).2, (List.getElem?_eq_some_iff.1 h1).2] at this
    omega
theorem noteR_le {D : Fdr} (pos : Int) (l : List Ev) : SubsLe D.subs (noteR D pos l).2.subs ∧ D.top ≤ (noteR D pos l).2.top ∧ (noteR D pos l).2.next = D.next := by
  unfold noteR
  split
  · exact ⟨SubsLe.refl _, Int.le_refl _, rfl⟩
  · split
    · exact ⟨SubsLe.refl _, Int.le_refl _, rfl⟩
    · rename_i h1 h2
      have he := evict_top (liveN (noteD D pos l).subs) (noteD D pos l)
      refine ⟨evict_le_subs _ (noteD D pos l), ?_, he.2⟩
      show D.top ≤ (evict (liveN (noteD D pos l).subs) (noteD D pos l)).top
      rw [he.1]
      show D.top ≤ pos
      omega
theorem step_ord {n : Nat} {D : Fdr} {k : Dc} (hg : Good n D) (h : Ord D) : Ord (stepR n D k).2 := by
  unfold stepR
  split
  · show Ord (addR n D k.q).2
    unfold addR
    split
    · exact h
    · split
      · exact h
      · split
        · exact h
        · refine ⟨fun s hs => ?_, ?_⟩
          · rcases List.mem_append.1 hs with hs | hs
            · have := h.cur s hs
              show 0 ≤ s.fr ∧ s.fr ≤ s.at_ ∧ s.at_ ≤ D.top ∧ s.id < D.next + 1
              omega
            · rw [List.mem_singleton] at hs
              subst hs
              have := hg.top.1
              show 0 ≤ D.top ∧ D.top ≤ D.top ∧ D.top ≤ D.top ∧ D.next < D.next + 1
              omega
          · refine List.pairwise_append.2 ⟨h.ids, List.pairwise_singleton _ _, fun a ha b hb => ?_⟩
            rw [List.mem_singleton] at hb
            subst hb
            exact (h.cur a ha).2.2.2
  · split
    · unfold dropR
      split
      · exact h
      · exact ⟨fun s hs => h.cur s (List.mem_filter.1 hs).1, h.ids.filter _⟩
    · split
      · unfold ackR
        split
        · exact h
        · split
          · exact h
          · split
            · exact h
            · rename_i h1 h2 h3
              cases hx : D.subs[(findR D.subs k.id).1.toNat]? with
              | none =>
                have hset : setAt D.subs (findR D.subs k.id).1.toNat (toAt k.pos) = D.subs := by unfold setAt; rw [hx]
                rw [hset]
                exact ⟨h.cur, h.ids⟩
              | some x =>
                have hset : setAt D.subs (findR D.subs k.id).1.toNat (toAt k.pos) = D.subs.set (findR D.subs k.id).1.toNat (toAt k.pos x) := by unfold setAt; rw [hx]
                have hat : atOf D.subs (findR D.subs k.id).1.toNat = x.at_ := by unfold atOf; rw [hx]
                rw [hset]
                have hxm := h.cur x (List.mem_of_getElem? hx)
                refine ⟨fun s hs => ?_, ?_⟩
                · rcases List.mem_or_eq_of_mem_set hs with hs | rfl
                  · exact h.cur s hs
                  · show 0 ≤ x.fr ∧ x.fr ≤ k.pos ∧ k.pos ≤ D.top ∧ x.id < D.next
                    omega
                · show (D.subs.set _ _).Pairwise _
                  rw [List.pairwise_iff_getElem]
                  intro i j hi hj hij
                  rw [List.length_set] at hi hj
                  have hp := List.pairwise_iff_getElem.1 h.ids i j hi hj hij
                  have hid : ∀ m (hm : m < D.subs.length) (hm' : m < (D.subs.set (findR D.subs k.id).1.toNat (toAt k.pos x)).length), (D.subs.set (findR D.subs k.id).1.toNat (toAt k.pos x))[m].id = D.subs[m].id := fun m hm hm' => by
                    rw [List.getElem_set]
                    split
                    · rename_i he
                      subst he
                      rw [List.getElem?_eq_getElem hm] at hx
                      cases hx
                      rfl
                    · rfl
                  rw [hid i hi, hid j hj]
                  exact hp
      · split
        · exact h
        · obtain ⟨a, b, c⟩ := noteR_le (nextP D k) k.evs
          exact h.le a b c
theorem newD_ord : Ord newD := ⟨fun s hs => (by cases hs), List.Pairwise.nil⟩
theorem ord_fold {n : Nat} : ∀ {l : List Dc} {D : Fdr}, Good n D → Ord D → (∀ k ∈ l, CallOk n k) → Ord (l.foldl (fun D k => (stepR n D k).2) D)
  | [], _, _, h, _ => h
  | k :: l, _, hg, h, hk => ord_fold (l := l) (step_good hg (hk k (List.mem_cons_self ..))) (step_ord hg h) (fun y hy => hk y (List.mem_cons_of_mem _ hy))
theorem madeD_ord {n : Nat} {l : List Dc} (h : ∀ k ∈ l, CallOk n k) : Ord (madeD n l) := ord_fold (newD_good n) newD_ord h
/-- Nobody is let go but where more than 32 events would be kept. -/
theorem note_lets {D : Fdr} {pos : Int} {l : List Ev} {i : Nat} {s s' : Sb} (h1 : D.subs[i]? = some s) (h2 : s.gone = false) (h3 : (noteR D pos l).2.subs[i]? = some s') (h4 : s'.gone = true) :
    (noteR D pos l).1 = 0 ∧ 32 < D.evs.length + l.length ∧ ∀ (j : Nat) (t' : Sb), (noteR D pos l).2.subs[j]? = some t' → t'.gone = false → s'.at_ ≤ t'.at_ := by
  unfold noteR at h3 ⊢
  split at h3
  · rw [h1] at h3; cases h3; rw [h2] at h4; cases h4
  · rename_i c1
    split at h3
    · rw [h1] at h3; cases h3; rw [h2] at h4; cases h4
    · rename_i c2
      rw [if_neg c1, if_neg c2]
      refine ⟨rfl, ?_, fun j t' h5 h6 => evict_far _ (noteD D pos l) i j s s' t' h1 h2 h3 h4 h5 h6⟩
      refine Nat.lt_of_not_le fun hle => ?_
      have hsm : (noteD D pos l).evs.length ≤ 32 := Nat.le_trans (trimE_len _ _) (by simp only [List.length_append, List.length_map]; omega)
      have hno : ∀ m, evict m (noteD D pos l) = noteD D pos l := fun m => by
        cases m with
        | zero => rfl
        | succ m => unfold evict; rw [if_neg (by omega)]
      simp only [hno] at h3
      have h3' : D.subs[i]? = some s' := h3
      rw [h1] at h3'
      cases h3'
      rw [h2] at h4
      cases h4
end Go.Proofs.Ytdjfijdnhfmeeaa

namespace Go.Proofs.Ytdjfijdnhfmeeaa
open Go.RowKit Go.TM
section
variable {a : Act} {W : World} {oi : Oper} {t s : Tmp} {p : Addr} {v : Value}
set_option maxRecDepth 100000 in
theorem ld3 (ho : oi.op = .load 3 (.tmp t)) (hp : a.eval (.tmp t) = .pointer (some p)) (hc : W.cell? p = some v) : (execOp a.eval oi).run Try.prog W = .ok (.value v) W := by
  unfold execOp
  rw [ho]
  simp only [hp]
  go_simp
set_option maxRecDepth 100000 in
theorem ld4 (ho : oi.op = .load 4 (.tmp t)) (hp : a.eval (.tmp t) = .pointer (some p)) (hc : W.cell? p = some v) : (execOp a.eval oi).run Try.prog W = .ok (.value v) W := by
  unfold execOp
  rw [ho]
  simp only [hp]
  go_simp
set_option maxRecDepth 100000 in
theorem ix53 {g off n c j : Nat} (ho : oi.op = .indexAddr 53 (.tmp t) (.tmp s)) (hs : a.eval (.tmp t) = .slice (some ⟨g, off, none⟩) n c) (hi : a.eval (.tmp s) = .int .i64 (j : Int)) (hj : j < n) :
    (execOp a.eval oi).run Try.prog W = .ok (.value (.pointer (some ⟨g, off + j * 8, none⟩))) W := by
  unfold execOp
  rw [ho]
  simp only [hs, hi]
  have h1 : (j : Int) < (n : Int) := by omega
  have h2 : (0 : Int) ≤ (j : Int) := by omega
  go_simp
end
end Go.Proofs.Ytdjfijdnhfmeeaa

namespace Go.Proofs.Ytdjfijdnhfmeeaa
open Go.RowKit Go.TM
theorem last_gone {l : List Sb} (h : lastS l = none) : ∀ s ∈ l, s.gone = true := fun s hs => by
  obtain ⟨i, hi⟩ := List.getElem?_of_mem hs
  exact (lastTo_min (l := l)).1 h i s (List.getElem?_eq_some_iff.1 hi).1 hi
theorem last_live {l : List Sb} {a : Nat} (h : lastS l = some a) (h0 : ∀ s ∈ l, s.at_ = 0) : atOf l a = 0 := by
  obtain ⟨s, hs, _⟩ := lastTo_spec h
  unfold atOf
  rw [hs]
  exact h0 s (List.mem_of_getElem? hs)
theorem filter_pos {l : List Ev} {x : Int} (hx : x = 0) (h : ∀ e ∈ l, 0 < e.pos) : (l.filter fun e => !decide (e.pos ≤ x)) = l := by
  subst hx
  refine List.filter_eq_self.2 fun e he => ?_
  have := h e he
  simp
  omega
/-- While all stand at the beginning, all is kept or nobody is left. -/
theorem evict_uni {E : List Ev} (hE : ∀ e ∈ E, 0 < e.pos) : ∀ (k : Nat) (D : Fdr), (∀ s ∈ D.subs, s.at_ = 0) → (D.evs = E ∨ (D.evs = [] ∧ lastS D.subs = none)) → ((evict k D).evs = E ∨ ((evict k D).evs = [] ∧ lastS (evict k D).subs = none))
  | 0, _, _, h => h
  | k + 1, D, h0, h => by
    unfold evict
    split
    · rename_i h32
      have hDE : D.evs = E := by
        rcases h with h | ⟨h, _⟩
        · exact h
        · rw [h] at h32
          simp at h32
      have h0' : ∀ s ∈ (goneD D).subs, s.at_ = 0 := fun s hs => by
        obtain ⟨i, hi⟩ := List.getElem?_of_mem hs
        obtain ⟨t, ht, _, _, e3, _⟩ := (goneD_le D).2 i s hi
        rw [e3]
        exact h0 t (List.mem_of_getElem? ht)
      have hge : (goneD D).evs = D.evs := by
        rcases goneD_eq D with e | ⟨a, _, e⟩ <;> rw [e]
      refine evict_uni hE k (trimD (goneD D)) h0' ?_
      cases hl : lastS (goneD D).subs with
      | none => exact .inr ⟨trimD_none hl, hl⟩
      | some a =>
        left
        show trimE (goneD D).subs (goneD D).evs = E
        unfold trimE
        rw [hl]
        simp only
        rw [hge, hDE]
        exact filter_pos (last_live hl h0') hE
    · exact h
/-- All stand at the beginning; all are gone, or none. -/
structure Uni (q : Flt) (gn : Bool) (evs : List Ev) (top : Int) (D : Fdr) : Prop where
  evs : D.evs = evs
  top : D.top = top
  first : ∃ s rest, D.subs = s :: rest ∧ s.id = 1 ∧ s.q = q
  all : ∀ s ∈ D.subs, s.at_ = 0 ∧ s.gone = gn
/-- What a Note leaves: gone, events, top. -/
def noteU (gn : Bool) (evs : List Ev) (top pos : Int) (l : List Ev) : Bool × List Ev × Int :=
  if pos ≤ top then (gn, evs, top) else if 1099511627776 < pos then (gn, evs, top)
  else if gn = true then (true, [], pos) else if (evs ++ l.map (toPos pos)).length ≤ 32 then (false, evs ++ l.map (toPos pos), pos) else (true, [], pos)
theorem Uni.le {q : Flt} {gn : Bool} {evs : List Ev} {top : Int} {D E : Fdr} (h : Uni q gn evs top D) (hs : SubsLe D.subs E.subs) : (∃ s rest, E.subs = s :: rest ∧ s.id = 1 ∧ s.q = q) ∧ ∀ s ∈ E.subs, s.at_ = 0 := by
  refine ⟨?_, fun s hm => ?_⟩
  · obtain ⟨s, rest, h1, h2, h3⟩ := h.first
    cases he : E.subs with
    | nil =>
      have := hs.1
      rw [he, h1] at this
      simp at this
    | cons t ts =>
      obtain ⟨y, hy, e1, _, _, e4, _⟩ := hs.2 0 t (by rw [he]; rfl)
      rw [h1] at hy
      cases hy
      exact ⟨t, ts, rfl, e1.trans h2, e4.trans h3⟩
  · obtain ⟨i, hi⟩ := List.getElem?_of_mem hm
    obtain ⟨t, ht, _, _, e3, _⟩ := hs.2 i s hi
    rw [e3]
    exact (h.all t (List.mem_of_getElem? ht)).1
theorem note_uni {q : Flt} {gn : Bool} {evs : List Ev} {top : Int} {D : Fdr} (h : Uni q gn evs top D) (hp : ∀ e ∈ evs, 0 < e.pos) (ht : 0 ≤ top) (pos : Int) (l : List Ev) :
    Uni q (noteU gn evs top pos l).1 (noteU gn evs top pos l).2.1 (noteU gn evs top pos l).2.2 (noteR D pos l).2 := by
  unfold noteU noteR
  rw [h.top]
  by_cases c1 : pos ≤ top
  · simp only [if_pos c1]
    exact h
  · simp only [if_neg c1]
    by_cases c2 : 1099511627776 < pos
    · simp only [if_pos c2]
      exact h
    · simp only [if_neg c2]
      have h0 : ∀ s ∈ (noteD D pos l).subs, s.at_ = 0 := fun s hs => (h.all s hs).1
      have hE : ∀ e ∈ evs ++ l.map (toPos pos), 0 < e.pos := fun e he => by
        rcases List.mem_append.1 he with he | he
        · exact hp e he
        · obtain ⟨y, _, rfl⟩ := List.mem_map.1 he
          show 0 < pos
          omega
      have hsub : SubsLe D.subs (evict (liveN (noteD D pos l).subs) (noteD D pos l)).subs := evict_le_subs _ (noteD D pos l)
      have htop : (evict (liveN (noteD D pos l).subs) (noteD D pos l)).top = pos := (evict_top _ (noteD D pos l)).1
      have hle := evict_le (k := liveN (noteD D pos l).subs) (D := noteD D pos l) rfl (fun hx => trimD_none hx)
      have hno : (noteD D pos l).evs.length ≤ 32 → ∀ m, evict m (noteD D pos l) = noteD D pos l := fun hh m => by
        cases m with
        | zero => rfl
        | succ m => unfold evict; rw [if_neg (by omega)]
      cases gn with
      | true =>
        simp only [if_true]
        have hl : lastS D.subs = none := by
          cases hc : lastS D.subs with
          | none => rfl
          | some a =>
            obtain ⟨s, hs, hg⟩ := lastTo_spec hc
            have := (h.all s (List.mem_of_getElem? hs)).2
            rw [hg] at this
            cases this
        have hev : (noteD D pos l).evs = [] := trimD_none hl
        have hn := hno (by rw [hev]; exact Nat.zero_le _)
        rw [hn]
        exact ⟨hev, rfl, h.first, h.all⟩
      | false =>
        simp only [Bool.false_eq_true, if_false]
        have hl : ∃ a, lastS D.subs = some a := by
          cases hc : lastS D.subs with
          | some a => exact ⟨a, rfl⟩
          | none =>
            obtain ⟨s, rest, h1, _⟩ := h.first
            have h2 := last_gone hc s (by rw [h1]; exact List.mem_cons_self ..)
            have h3 := (h.all s (by rw [h1]; exact List.mem_cons_self ..)).2
            rw [h2] at h3
            cases h3
        obtain ⟨a, ha⟩ := hl
        have hev : (noteD D pos l).evs = evs ++ l.map (toPos pos) := by
          show trimE D.subs (D.evs ++ l.map (toPos pos)) = _
          unfold trimE
          rw [ha]
          simp only
          rw [h.evs]
          exact filter_pos (last_live ha (fun s hs => (h.all s hs).1)) hE
        by_cases c3 : (evs ++ l.map (toPos pos)).length ≤ 32
        · simp only [if_pos c3]
          rw [hno (by rw [hev]; exact c3)]
          exact ⟨hev, rfl, h.first, h.all⟩
        · simp only [if_neg c3]
          rcases evict_uni hE (liveN (noteD D pos l).subs) (noteD D pos l) h0 (.inl hev) with hx | ⟨hx, hy⟩
          · rw [hx] at hle
            exact absurd hle c3
          · obtain ⟨u1, u2⟩ := h.le hsub
            exact ⟨hx, htop, u1, fun s hs => ⟨u2 s hs, last_gone hy s hs⟩⟩
theorem noteU_pos {gn : Bool} {evs : List Ev} {top pos : Int} {l : List Ev} (hp : ∀ e ∈ evs, 0 < e.pos) (ht : 0 ≤ top) : (∀ e ∈ (noteU gn evs top pos l).2.1, 0 < e.pos) ∧ 0 ≤ (noteU gn evs top pos l).2.2 := by
  unfold noteU
  split
  · exact ⟨hp, ht⟩
  · split
    · exact ⟨hp, ht⟩
    · split
      · exact ⟨fun e he => (by cases he), by show 0 ≤ pos; omega⟩
      · split
        · refine ⟨fun e he => ?_, by show 0 ≤ pos; omega⟩
          rcases List.mem_append.1 he with he | he
          · exact hp e he
          · obtain ⟨y, _, rfl⟩ := List.mem_map.1 he
            show 0 < pos
            omega
        · exact ⟨fun e he => (by cases he), by show 0 ≤ pos; omega⟩
/-- What the first subscriber reads. -/
def readU (n : Nat) (q : Flt) (gn : Bool) (evs : List Ev) (top most : Int) : List Ev × Int × Int :=
  if gn = true then ([], 0, 81) else match readG (passQ n q) 0 most evs.length evs [] 0 with
    | (out, some up) => (out, up, 0)
    | (out, none) => (out, top, 0)
theorem read_uni {n : Nat} {q : Flt} {gn : Bool} {evs : List Ev} {top : Int} {D : Fdr} (h : Uni q gn evs top D) (ht : 0 ≤ top) (most : Int) : readR n D 1 0 most = readU n q gn evs top most := by
  obtain ⟨s, rest, h1, h2, h3⟩ := h.first
  obtain ⟨h4, h5⟩ := h.all s (by rw [h1]; exact List.mem_cons_self ..)
  have hf : findR D.subs 1 = if gn = true then (0, 81) else (0, 0) := by
    unfold findR
    rw [h1]
    simp [List.findIdx?_cons, h2, h5]
  unfold readR readU
  rw [hf]
  cases gn with
  | true => simp
  | false =>
    rw [h1]
    simp only [Bool.false_eq_true, if_false]
    rw [if_neg (fun hh => hh rfl)]
    simp only [Int.toNat_zero, List.getElem?_cons_zero]
    rw [if_neg (by omega), if_neg (by rw [h.top]; omega), h3, h.evs, h.top]
    rfl
theorem add_uni {n : Nat} {q : Flt} {D : Fdr} (h : Uni q false [] 0 D) (f : Flt) : Uni q false [] 0 (addR n D f).2 := by
  unfold addR
  split
  · exact h
  · split
    · exact h
    · split
      · exact h
      · obtain ⟨s, rest, h1, h2, h3⟩ := h.first
        refine ⟨h.evs, h.top, ⟨s, rest ++ [_], by rw [h1]; rfl, h2, h3⟩, fun y hy => ?_⟩
        rcases List.mem_append.1 hy with hy | hy
        · exact h.all y hy
        · rw [List.mem_singleton] at hy
          subst hy
          exact ⟨h.top, rfl⟩
/-- The tops of two feeds stay the same. -/
theorem note_top {D E : Fdr} (h : D.top = E.top) (pos : Int) (l : List Ev) : (noteR D pos l).2.top = (noteR E pos l).2.top := by
  unfold noteR
  rw [h]
  split
  · exact h
  · split
    · exact h
    · exact ((evict_top _ (noteD D pos l)).1).trans ((evict_top _ (noteD E pos l)).1).symm
theorem read_none {n : Nat} {D : Fdr} (h : ∀ s ∈ D.subs, 1 ≤ s.id) (most : Int) : readR n D 0 0 most = ([], 0, 80) := by
  have hf : findR D.subs 0 = (0, 80) := by
    rcases findR_cases D.subs 0 with ⟨h1, _⟩ | ⟨i, x, hx, h1, _⟩
    · exact h1
    · have := h x (List.mem_of_getElem? hx)
      omega
  unfold readR
  rw [hf]
  rfl
theorem note_ids {D : Fdr} (h : ∀ s ∈ D.subs, 1 ≤ s.id) (pos : Int) (l : List Ev) : ∀ s ∈ (noteR D pos l).2.subs, 1 ≤ s.id := fun s hs => by
  obtain ⟨i, hi⟩ := List.getElem?_of_mem hs
  obtain ⟨t, ht, e1, _⟩ := (noteR_le (D := D) pos l).1.2 i s hi
  rw [e1]
  exact h t (List.mem_of_getElem? ht)
theorem add_ids {n : Nat} {D : Fdr} (h : ∀ s ∈ D.subs, 1 ≤ s.id) (hn : 1 ≤ D.next) (f : Flt) : ∀ s ∈ (addR n D f).2.subs, 1 ≤ s.id := by
  unfold addR
  split
  · exact h
  · split
    · exact h
    · split
      · exact h
      · intro s hs
        rcases List.mem_append.1 hs with hs | hs
        · exact h s hs
        · rw [List.mem_singleton] at hs
          subst hs
          exact hn
theorem add_top {n : Nat} {D : Fdr} (f : Flt) : (addR n D f).2.top = D.top := by
  unfold addR
  split
  · rfl
  · split
    · rfl
    · split <;> rfl
theorem add_good {n : Nat} {D : Fdr} {f : Flt} (h : Good n D) (hf : okF (n + 1) f) (hk : okK (n + 1) f) : Good n (addR n D f).2 := by
  unfold addR
  split
  · exact h
  · split
    · exact h
    · split
      · exact h
      · rename_i hc h1 h2
        refine ⟨⟨?_, ?_⟩, h.top, h.evs, ?_, h.now, fun s hs => ?_⟩
        · have := h.next.1
          show 1 ≤ D.next + 1
          omega
        · show D.next + 1 ≤ _
          omega
        · show (D.subs ++ [_]).length ≤ 4
          rw [List.length_append, List.length_singleton]
          omega
        · rcases List.mem_append.1 hs with hs | hs
          · exact h.q s hs
          · rw [List.mem_singleton] at hs
            subst hs
            exact ⟨hf, hk, by simpa using hc⟩
/-- Two feeds that the law Apart compares. -/
def ApInv (n : Nat) (q : Flt) (A B : Fdr) : Prop :=
  A.top = B.top ∧ (checkE (n + 1) q = 0 → ∃ gn evs, Uni q gn evs A.top A ∧ Uni q gn evs A.top B ∧ (∀ e ∈ evs, 0 < e.pos) ∧ 0 ≤ A.top) ∧
    (checkE (n + 1) q ≠ 0 → (∀ s ∈ A.subs, 1 ≤ s.id) ∧ ∀ s ∈ B.subs, 1 ≤ s.id)
theorem ap_note {n : Nat} {q : Flt} {A B : Fdr} (h : ApInv n q A B) (pos : Int) (l : List Ev) : ApInv n q (noteR A pos l).2 (noteR B pos l).2 := by
  obtain ⟨h1, h2, h3⟩ := h
  refine ⟨note_top h1 pos l, fun hc => ?_, fun hc => ⟨note_ids (h3 hc).1 pos l, note_ids (h3 hc).2 pos l⟩⟩
  obtain ⟨gn, evs, ua, ub, hp, ht⟩ := h2 hc
  have va := note_uni ua hp ht pos l
  have vb := note_uni ub hp ht pos l
  obtain ⟨p1, p2⟩ := noteU_pos (gn := gn) (l := l) (pos := pos) hp ht
  have e := va.top
  exact ⟨_, _, by rw [e]; exact va, by rw [e]; exact vb, p1, by rw [e]; exact p2⟩
theorem ap_read {n : Nat} {q : Flt} {A B : Fdr} (h : ApInv n q A B) (most : Int) : readR n A (addR n newD q).1.1 0 most = readR n B (addR n newD q).1.1 0 most ∧ ((readR n A (addR n newD q).1.1 0 most).2.2 = 0 → checkE (n + 1) q = 0) := by
  obtain ⟨h1, h2, h3⟩ := h
  by_cases hc : checkE (n + 1) q = 0
  · have hid : (addR n newD q).1.1 = 1 := by
      unfold addR
      rw [if_neg (fun hh => hh hc)]
      rfl
    obtain ⟨gn, evs, ua, ub, hp, ht⟩ := h2 hc
    rw [hid, read_uni ua ht, read_uni ub ht]
    exact ⟨rfl, fun _ => hc⟩
  · have hid : (addR n newD q).1.1 = 0 := by
      unfold addR
      rw [if_pos hc]
    obtain ⟨a, b⟩ := h3 hc
    rw [hid, read_none a, read_none b]
    exact ⟨rfl, fun h => by cases h⟩
theorem ap_start {n : Nat} {q : Flt} : ApInv n q (addR n newD q).2 (addR n newD q).2 := by
  refine ⟨rfl, fun hc => ?_, fun hc => ?_⟩
  · have he : (addR n newD q).2 = ⟨[], [⟨1, 0, 0, q, false⟩], 2, 0⟩ := by
      unfold addR
      rw [if_neg (fun hh => hh hc)]
      rfl
    have hu : Uni q false [] 0 (addR n newD q).2 := by
      rw [he]
      exact ⟨rfl, rfl, ⟨_, [], rfl, rfl, rfl⟩, fun s hs => by rw [List.mem_singleton] at hs; subst hs; exact ⟨rfl, rfl⟩⟩
    have ht := hu.top
    exact ⟨false, [], by rw [ht]; exact hu, by rw [ht]; exact hu, fun e he => (by cases he), by rw [ht]; exact Int.le_refl 0⟩
  · have he : (addR n newD q).2 = newD := by
      unfold addR
      rw [if_pos hc]
    rw [he]
    exact ⟨fun s hs => (by cases hs), fun s hs => (by cases hs)⟩
theorem ap_add {n : Nat} {q : Flt} {A B : Fdr} (h : ApInv n q A B) (hA : A = (addR n newD q).2) (hn : 1 ≤ B.next) (f : Flt) : ApInv n q A (addR n B f).2 := by
  obtain ⟨h1, h2, h3⟩ := h
  refine ⟨by rw [add_top]; exact h1, fun hc => ?_, fun hc => ⟨(h3 hc).1, add_ids (h3 hc).2 hn f⟩⟩
  obtain ⟨gn, evs, ua, ub, hp, ht⟩ := h2 hc
  have he : (addR n newD q).2 = ⟨[], [⟨1, 0, 0, q, false⟩], 2, 0⟩ := by
    unfold addR
    rw [if_neg (fun hh => hh hc)]
    rfl
  rw [he] at hA
  have hev : evs = [] := by rw [← ua.evs, hA]
  have htp : A.top = 0 := by rw [hA]
  have hgn : gn = false := by
    have := (ua.all ⟨1, 0, 0, q, false⟩ (by rw [hA]; exact List.mem_singleton.2 rfl)).2
    exact this.symm
  subst hev hgn
  rw [htp] at ub
  exact ⟨false, [], ua, by rw [htp]; exact add_uni ub f, hp, ht⟩
end Go.Proofs.Ytdjfijdnhfmeeaa

namespace Go.Proofs.Ytdjfijdnhfmeeaa
open Go.RowKit Go.TM
/-- The events behind a place. -/
def beyond (a : Int) (l : List Ev) : List Ev := l.filter fun e => decide (a < e.pos)
def upTo (a : Int) (l : List Ev) : List Ev := l.filter fun e => decide (e.pos ≤ a)
theorem beyond_append (a : Int) (l m : List Ev) : beyond a (l ++ m) = beyond a l ++ beyond a m := List.filter_append ..
/-- What is let go stands at or behind nobody's cursor. -/
theorem trim_beyond {l : List Sb} {evs : List Ev} {s : Sb} {a : Int} (hs : s ∈ l) (hg : s.gone = false) (ha : s.at_ ≤ a) : beyond a (trimE l evs) = beyond a evs := by
  unfold trimE
  cases h : lastS l with
  | none =>
    have := last_gone h s hs
    rw [hg] at this
    cases this
  | some b =>
    obtain ⟨i, hi⟩ := List.getElem?_of_mem hs
    have hm := (lastTo_min (l := l)).2 b h i s (List.getElem?_eq_some_iff.1 hi).1 hi hg
    unfold beyond
    rw [List.filter_filter]
    refine List.filter_congr fun e _ => ?_
    by_cases h1 : a < e.pos
    · simp [h1]
      omega
    · simp [h1]
theorem trim_sorted {l : List Sb} {evs : List Ev} (h : evs.Pairwise fun a b => a.pos ≤ b.pos) : (trimE l evs).Pairwise fun a b => a.pos ≤ b.pos := by
  unfold trimE
  cases lastS l with
  | none => exact List.Pairwise.nil
  | some a => exact h.filter _
/-- Events in order, none beyond the top. -/
structure EvOrd (D : Fdr) : Prop where
  ord : D.evs.Pairwise fun a b => a.pos ≤ b.pos
  top : ∀ e ∈ D.evs, e.pos ≤ D.top
theorem EvOrd.trim {D : Fdr} (h : EvOrd D) : EvOrd (trimD D) := ⟨trim_sorted h.ord, fun e he => h.top e (trimE_sub _ _ e he)⟩
theorem EvOrd.gone {D : Fdr} (h : EvOrd D) : EvOrd (goneD D) := by
  rcases goneD_eq D with e | ⟨a, _, e⟩ <;> rw [e]
  · exact h
  · exact ⟨h.ord, h.top⟩
theorem EvOrd.evict : ∀ {k : Nat} {D : Fdr}, EvOrd D → EvOrd (evict k D)
  | 0, _, h => h
  | k + 1, D, h => by
    unfold Proofs.Ytdjfijdnhfmeeaa.evict
    split
    · exact EvOrd.evict h.gone.trim
    · exact h
theorem note_evord {D : Fdr} (h : EvOrd D) (pos : Int) (l : List Ev) : EvOrd (noteR D pos l).2 := by
  unfold noteR
  split
  · exact h
  · split
    · exact h
    · rename_i c1 c2
      have hn : EvOrd (noteD D pos l) := by
        refine EvOrd.trim ⟨?_, fun e he => ?_⟩
        · refine List.pairwise_append.2 ⟨h.ord, ?_, fun a ha b hb => ?_⟩
          · refine List.Pairwise.map _ (fun a b _ => ?_) (List.pairwise_of_forall (R := fun _ _ => True) (fun _ _ => trivial))
            exact Int.le_refl pos
          · obtain ⟨y, _, rfl⟩ := List.mem_map.1 hb
            have := h.top a ha
            show a.pos ≤ pos
            omega
        · rcases List.mem_append.1 he with he | he
          · have := h.top e he
            show e.pos ≤ pos
            omega
          · obtain ⟨y, _, rfl⟩ := List.mem_map.1 he
            exact Int.le_refl pos
      exact hn.evict
/-- A subscriber who is still there has all behind its cursor. -/
theorem evict_beyond {a : Int} {i : Nat} : ∀ {k : Nat} {D : Fdr} {s : Sb}, (evict k D).subs[i]? = some s → s.gone = false → s.at_ ≤ a → beyond a (evict k D).evs = beyond a D.evs
  | 0, _, _, _, _, _ => rfl
  | k + 1, D, s, h, hg, ha => by
    unfold Proofs.Ytdjfijdnhfmeeaa.evict at h ⊢
    split at h
    · rename_i h32
      rw [if_pos h32]
      rw [evict_beyond h hg ha]
      obtain ⟨t, ht, _, _, e3, _, e5⟩ := (evict_le_subs k (trimD (goneD D))).2 i s h
      have htg : t.gone = false := by
        cases hc : t.gone with
        | false => rfl
        | true => have := e5 hc; rw [hg] at this; cases this
      have hev : (goneD D).evs = D.evs := by
        rcases goneD_eq D with e | ⟨b, _, e⟩ <;> rw [e]
      show beyond a (trimE (goneD D).subs (goneD D).evs) = _
      rw [trim_beyond (l := (goneD D).subs) (s := t) (a := a) (List.mem_of_getElem? ht) htg (by omega), hev]
    · rename_i h32
      rw [if_neg h32]
/-- The law's first subscriber; what it wants. -/
structure Ex (q : Flt) (D : Fdr) (want : List Ev) : Prop where
  ev : EvOrd D
  first : ∃ s rest, D.subs = s :: rest ∧ s.id = 1 ∧ s.q = q ∧ (s.gone = false → beyond s.at_ D.evs = beyond s.at_ want)
  wtop : ∀ e ∈ want, e.pos ≤ D.top ∧ 0 < e.pos
theorem beyond_more {a b : Int} {l m : List Ev} (h : beyond a l = beyond a m) (hab : a ≤ b) : beyond b l = beyond b m := by
  have key : ∀ x : List Ev, beyond b x = beyond b (beyond a x) := fun x => by
    unfold beyond
    rw [List.filter_filter]
    refine List.filter_congr fun e _ => ?_
    by_cases h1 : b < e.pos
    · simp [h1]; omega
    · simp [h1]
  rw [key l, key m, h]
theorem ex_note {q : Flt} {D : Fdr} {want : List Ev} (h : Ex q D want) (ht : 0 ≤ D.top) (pos : Int) (l : List Ev) :
    Ex q (noteR D pos l).2 (if (noteR D pos l).1 = 0 then want ++ l.map (toPos pos) else want) := by
  have hev := note_evord h.ev pos l
  have hle := noteR_le (D := D) pos l
  obtain ⟨s, rest, h1, h2, h3, h4⟩ := h.first
  obtain ⟨s', rest', e0, e1, e3, e4, e5⟩ : ∃ s' rest', (noteR D pos l).2.subs = s' :: rest' ∧ s'.id = s.id ∧ s'.at_ = s.at_ ∧ s'.q = s.q ∧ (s.gone = true → s'.gone = true) := by
    cases hc : (noteR D pos l).2.subs with
    | nil =>
      have := hle.1.1
      rw [hc, h1] at this
      simp at this
    | cons t ts =>
      obtain ⟨y, hy, e1, _, e3, e4, e5⟩ := hle.1.2 0 t (by rw [hc]; rfl)
      rw [h1] at hy
      cases hy
      exact ⟨t, ts, rfl, e1, e3, e4, e5⟩
  have hsg : s'.gone = false → s.gone = false := fun hg => by
    cases hc : s.gone with
    | false => rfl
    | true => have := e5 hc; rw [hg] at this; cases this
  have hsm : s ∈ D.subs := by rw [h1]; exact List.mem_cons_self ..
  by_cases c1 : pos ≤ D.top
  · have he : noteR D pos l = (82, D) := if_pos c1
    rw [he]
    exact h
  · by_cases c2 : 1099511627776 < pos
    · have he : noteR D pos l = (5, D) := (if_neg c1).trans (if_pos c2)
      rw [he]
      exact h
    · have he : noteR D pos l = (0, evict (liveN (noteD D pos l).subs) (noteD D pos l)) := (if_neg c1).trans (if_neg c2)
      have htop : (noteR D pos l).2.top = pos := by rw [he]; exact (evict_top _ (noteD D pos l)).1
      have hz : (noteR D pos l).1 = 0 := by rw [he]
      rw [if_pos hz]
      refine ⟨hev, ⟨s', rest', e0, e1.trans h2, e4.trans h3, fun hg => ?_⟩, fun e hm => ?_⟩
      · have hb : beyond s'.at_ (noteR D pos l).2.evs = beyond s'.at_ (noteD D pos l).evs := by
          rw [he] at e0 ⊢
          exact evict_beyond (i := 0) (s := s') (by show (evict _ _).subs[0]? = _; rw [e0]; rfl) hg (Int.le_refl _)
        rw [hb, e3]
        show beyond s.at_ (trimE D.subs (D.evs ++ l.map (toPos pos))) = _
        rw [trim_beyond hsm (hsg hg) (Int.le_refl _), beyond_append, beyond_append, h4 (hsg hg)]
      · rw [htop]
        rcases List.mem_append.1 hm with hm | hm
        · have := h.wtop e hm
          omega
        · obtain ⟨y, _, rfl⟩ := List.mem_map.1 hm
          show pos ≤ pos ∧ 0 < pos
          omega
theorem ex_add {n : Nat} {q : Flt} {D : Fdr} {want : List Ev} (h : Ex q D want) (f : Flt) : Ex q (addR n D f).2 want := by
  unfold addR
  split
  · exact h
  · split
    · exact h
    · split
      · exact h
      · obtain ⟨s, rest, h1, h2, h3, h4⟩ := h.first
        exact ⟨⟨h.ev.ord, h.ev.top⟩, ⟨s, rest ++ [_], by rw [h1]; rfl, h2, h3, h4⟩, h.wtop⟩
theorem ex_drop {q : Flt} {D : Fdr} {want : List Ev} (h : Ex q D want) {id : Int} (hid : id ≠ 1) : Ex q (dropR D id).2 want := by
  unfold dropR
  split
  · exact h
  · obtain ⟨s, rest, h1, h2, h3, h4⟩ := h.first
    have hf : D.subs.filter (fun s => !(s.id == id)) = s :: rest.filter (fun s => !(s.id == id)) := by
      rw [h1, List.filter_cons_of_pos]
      simp only [Bool.not_eq_true', beq_eq_false_iff_ne]
      omega
    refine ⟨⟨trim_sorted h.ev.ord, fun e he => h.ev.top e (trimE_sub _ _ e he)⟩, ⟨s, rest.filter (fun s => !(s.id == id)), hf, h2, h3, fun hg => ?_⟩, h.wtop⟩
    show beyond s.at_ (trimE (D.subs.filter fun s => !(s.id == id)) D.evs) = _
    rw [trim_beyond (by rw [hf]; exact List.mem_cons_self ..) hg (Int.le_refl _), h4 hg]
theorem findR_first {l : List Sb} {s : Sb} {rest : List Sb} (h1 : l = s :: rest) (h2 : s.id = 1) : findR l 1 = if s.gone = true then (0, 81) else (0, 0) := by
  unfold findR
  rw [h1]
  simp [List.findIdx?_cons, h2]
theorem ex_ack {q : Flt} {D : Fdr} {want : List Ev} (h : Ex q D want) (pos : Int) : Ex q (ackR D 1 pos).2 want := by
  obtain ⟨s, rest, h1, h2, h3, h4⟩ := h.first
  have hf := findR_first h1 h2
  unfold ackR
  rw [hf]
  cases hg : s.gone with
  | true => exact h
  | false =>
    simp only [Bool.false_eq_true, if_false]
    rw [if_neg (fun hh => hh rfl)]
    have hat : atOf D.subs (Int.toNat 0) = s.at_ := by unfold atOf; rw [h1]; rfl
    have hset : setAt D.subs (Int.toNat 0) (toAt pos) = toAt pos s :: rest := by unfold setAt; rw [h1]; rfl
    rw [hat, hset]
    split
    · exact h
    · split
      · exact h
      · rename_i c1 c2
        refine ⟨⟨trim_sorted h.ev.ord, fun e he => h.ev.top e (trimE_sub _ _ e he)⟩, ⟨toAt pos s, rest, rfl, h2, h3, fun hg' => ?_⟩, h.wtop⟩
        show beyond pos (trimE (toAt pos s :: rest) D.evs) = beyond pos want
        rw [trim_beyond (s := toAt pos s) (a := pos) (List.mem_cons_self ..) hg' (Int.le_refl pos)]
        exact beyond_more (h4 hg) (by omega)
/-! ### What is read -/
theorem run_split {e : Ev} {r : List Ev} (h : (e :: r).Pairwise fun a b => a.pos ≤ b.pos) : (e :: r).take (runLen e.pos (e :: r)) = upTo e.pos (e :: r) ∧ (e :: r).drop (runLen e.pos (e :: r)) = beyond e.pos (e :: r) := by
  have key : ∀ (p : Int) (l : List Ev), l.Pairwise (fun a b => a.pos ≤ b.pos) → (∀ x ∈ l, p ≤ x.pos) → l.take (runLen p l) = upTo p l ∧ l.drop (runLen p l) = beyond p l := by
    intro p l
    induction l with
    | nil => intro _ _; exact ⟨rfl, rfl⟩
    | cons x xs ih =>
      intro hp hm
      have hx := hm x (List.mem_cons_self ..)
      by_cases hc : x.pos = p
      · have hr : runLen p (x :: xs) = runLen p xs + 1 := by simp [runLen, hc]
        obtain ⟨a, b⟩ := ih (List.pairwise_cons.1 hp).2 (fun y hy => hm y (List.mem_cons_of_mem _ hy))
        rw [hr, List.take_succ_cons, List.drop_succ_cons, a, b]
        constructor
        · unfold upTo
          rw [List.filter_cons_of_pos (by simp; omega)]
        · unfold beyond
          rw [List.filter_cons_of_neg (by simp; omega)]
      · have hr : runLen p (x :: xs) = 0 := by simp [runLen, hc]
        have hall : ∀ y ∈ x :: xs, p < y.pos := fun y hy => by
          rcases List.mem_cons.1 hy with rfl | hy
          · omega
          · have := (List.pairwise_cons.1 hp).1 y hy
            omega
        rw [hr, List.take_zero, List.drop_zero]
        constructor
        · refine (List.filter_eq_nil_iff.2 fun y hy => ?_).symm
          have := hall y hy
          simp
          omega
        · refine (List.filter_eq_self.2 fun y hy => ?_).symm
          have := hall y hy
          simp
          omega
  refine key e.pos (e :: r) h (fun x hx => ?_)
  rcases List.mem_cons.1 hx with rfl | hx
  · exact Int.le_refl _
  · exact (List.pairwise_cons.1 h).1 x hx
theorem upTo_beyond_comm (a b : Int) (l : List Ev) : upTo a (beyond b l) = beyond b (upTo a l) := by
  unfold upTo beyond
  rw [List.filter_filter, List.filter_filter]
  refine List.filter_congr fun e _ => ?_
  rw [Bool.and_comm]
theorem sorted_split {l : List Ev} (h : l.Pairwise fun a b => a.pos ≤ b.pos) (p : Int) : l = upTo p l ++ beyond p l := by
  induction l with
  | nil => rfl
  | cons x xs ih =>
    have hx := (List.pairwise_cons.1 h).1
    by_cases hc : x.pos ≤ p
    · unfold upTo beyond
      rw [List.filter_cons_of_pos (by simpa using hc), List.filter_cons_of_neg (by simp; omega), List.cons_append]
      exact congrArg (x :: ·) (ih (List.pairwise_cons.1 h).2)
    · have h1 : upTo p (x :: xs) = [] := List.filter_eq_nil_iff.2 fun y hy => by
        have : x.pos ≤ y.pos := by
          rcases List.mem_cons.1 hy with rfl | hy
          · exact Int.le_refl _
          · exact hx y hy
        simp
        omega
      have h2 : beyond p (x :: xs) = x :: xs := List.filter_eq_self.2 fun y hy => by
        have : x.pos ≤ y.pos := by
          rcases List.mem_cons.1 hy with rfl | hy
          · exact Int.le_refl _
          · exact hx y hy
        simp
        omega
      rw [h1, h2]
      rfl
/-- Place by place: what is read is what passes of all behind the place, up to where that is all. -/
theorem readG_spec {P : List Ev → List Ev} (hP : ∀ a b, P (a ++ b) = P a ++ P b) {after most : Int} : ∀ {k : Nat} {r out : List Ev} {up : Int}, r.Pairwise (fun a b => a.pos ≤ b.pos) → r.length ≤ k → after ≤ up → (∀ e ∈ r, after < e.pos → up < e.pos) →
    (∀ o t, readG P after most k r out up = (o, some t) → o = out ++ P (beyond after (upTo t r)) ∧ after < t ∧ up ≤ t ∧ (up < t → ∃ e ∈ r, e.pos = t)) ∧ (∀ o, readG P after most k r out up = (o, none) → o = out ++ P (beyond after r))
  | 0, r, out, up, hp, hk, hau, hup => by
    have hr : r = [] := List.eq_nil_of_length_eq_zero (by omega)
    subst hr
    have hP0 : P [] = [] := by
      have := hP [] []
      simpa using this
    refine ⟨fun o t h => (by cases h), fun o h => ?_⟩
    cases h
    show out = out ++ P []
    rw [hP0, List.append_nil]
  | k + 1, [], out, up, hp, hk, hau, hup => by
    have hP0 : P [] = [] := by
      have := hP [] []
      simpa using this
    refine ⟨fun o t h => (by cases h), fun o h => ?_⟩
    cases h
    show out = out ++ P []
    rw [hP0, List.append_nil]
  | k + 1, e :: r, out, up, hp, hk, hau, hup => by
    obtain ⟨h1, h2⟩ := run_split hp
    have hsp := sorted_split hp e.pos
    have hlen : (beyond e.pos (e :: r)).length ≤ k := by
      have : (beyond e.pos (e :: r)).length ≤ r.length := by
        unfold beyond
        rw [List.filter_cons_of_neg (by simp)]
        exact List.length_filter_le _ _
      simp only [List.length_cons] at hk
      omega
    have hps : (beyond e.pos (e :: r)).Pairwise (fun a b => a.pos ≤ b.pos) := hp.filter _
    unfold readG
    rw [h1, h2]
    by_cases c1 : after < e.pos
    · have hb1 : beyond after (upTo e.pos (e :: r)) = upTo e.pos (e :: r) := List.filter_eq_self.2 fun y hy => by
        have hy' := (List.mem_filter.1 hy).1
        have : e.pos ≤ y.pos := by
          rcases List.mem_cons.1 hy' with rfl | hy'
          · exact Int.le_refl _
          · exact (List.pairwise_cons.1 hp).1 y hy'
        simp
        omega
      simp only [if_pos c1]
      by_cases c2 : most < (out.length : Int) + (P (upTo e.pos (e :: r))).length ∧ after < up
      · simp only [if_pos c2]
        refine ⟨fun o t h => ?_, fun o h => (by cases h)⟩
        simp only [Prod.mk.injEq, Option.some.injEq] at h
        obtain ⟨rfl, rfl⟩ := h
        have hue := hup e (List.mem_cons_self ..) c1
        have hnil : beyond after (upTo up (e :: r)) = [] := List.filter_eq_nil_iff.2 fun y hy => by
          obtain ⟨y1, y2⟩ := List.mem_filter.1 hy
          have : e.pos ≤ y.pos := by
            rcases List.mem_cons.1 y1 with rfl | y1
            · exact Int.le_refl _
            · exact (List.pairwise_cons.1 hp).1 y y1
          simp only [decide_eq_true_eq] at y2
          omega
        have hP0 : P [] = [] := by
          have := hP [] []
          simpa using this
        exact ⟨by rw [hnil, hP0, List.append_nil], c2.2, Int.le_refl _, fun h => absurd h (Int.lt_irrefl _)⟩
      · simp only [if_neg c2]
        obtain ⟨s1, s2⟩ := readG_spec hP (after := after) (most := most) (k := k) (r := beyond e.pos (e :: r)) (out := out ++ P (upTo e.pos (e :: r))) (up := e.pos) hps hlen (by omega) (fun y hy _ => by simpa using (List.mem_filter.1 hy).2)
        refine ⟨fun o t h => ?_, fun o h => ?_⟩
        · obtain ⟨a, b, c, d⟩ := s1 o t h
          refine ⟨?_, b, by have := hup e (List.mem_cons_self ..) c1; omega, fun _ => ?_⟩
          · rw [a, List.append_assoc, ← hP]
            congr 2
            rw [← hb1]
            have : beyond after (upTo t (e :: r)) = beyond after (upTo t (upTo e.pos (e :: r))) ++ beyond after (upTo t (beyond e.pos (e :: r))) := by
              conv => lhs; rw [hsp]
              unfold upTo beyond
              simp only [List.filter_append]
            rw [this, hb1]
            congr 1
            · rw [show upTo t (upTo e.pos (e :: r)) = upTo e.pos (e :: r) from List.filter_eq_self.2 fun y hy => by
                have := (List.mem_filter.1 hy).2
                simp only [decide_eq_true_eq] at this
                simp
                omega]
              exact hb1.symm
          · by_cases hte : e.pos < t
            · obtain ⟨y, hy, hyt⟩ := d hte
              exact ⟨y, (List.mem_filter.1 hy).1, hyt⟩
            · exact ⟨e, List.mem_cons_self .., by omega⟩
        · rw [s2 o h, List.append_assoc, ← hP]
          congr 2
          conv => rhs; rw [hsp]
          unfold beyond at hb1 ⊢
          rw [List.filter_append, hb1]
    · simp only [if_neg c1]
      have hnil : beyond after (upTo e.pos (e :: r)) = [] := List.filter_eq_nil_iff.2 fun y hy => by
        have := (List.mem_filter.1 hy).2
        simp only [decide_eq_true_eq] at this
        simp
        omega
      obtain ⟨s1, s2⟩ := readG_spec hP (after := after) (most := most) (k := k) (r := beyond e.pos (e :: r)) (out := out) (up := up) hps hlen hau (fun y hy h => hup y (List.mem_filter.1 hy).1 h)
      refine ⟨fun o t h => ?_, fun o h => ?_⟩
      · obtain ⟨a, b, c, d⟩ := s1 o t h
        refine ⟨?_, b, c, fun h' => ?_⟩
        · rw [a]
          congr 2
          conv => rhs; rw [hsp]
          unfold upTo beyond at hnil ⊢
          rw [List.filter_append, List.filter_append]
          rw [show List.filter (fun e => decide (after < e.pos)) (List.filter (fun e => decide (e.pos ≤ t)) (List.filter (fun e_1 => decide (e_1.pos ≤ e.pos)) (e :: r))) = [] from by
            rw [List.filter_eq_nil_iff]
            intro y hy
            have h1 := (List.mem_filter.1 (List.mem_filter.1 hy).1).2
            simp only [decide_eq_true_eq] at h1
            simp
            omega]
          rfl
        · obtain ⟨y, hy, hyt⟩ := d h'
          exact ⟨y, (List.mem_filter.1 hy).1, hyt⟩
      · rw [s2 o h]
        congr 2
        conv => rhs; rw [hsp]
        unfold beyond at hnil ⊢
        rw [List.filter_append, hnil]
        rfl
end Go.Proofs.Ytdjfijdnhfmeeaa

namespace Go.Proofs.Ytdjfijdnhfmeeaa
open Go.RowKit Go.TM
def hereOf (p : Int) (L : List Ev) : List Ev := L.filter fun y => y.pos == p
/-- The document's way: the whole list, what is still to come, the place of the event ahead. -/
def readK (P : List Ev → List Ev) (L : List Ev) (after most : Int) : List Ev → Option Int → List Ev → Int → List Ev × Option Int
  | [], _, out, _ => (out, none)
  | x :: r, prev, out, seen =>
    if x.pos ≤ after ∨ prev = some x.pos then readK P L after most r (some x.pos) out seen
    else if most < (out.length : Int) + (P (hereOf x.pos L)).length ∧ after < seen then (out, some seen)
    else readK P L after most r (some x.pos) (out ++ P (hereOf x.pos L)) x.pos
theorem readK_skip {P : List Ev → List Ev} {L : List Ev} {after most p : Int} {out : List Ev} {seen : Int} {r : List Ev} : ∀ {l : List Ev}, (∀ y ∈ l, y.pos = p) → readK P L after most (l ++ r) (some p) out seen = readK P L after most r (some p) out seen
  | [], _ => rfl
  | y :: l, h => by
    have hy := h y (List.mem_cons_self ..)
    rw [List.cons_append, readK, if_pos (.inr (by rw [hy])), hy]
    exact readK_skip (fun z hz => h z (List.mem_cons_of_mem _ hz))
theorem run_parts {p : Int} : ∀ {l : List Ev}, l.Pairwise (fun a b => a.pos ≤ b.pos) → (∀ y ∈ l, p ≤ y.pos) → ∃ g t, l = g ++ t ∧ (∀ y ∈ g, y.pos = p) ∧ ∀ y ∈ t, p < y.pos
  | [], _, _ => ⟨[], [], rfl, (fun y hy => by cases hy), (fun y hy => by cases hy)⟩
  | e :: l, hs, hp => by
    rw [List.pairwise_cons] at hs
    by_cases he : e.pos = p
    · obtain ⟨g, t, h1, h2, h3⟩ := run_parts hs.2 (fun y hy => hp y (List.mem_cons_of_mem _ hy))
      refine ⟨e :: g, t, by rw [h1]; rfl, fun y hy => ?_, h3⟩
      rcases List.mem_cons.1 hy with rfl | hy
      · exact he
      · exact h2 y hy
    · have h0 := hp e (List.mem_cons_self ..)
      refine ⟨[], e :: l, rfl, (fun y hy => by cases hy), fun y hy => ?_⟩
      rcases List.mem_cons.1 hy with rfl | hy
      · omega
      · have := hs.1 y hy
        omega
theorem readK_eq {P : List Ev → List Ev} {L : List Ev} {after most : Int} (hL : L.Pairwise fun a b => a.pos ≤ b.pos) :
    ∀ (k : Nat) (pre rest : List Ev) (prev : Option Int) (out : List Ev) (seen : Int), L = pre ++ rest → rest.length ≤ k → (∀ a ∈ pre, ∀ b ∈ rest, a.pos < b.pos) → (∀ p, prev = some p → ∀ b ∈ rest, p < b.pos) →
      readK P L after most rest prev out seen = readG P after most k rest out seen
  | 0, pre, rest, prev, out, seen, h, hk, hp, hv => by
    have : rest = [] := List.length_eq_zero_iff.1 (by omega)
    subst this
    rfl
  | k + 1, pre, [], prev, out, seen, h, hk, hp, hv => rfl
  | k + 1, pre, e :: r, prev, out, seen, h, hk, hp, hv => by
    have hs : (e :: r).Pairwise fun a b => a.pos ≤ b.pos := by
      rw [h] at hL
      exact (List.pairwise_append.1 hL).2.1
    rw [List.pairwise_cons] at hs
    obtain ⟨g, t, h1, h2, h3⟩ := run_parts hs.2 (fun y hy => hs.1 y hy)
    subst h1
    have hrun : runLen e.pos (e :: (g ++ t)) = (e :: g).length := by
      refine runLen_is (by simp) (fun i y hi hy => ?_) (fun y hy => ?_)
      · have hy' : (e :: g)[i]? = some y := by
          rw [← List.cons_append, List.getElem?_append_left hi] at hy
          exact hy
        rcases List.mem_cons.1 (List.mem_of_getElem? hy') with rfl | hm
        · rfl
        · exact h2 y hm
      · rw [← List.cons_append, List.getElem?_append_right (Nat.le_refl _), Nat.sub_self] at hy
        have := h3 y (List.mem_of_getElem? hy)
        omega
    have htake : (e :: (g ++ t)).take (runLen e.pos (e :: (g ++ t))) = e :: g := by rw [hrun, ← List.cons_append, List.take_left]
    have hdrop : (e :: (g ++ t)).drop (runLen e.pos (e :: (g ++ t))) = t := by rw [hrun, ← List.cons_append, List.drop_left]
    have hhere : hereOf e.pos L = e :: g := by
      unfold hereOf
      rw [h, ← List.cons_append, List.filter_append, List.filter_append]
      have a1 : pre.filter (fun y => y.pos == e.pos) = [] := List.filter_eq_nil_iff.2 fun y hy => by
        have := hp y hy e (List.mem_cons_self ..)
        simp
        omega
      have a2 : (e :: g).filter (fun y => y.pos == e.pos) = e :: g := List.filter_eq_self.2 fun y hy => by
        rcases List.mem_cons.1 hy with rfl | hm
        · simp
        · simpa using h2 y hm
      have a3 : t.filter (fun y => y.pos == e.pos) = [] := List.filter_eq_nil_iff.2 fun y hy => by
        have := h3 y hy
        simp
        omega
      rw [a1, a2, a3]
      simp
    have hprev : ¬ prev = some e.pos := fun hc => by
      have := hv _ hc e (List.mem_cons_self ..)
      omega
    have hnext : ∀ out seen, readK P L after most t (some e.pos) out seen = readG P after most k t out seen := fun out seen => by
      refine readK_eq hL k (pre ++ e :: g) t (some e.pos) out seen (by rw [h]; simp) (by simp at hk; omega) (fun a ha b hb => ?_) (fun p hpp b hb => ?_)
      · have hb' := h3 b hb
        rcases List.mem_append.1 ha with ha | ha
        · have := hp a ha e (List.mem_cons_self ..)
          omega
        · rcases List.mem_cons.1 ha with rfl | ha
          · exact hb'
          · rw [h2 a ha]; exact hb'
      · cases hpp
        exact h3 b hb
    rw [readK, readG, htake, hdrop, hhere]
    by_cases c1 : e.pos ≤ after
    · rw [if_pos (.inl c1), if_neg (by omega), readK_skip h2, hnext]
    · rw [if_neg (by rintro (c | c); exact c1 c; exact hprev c), if_pos (show after < e.pos by omega)]
      by_cases c2 : most < (out.length : Int) + (P (e :: g)).length ∧ after < seen
      · rw [if_pos c2, if_pos c2]
      · rw [if_neg c2, if_neg c2, readK_skip h2, hnext]
end Go.Proofs.Ytdjfijdnhfmeeaa

