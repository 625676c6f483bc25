/- PLAIN LAW: what one subscriber gets who reads again and again: just what passes its filter, in order. -/
import Derived.Test.YtdjfijdnhfmeeaaS6
namespace Go.Proofs.Ytdjfijdnhfmeeaa
open Go.RowKit Go.TM
/-- The events behind a place. -/
def beyond (a : Int) (l : List Ev) : List Ev := l.filter fun e => decide (a < e.pos)
def upTo (a : Int) (l : List Ev) : List Ev := l.filter fun e => decide (e.pos ≤ a)
theorem beyond_append (a : Int) (l m : List Ev) : beyond a (l ++ m) = beyond a l ++ beyond a m := List.filter_append ..
/-- What is let go stands at or behind nobody's cursor. -/
theorem trim_beyond {l : List Sb} {evs : List Ev} {s : Sb} {a : Int} (hs : s ∈ l) (hg : s.gone = false) (ha : s.at_ ≤ a) : beyond a (trimE l evs) = beyond a evs := by
  unfold trimE
  cases h : lastS l with
  | none =>
    have := last_gone h s hs
    rw [hg] at this
    cases this
  | some b =>
    obtain ⟨i, hi⟩ := List.getElem?_of_mem hs
    have hm := (lastTo_min (l := l)).2 b h i s (List.getElem?_eq_some_iff.1 hi).1 hi hg
    unfold beyond
    rw [List.filter_filter]
    refine List.filter_congr fun e _ => ?_
    by_cases h1 : a < e.pos
    · simp [h1]
      omega
    · simp [h1]
theorem trim_sorted {l : List Sb} {evs : List Ev} (h : evs.Pairwise fun a b => a.pos ≤ b.pos) : (trimE l evs).Pairwise fun a b => a.pos ≤ b.pos := by
  unfold trimE
  cases lastS l with
  | none => exact List.Pairwise.nil
  | some a => exact h.filter _
/-- Events in order, none beyond the top. -/
structure EvOrd (D : Fdr) : Prop where
  ord : D.evs.Pairwise fun a b => a.pos ≤ b.pos
  top : ∀ e ∈ D.evs, e.pos ≤ D.top
theorem EvOrd.trim {D : Fdr} (h : EvOrd D) : EvOrd (trimD D) := ⟨trim_sorted h.ord, fun e he => h.top e (trimE_sub _ _ e he)⟩
theorem EvOrd.gone {D : Fdr} (h : EvOrd D) : EvOrd (goneD D) := by
  rcases goneD_eq D with e | ⟨a, _, e⟩ <;> rw [e]
  · exact h
  · exact ⟨h.ord, h.top⟩
theorem EvOrd.evict : ∀ {k : Nat} {D : Fdr}, EvOrd D → EvOrd (evict k D)
  | 0, _, h => h
  | k + 1, D, h => by
    unfold Proofs.Ytdjfijdnhfmeeaa.evict
    split
    · exact EvOrd.evict h.gone.trim
    · exact h
theorem note_evord {D : Fdr} (h : EvOrd D) (pos : Int) (l : List Ev) : EvOrd (noteR D pos l).2 := by
  unfold noteR
  split
  · exact h
  · split
    · exact h
    · rename_i c1 c2
      have hn : EvOrd (noteD D pos l) := by
        refine EvOrd.trim ⟨?_, fun e he => ?_⟩
        · refine List.pairwise_append.2 ⟨h.ord, ?_, fun a ha b hb => ?_⟩
          · refine List.Pairwise.map _ (fun a b _ => ?_) (List.pairwise_of_forall (R := fun _ _ => True) (fun _ _ => trivial))
            exact Int.le_refl pos
          · obtain ⟨y, _, rfl⟩ := List.mem_map.1 hb
            have := h.top a ha
            show a.pos ≤ pos
            omega
        · rcases List.mem_append.1 he with he | he
          · have := h.top e he
            show e.pos ≤ pos
            omega
          · obtain ⟨y, _, rfl⟩ := List.mem_map.1 he
            exact Int.le_refl pos
      exact hn.evict
/-- A subscriber who is still there has all behind its cursor. -/
theorem evict_beyond {a : Int} {i : Nat} : ∀ {k : Nat} {D : Fdr} {s : Sb}, (evict k D).subs[i]? = some s → s.gone = false → s.at_ ≤ a → beyond a (evict k D).evs = beyond a D.evs
  | 0, _, _, _, _, _ => rfl
  | k + 1, D, s, h, hg, ha => by
    unfold Proofs.Ytdjfijdnhfmeeaa.evict at h ⊢
    split at h
    · rename_i h32
      rw [if_pos h32]
      rw [evict_beyond h hg ha]
      obtain ⟨t, ht, _, _, e3, _, e5⟩ := (evict_le_subs k (trimD (goneD D))).2 i s h
      have htg : t.gone = false := by
        cases hc : t.gone with
        | false => rfl
        | true => have := e5 hc; rw [hg] at this; cases this
      have hev : (goneD D).evs = D.evs := by
        rcases goneD_eq D with e | ⟨b, _, e⟩ <;> rw [e]
      show beyond a (trimE (goneD D).subs (goneD D).evs) = _
      rw [trim_beyond (l := (goneD D).subs) (s := t) (a := a) (List.mem_of_getElem? ht) htg (by omega), hev]
    · rename_i h32
      rw [if_neg h32]
/-- The law's first subscriber; what it wants. -/
structure Ex (q : Flt) (D : Fdr) (want : List Ev) : Prop where
  ev : EvOrd D
  first : ∃ s rest, D.subs = s :: rest ∧ s.id = 1 ∧ s.q = q ∧ (s.gone = false → beyond s.at_ D.evs = beyond s.at_ want)
  wtop : ∀ e ∈ want, e.pos ≤ D.top ∧ 0 < e.pos
theorem beyond_more {a b : Int} {l m : List Ev} (h : beyond a l = beyond a m) (hab : a ≤ b) : beyond b l = beyond b m := by
  have key : ∀ x : List Ev, beyond b x = beyond b (beyond a x) := fun x => by
    unfold beyond
    rw [List.filter_filter]
    refine List.filter_congr fun e _ => ?_
    by_cases h1 : b < e.pos
    · simp [h1]; omega
    · simp [h1]
  rw [key l, key m, h]
theorem ex_note {q : Flt} {D : Fdr} {want : List Ev} (h : Ex q D want) (ht : 0 ≤ D.top) (pos : Int) (l : List Ev) :
    Ex q (noteR D pos l).2 (if (noteR D pos l).1 = 0 then want ++ l.map (toPos pos) else want) := by
  have hev := note_evord h.ev pos l
  have hle := noteR_le (D := D) pos l
  obtain ⟨s, rest, h1, h2, h3, h4⟩ := h.first
  obtain ⟨s', rest', e0, e1, e3, e4, e5⟩ : ∃ s' rest', (noteR D pos l).2.subs = s' :: rest' ∧ s'.id = s.id ∧ s'.at_ = s.at_ ∧ s'.q = s.q ∧ (s.gone = true → s'.gone = true) := by
    cases hc : (noteR D pos l).2.subs with
    | nil =>
      have := hle.1.1
      rw [hc, h1] at this
      simp at this
    | cons t ts =>
      obtain ⟨y, hy, e1, _, e3, e4, e5⟩ := hle.1.2 0 t (by rw [hc]; rfl)
      rw [h1] at hy
      cases hy
      exact ⟨t, ts, rfl, e1, e3, e4, e5⟩
  have hsg : s'.gone = false → s.gone = false := fun hg => by
    cases hc : s.gone with
    | false => rfl
    | true => have := e5 hc; rw [hg] at this; cases this
  have hsm : s ∈ D.subs := by rw [h1]; exact List.mem_cons_self ..
  by_cases c1 : pos ≤ D.top
  · have he : noteR D pos l = (82, D) := if_pos c1
    rw [he]
    exact h
  · by_cases c2 : 1099511627776 < pos
    · have he : noteR D pos l = (5, D) := (if_neg c1).trans (if_pos c2)
      rw [he]
      exact h
    · have he : noteR D pos l = (0, evict (liveN (noteD D pos l).subs) (noteD D pos l)) := (if_neg c1).trans (if_neg c2)
      have htop : (noteR D pos l).2.top = pos := by rw [he]; exact (evict_top _ (noteD D pos l)).1
      have hz : (noteR D pos l).1 = 0 := by rw [he]
      rw [if_pos hz]
      refine ⟨hev, ⟨s', rest', e0, e1.trans h2, e4.trans h3, fun hg => ?_⟩, fun e hm => ?_⟩
      · have hb : beyond s'.at_ (noteR D pos l).2.evs = beyond s'.at_ (noteD D pos l).evs := by
          rw [he] at e0 ⊢
          exact evict_beyond (i := 0) (s := s') (by show (evict _ _).subs[0]? = _; rw [e0]; rfl) hg (Int.le_refl _)
        rw [hb, e3]
        show beyond s.at_ (trimE D.subs (D.evs ++ l.map (toPos pos))) = _
        rw [trim_beyond hsm (hsg hg) (Int.le_refl _), beyond_append, beyond_append, h4 (hsg hg)]
      · rw [htop]
        rcases List.mem_append.1 hm with hm | hm
        · have := h.wtop e hm
          omega
        · obtain ⟨y, _, rfl⟩ := List.mem_map.1 hm
          show pos ≤ pos ∧ 0 < pos
          omega
theorem ex_add {n : Nat} {q : Flt} {D : Fdr} {want : List Ev} (h : Ex q D want) (f : Flt) : Ex q (addR n D f).2 want := by
  unfold addR
  split
  · exact h
  · split
    · exact h
    · split
      · exact h
      · obtain ⟨s, rest, h1, h2, h3, h4⟩ := h.first
        exact ⟨⟨h.ev.ord, h.ev.top⟩, ⟨s, rest ++ [_], by rw [h1]; rfl, h2, h3, h4⟩, h.wtop⟩
theorem ex_drop {q : Flt} {D : Fdr} {want : List Ev} (h : Ex q D want) {id : Int} (hid : id ≠ 1) : Ex q (dropR D id).2 want := by
  unfold dropR
  split
  · exact h
  · obtain ⟨s, rest, h1, h2, h3, h4⟩ := h.first
    have hf : D.subs.filter (fun s => !(s.id == id)) = s :: rest.filter (fun s => !(s.id == id)) := by
      rw [h1, List.filter_cons_of_pos]
      simp only [Bool.not_eq_true', beq_eq_false_iff_ne]
      omega
    refine ⟨⟨trim_sorted h.ev.ord, fun e he => h.ev.top e (trimE_sub _ _ e he)⟩, ⟨s, rest.filter (fun s => !(s.id == id)), hf, h2, h3, fun hg => ?_⟩, h.wtop⟩
    show beyond s.at_ (trimE (D.subs.filter fun s => !(s.id == id)) D.evs) = _
    rw [trim_beyond (by rw [hf]; exact List.mem_cons_self ..) hg (Int.le_refl _), h4 hg]
theorem findR_first {l : List Sb} {s : Sb} {rest : List Sb} (h1 : l = s :: rest) (h2 : s.id = 1) : findR l 1 = if s.gone = true then (0, 81) else (0, 0) := by
  unfold findR
  rw [h1]
  simp [List.findIdx?_cons, h2]
theorem ex_ack {q : Flt} {D : Fdr} {want : List Ev} (h : Ex q D want) (pos : Int) : Ex q (ackR D 1 pos).2 want := by
  obtain ⟨s, rest, h1, h2, h3, h4⟩ := h.first
  have hf := findR_first h1 h2
  unfold ackR
  rw [hf]
  cases hg : s.gone with
  | true => exact h
  | false =>
    simp only [Bool.false_eq_true, if_false]
    rw [if_neg (fun hh => hh rfl)]
    have hat : atOf D.subs (Int.toNat 0) = s.at_ := by unfold atOf; rw [h1]; rfl
    have hset : setAt D.subs (Int.toNat 0) (toAt pos) = toAt pos s :: rest := by unfold setAt; rw [h1]; rfl
    rw [hat, hset]
    split
    · exact h
    · split
      · exact h
      · rename_i c1 c2
        refine ⟨⟨trim_sorted h.ev.ord, fun e he => h.ev.top e (trimE_sub _ _ e he)⟩, ⟨toAt pos s, rest, rfl, h2, h3, fun hg' => ?_⟩, h.wtop⟩
        show beyond pos (trimE (toAt pos s :: rest) D.evs) = beyond pos want
        rw [trim_beyond (s := toAt pos s) (a := pos) (List.mem_cons_self ..) hg' (Int.le_refl pos)]
        exact beyond_more (h4 hg) (by omega)
/-! ### What is read -/
theorem run_split {e : Ev} {r : List Ev} (h : (e :: r).Pairwise fun a b => a.pos ≤ b.pos) : (e :: r).take (runLen e.pos (e :: r)) = upTo e.pos (e :: r) ∧ (e :: r).drop (runLen e.pos (e :: r)) = beyond e.pos (e :: r) := by
  have key : ∀ (p : Int) (l : List Ev), l.Pairwise (fun a b => a.pos ≤ b.pos) → (∀ x ∈ l, p ≤ x.pos) → l.take (runLen p l) = upTo p l ∧ l.drop (runLen p l) = beyond p l := by
    intro p l
    induction l with
    | nil => intro _ _; exact ⟨rfl, rfl⟩
    | cons x xs ih =>
      intro hp hm
      have hx := hm x (List.mem_cons_self ..)
      by_cases hc : x.pos = p
      · have hr : runLen p (x :: xs) = runLen p xs + 1 := by simp [runLen, hc]
        obtain ⟨a, b⟩ := ih (List.pairwise_cons.1 hp).2 (fun y hy => hm y (List.mem_cons_of_mem _ hy))
        rw [hr, List.take_succ_cons, List.drop_succ_cons, a, b]
        constructor
        · unfold upTo
          rw [List.filter_cons_of_pos (by simp; omega)]
        · unfold beyond
          rw [List.filter_cons_of_neg (by simp; omega)]
      · have hr : runLen p (x :: xs) = 0 := by simp [runLen, hc]
        have hall : ∀ y ∈ x :: xs, p < y.pos := fun y hy => by
          rcases List.mem_cons.1 hy with rfl | hy
          · omega
          · have := (List.pairwise_cons.1 hp).1 y hy
            omega
        rw [hr, List.take_zero, List.drop_zero]
        constructor
        · refine (List.filter_eq_nil_iff.2 fun y hy => ?_).symm
          have := hall y hy
          simp
          omega
        · refine (List.filter_eq_self.2 fun y hy => ?_).symm
          have := hall y hy
          simp
          omega
  refine key e.pos (e :: r) h (fun x hx => ?_)
  rcases List.mem_cons.1 hx with rfl | hx
  · exact Int.le_refl _
  · exact (List.pairwise_cons.1 h).1 x hx
theorem upTo_beyond_comm (a b : Int) (l : List Ev) : upTo a (beyond b l) = beyond b (upTo a l) := by
  unfold upTo beyond
  rw [List.filter_filter, List.filter_filter]
  refine List.filter_congr fun e _ => ?_
  rw [Bool.and_comm]
theorem sorted_split {l : List Ev} (h : l.Pairwise fun a b => a.pos ≤ b.pos) (p : Int) : l = upTo p l ++ beyond p l := by
  induction l with
  | nil => rfl
  | cons x xs ih =>
    have hx := (List.pairwise_cons.1 h).1
    by_cases hc : x.pos ≤ p
    · unfold upTo beyond
      rw [List.filter_cons_of_pos (by simpa using hc), List.filter_cons_of_neg (by simp; omega), List.cons_append]
      exact congrArg (x :: ·) (ih (List.pairwise_cons.1 h).2)
    · have h1 : upTo p (x :: xs) = [] := List.filter_eq_nil_iff.2 fun y hy => by
        have : x.pos ≤ y.pos := by
          rcases List.mem_cons.1 hy with rfl | hy
          · exact Int.le_refl _
          · exact hx y hy
        simp
        omega
      have h2 : beyond p (x :: xs) = x :: xs := List.filter_eq_self.2 fun y hy => by
        have : x.pos ≤ y.pos := by
          rcases List.mem_cons.1 hy with rfl | hy
          · exact Int.le_refl _
          · exact hx y hy
        simp
        omega
      rw [h1, h2]
      rfl
/-- Place by place: what is read is what passes of all behind the place, up to where that is all. -/
theorem readG_spec {P : List Ev → List Ev} (hP : ∀ a b, P (a ++ b) = P a ++ P b) {after most : Int} : ∀ {k : Nat} {r out : List Ev} {up : Int}, r.Pairwise (fun a b => a.pos ≤ b.pos) → r.length ≤ k → after ≤ up → (∀ e ∈ r, after < e.pos → up < e.pos) →
    (∀ o t, readG P after most k r out up = (o, some t) → o = out ++ P (beyond after (upTo t r)) ∧ after < t ∧ up ≤ t ∧ (up < t → ∃ e ∈ r, e.pos = t)) ∧ (∀ o, readG P after most k r out up = (o, none) → o = out ++ P (beyond after r))
  | 0, r, out, up, hp, hk, hau, hup => by
    have hr : r = [] := List.eq_nil_of_length_eq_zero (by omega)
    subst hr
    have hP0 : P [] = [] := by
      have := hP [] []
      simpa using this
    refine ⟨fun o t h => (by cases h), fun o h => ?_⟩
    cases h
    show out = out ++ P []
    rw [hP0, List.append_nil]
  | k + 1, [], out, up, hp, hk, hau, hup => by
    have hP0 : P [] = [] := by
      have := hP [] []
      simpa using this
    refine ⟨fun o t h => (by cases h), fun o h => ?_⟩
    cases h
    show out = out ++ P []
    rw [hP0, List.append_nil]
  | k + 1, e :: r, out, up, hp, hk, hau, hup => by
    obtain ⟨h1, h2⟩ := run_split hp
    have hsp := sorted_split hp e.pos
    have hlen : (beyond e.pos (e :: r)).length ≤ k := by
      have : (beyond e.pos (e :: r)).length ≤ r.length := by
        unfold beyond
        rw [List.filter_cons_of_neg (by simp)]
        exact List.length_filter_le _ _
      simp only [List.length_cons] at hk
      omega
    have hps : (beyond e.pos (e :: r)).Pairwise (fun a b => a.pos ≤ b.pos) := hp.filter _
    unfold readG
    rw [h1, h2]
    by_cases c1 : after < e.pos
    · have hb1 : beyond after (upTo e.pos (e :: r)) = upTo e.pos (e :: r) := List.filter_eq_self.2 fun y hy => by
        have hy' := (List.mem_filter.1 hy).1
        have : e.pos ≤ y.pos := by
          rcases List.mem_cons.1 hy' with rfl | hy'
          · exact Int.le_refl _
          · exact (List.pairwise_cons.1 hp).1 y hy'
        simp
        omega
      simp only [if_pos c1]
      by_cases c2 : most < (out.length : Int) + (P (upTo e.pos (e :: r))).length ∧ after < up
      · simp only [if_pos c2]
        refine ⟨fun o t h => ?_, fun o h => (by cases h)⟩
        simp only [Prod.mk.injEq, Option.some.injEq] at h
        obtain ⟨rfl, rfl⟩ := h
        have hue := hup e (List.mem_cons_self ..) c1
        have hnil : beyond after (upTo up (e :: r)) = [] := List.filter_eq_nil_iff.2 fun y hy => by
          obtain ⟨y1, y2⟩ := List.mem_filter.1 hy
          have : e.pos ≤ y.pos := by
            rcases List.mem_cons.1 y1 with rfl | y1
            · exact Int.le_refl _
            · exact (List.pairwise_cons.1 hp).1 y y1
          simp only [decide_eq_true_eq] at y2
          omega
        have hP0 : P [] = [] := by
          have := hP [] []
          simpa using this
        exact ⟨by rw [hnil, hP0, List.append_nil], c2.2, Int.le_refl _, fun h => absurd h (Int.lt_irrefl _)⟩
      · simp only [if_neg c2]
        obtain ⟨s1, s2⟩ := readG_spec hP (after := after) (most := most) (k := k) (r := beyond e.pos (e :: r)) (out := out ++ P (upTo e.pos (e :: r))) (up := e.pos) hps hlen (by omega) (fun y hy _ => by simpa using (List.mem_filter.1 hy).2)
        refine ⟨fun o t h => ?_, fun o h => ?_⟩
        · obtain ⟨a, b, c, d⟩ := s1 o t h
          refine ⟨?_, b, by have := hup e (List.mem_cons_self ..) c1; omega, fun _ => ?_⟩
          · rw [a, List.append_assoc, ← hP]
            congr 2
            rw [← hb1]
            have : beyond after (upTo t (e :: r)) = beyond after (upTo t (upTo e.pos (e :: r))) ++ beyond after (upTo t (beyond e.pos (e :: r))) := by
              conv => lhs; rw [hsp]
              unfold upTo beyond
              simp only [List.filter_append]
            rw [this, hb1]
            congr 1
            · rw [show upTo t (upTo e.pos (e :: r)) = upTo e.pos (e :: r) from List.filter_eq_self.2 fun y hy => by
                have := (List.mem_filter.1 hy).2
                simp only [decide_eq_true_eq] at this
                simp
                omega]
              exact hb1.symm
          · by_cases hte : e.pos < t
            · obtain ⟨y, hy, hyt⟩ := d hte
              exact ⟨y, (List.mem_filter.1 hy).1, hyt⟩
            · exact ⟨e, List.mem_cons_self .., by omega⟩
        · rw [s2 o h, List.append_assoc, ← hP]
          congr 2
          conv => rhs; rw [hsp]
          unfold beyond at hb1 ⊢
          rw [List.filter_append, hb1]
    · simp only [if_neg c1]
      have hnil : beyond after (upTo e.pos (e :: r)) = [] := List.filter_eq_nil_iff.2 fun y hy => by
        have := (List.mem_filter.1 hy).2
        simp only [decide_eq_true_eq] at this
        simp
        omega
      obtain ⟨s1, s2⟩ := readG_spec hP (after := after) (most := most) (k := k) (r := beyond e.pos (e :: r)) (out := out) (up := up) hps hlen hau (fun y hy h => hup y (List.mem_filter.1 hy).1 h)
      refine ⟨fun o t h => ?_, fun o h => ?_⟩
      · obtain ⟨a, b, c, d⟩ := s1 o t h
        refine ⟨?_, b, c, fun h' => ?_⟩
        · rw [a]
          congr 2
          conv => rhs; rw [hsp]
          unfold upTo beyond at hnil ⊢
          rw [List.filter_append, List.filter_append]
          rw [show List.filter (fun e => decide (after < e.pos)) (List.filter (fun e => decide (e.pos ≤ t)) (List.filter (fun e_1 => decide (e_1.pos ≤ e.pos)) (e :: r))) = [] from by
            rw [List.filter_eq_nil_iff]
            intro y hy
            have h1 := (List.mem_filter.1 (List.mem_filter.1 hy).1).2
            simp only [decide_eq_true_eq] at h1
            simp
            omega]
          rfl
        · obtain ⟨y, hy, hyt⟩ := d h'
          exact ⟨y, (List.mem_filter.1 hy).1, hyt⟩
      · rw [s2 o h]
        congr 2
        conv => rhs; rw [hsp]
        unfold beyond at hnil ⊢
        rw [List.filter_append, hnil]
        rfl
end Go.Proofs.Ytdjfijdnhfmeeaa
