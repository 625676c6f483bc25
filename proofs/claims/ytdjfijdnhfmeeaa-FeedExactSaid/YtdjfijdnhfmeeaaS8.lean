/- PLAIN LAW: what one subscriber has got so far, call by call. -/
import Derived.Test.YtdjfijdnhfmeeaaS7
namespace Go.Proofs.Ytdjfijdnhfmeeaa
open Go.RowKit Go.TM
theorem passQ_append (n : Nat) (q : Flt) (a b : List Ev) : passQ n q (a ++ b) = passQ n q a ++ passQ n q b := List.filter_append ..
theorem passQ_len (n : Nat) (q : Flt) (a : List Ev) : (passQ n q a).length ≤ a.length := List.length_filter_le _ _
/-- What was wanted, in order. -/
def WOrd (want : List Ev) : Prop := want.Pairwise fun a b => a.pos ≤ b.pos
theorem word_note {q : Flt} {D : Fdr} {want : List Ev} (h : Ex q D want) (hw : WOrd want) (pos : Int) (l : List Ev) : WOrd (if (noteR D pos l).1 = 0 then want ++ l.map (toPos pos) else want) := by
  by_cases c1 : pos ≤ D.top
  · rw [show noteR D pos l = (82, D) from if_pos c1]
    exact hw
  · split
    · refine List.pairwise_append.2 ⟨hw, ?_, fun a ha b hb => ?_⟩
      · exact List.Pairwise.map _ (fun a b _ => Int.le_refl pos) (List.pairwise_of_forall (R := fun _ _ => True) (fun _ _ => trivial))
      · obtain ⟨y, _, rfl⟩ := List.mem_map.1 hb
        have := h.wtop a ha
        show a.pos ≤ pos
        omega
    · exact hw
/-- What was got, and up to where. -/
structure Rdg (n : Nat) (q : Flt) (D : Fdr) (want got : List Ev) (a : Int) : Prop where
  nn : 0 ≤ a ∧ a ≤ 1099511627776
  live : ∀ s rest, D.subs = s :: rest → s.gone = false → s.at_ ≤ a ∧ a ≤ D.top ∧ got = passQ n q (upTo a want)
  len : got.length ≤ want.length
theorem upTo_new {a pos : Int} (h : a < pos) (want l : List Ev) : upTo a (want ++ l.map (toPos pos)) = upTo a want := by
  unfold upTo
  rw [List.filter_append]
  have : (l.map (toPos pos)).filter (fun e => decide (e.pos ≤ a)) = [] := List.filter_eq_nil_iff.2 fun e he => by
    obtain ⟨y, _, rfl⟩ := List.mem_map.1 he
    have : (toPos pos y).pos = pos := rfl
    simp
    omega
  rw [this, List.append_nil]
theorem rdg_note {n : Nat} {q : Flt} {D : Fdr} {want got : List Ev} {a : Int} (h : Rdg n q D want got a) (he : Ex q D want) (pos : Int) (l : List Ev) :
    Rdg n q (noteR D pos l).2 (if (noteR D pos l).1 = 0 then want ++ l.map (toPos pos) else want) got a := by
  have hle := noteR_le (D := D) pos l
  by_cases c1 : pos ≤ D.top
  · rw [show noteR D pos l = (82, D) from if_pos c1]
    exact h
  · refine ⟨h.nn, fun s' rest' h1 hg => ?_, ?_⟩
    · obtain ⟨s, hs, _, _, e3, _, e5⟩ := hle.1.2 0 s' (by rw [h1]; rfl)
      obtain ⟨s0, rest, h2, _⟩ := he.first
      rw [h2] at hs
      cases hs
      have hsg : s.gone = false := by
        cases hc : s.gone with
        | false => rfl
        | true => have := e5 hc; rw [hg] at this; cases this
      obtain ⟨p1, p2, p3⟩ := h.live s rest h2 hsg
      refine ⟨by omega, by have := hle.2.1; omega, ?_⟩
      split
      · rw [upTo_new (by omega)]
        exact p3
      · exact p3
    · split
      · rw [List.length_append]
        have := h.len
        omega
      · exact h.len
theorem rdg_add {n m : Nat} {q : Flt} {D : Fdr} {want got : List Ev} {a : Int} (h : Rdg n q D want got a) (he : Ex q D want) (f : Flt) : Rdg n q (addR m D f).2 want got a := by
  unfold addR
  split
  · exact h
  · split
    · exact h
    · split
      · exact h
      · obtain ⟨s0, rest, h2, _⟩ := he.first
        refine ⟨h.nn, fun s' rest' h1 hg => ?_, h.len⟩
        have h1' : D.subs ++ [_] = s' :: rest' := h1
        rw [h2, List.cons_append] at h1'
        simp only [List.cons.injEq] at h1'
        obtain ⟨rfl, _⟩ := h1'
        exact h.live s0 rest h2 hg
theorem rdg_drop {n : Nat} {q : Flt} {D : Fdr} {want got : List Ev} {a : Int} (h : Rdg n q D want got a) (he : Ex q D want) {id : Int} (hid : id ≠ 1) : Rdg n q (dropR D id).2 want got a := by
  unfold dropR
  split
  · exact h
  · obtain ⟨s0, rest, h2, h3, _⟩ := he.first
    refine ⟨h.nn, fun s' rest' h1 hg => ?_, h.len⟩
    have h1' : D.subs.filter (fun s => !(s.id == id)) = s' :: rest' := h1
    rw [h2, List.filter_cons_of_pos (by simp only [Bool.not_eq_true', beq_eq_false_iff_ne]; omega)] at h1'
    simp only [List.cons.injEq] at h1'
    obtain ⟨rfl, _⟩ := h1'
    exact h.live s0 rest h2 hg
theorem rdg_ack {n : Nat} {q : Flt} {D : Fdr} {want got : List Ev} {a pos : Int} (h : Rdg n q D want got a) (he : Ex q D want) (hp : pos ≤ a) : Rdg n q (ackR D 1 pos).2 want got a := by
  obtain ⟨s, rest, h1, h2, h3, h4⟩ := he.first
  have hf := findR_first h1 h2
  unfold ackR
  rw [hf]
  cases hg : s.gone with
  | true => exact h
  | false =>
    simp only [Bool.false_eq_true, if_false]
    rw [if_neg (fun hh => hh rfl)]
    have hset : setAt D.subs (Int.toNat 0) (toAt pos) = toAt pos s :: rest := by unfold setAt; rw [h1]; rfl
    rw [hset]
    split
    · exact h
    · split
      · exact h
      · obtain ⟨p1, p2, p3⟩ := h.live s rest h1 hg
        refine ⟨h.nn, fun s' rest' h5 hg' => ?_, h.len⟩
        have h5' : toAt pos s :: rest = s' :: rest' := h5
        simp only [List.cons.injEq] at h5'
        obtain ⟨rfl, _⟩ := h5'
        exact ⟨hp, p2, p3⟩
theorem beyond_upTo_split {a t : Int} (h : a ≤ t) {l : List Ev} (hl : WOrd l) : upTo t l = upTo a l ++ beyond a (upTo t l) := by
  have h1 := sorted_split (l := upTo t l) (hl.filter _) a
  have h2 : upTo a (upTo t l) = upTo a l := by
    unfold upTo
    rw [List.filter_filter]
    refine List.filter_congr fun e _ => ?_
    by_cases h1 : e.pos ≤ a
    · simp [h1]; omega
    · simp [h1]
  rw [h2] at h1
  exact h1
/-- A Read: the next that passes. -/
theorem ex_read {n : Nat} {q : Flt} {D : Fdr} {want got : List Ev} {a : Int} (he : Ex q D want) (hw : WOrd want) (h : Rdg n q D want got a) (htp : D.top ≤ 1099511627776) (most : Int) :
    readR n D 1 a most = ([], 0, 81) ∨ ∃ o t, readR n D 1 a most = (o, t, 0) ∧ a ≤ t ∧ t ≤ D.top ∧ Rdg n q D want (got ++ o) t ∧ (t = D.top ∨ (beyond t D.evs).length < (beyond a D.evs).length) ∧ o.length ≤ want.length := by
  obtain ⟨s, rest, h1, h2, h3, h4⟩ := he.first
  have hf := findR_first h1 h2
  cases hg : s.gone with
  | true =>
    left
    unfold readR
    rw [hf, hg]
    rfl
  | false =>
    right
    obtain ⟨p1, p2, p3⟩ := h.live s rest h1 hg
    have hr : readR n D 1 a most = match readG (passQ n q) a most D.evs.length D.evs [] a with
        | (out, some up) => (out, up, 0)
        | (out, none) => (out, D.top, 0) := by
      unfold readR
      rw [hf, hg]
      simp only [Bool.false_eq_true, if_false]
      rw [if_neg (fun hh => hh rfl), h1]
      simp only [Int.toNat_zero, List.getElem?_cons_zero]
      rw [if_neg (by omega), if_neg (by omega), h3]
      rfl
    obtain ⟨s1, s2⟩ := readG_spec (passQ_append n q) (after := a) (most := most) (k := D.evs.length) (r := D.evs) (out := []) (up := a) he.ev.ord (Nat.le_refl _) (Int.le_refl _) (fun _ _ h => h)
    have hb : beyond a D.evs = beyond a want := beyond_more (h4 hg) p1
    cases hc : readG (passQ n q) a most D.evs.length D.evs [] a with
    | mk o t =>
      rw [hc] at hr
      cases t with
      | some t =>
        obtain ⟨e1, e2, e3, e4⟩ := s1 o t hc
        obtain ⟨y, hy, hyt⟩ := e4 e2
        have hyT := he.ev.top y hy
        rw [List.nil_append] at e1
        have hgo : got ++ o = passQ n q (upTo t want) := by
          rw [beyond_upTo_split (Int.le_of_lt e2) hw, passQ_append, ← p3, e1, ← upTo_beyond_comm, hb, upTo_beyond_comm]
        refine ⟨o, t, hr, by omega, by omega, ⟨by have := h.nn; omega, fun s' rest' h5 hg' => ?_, ?_⟩, .inr ?_, ?_⟩
        · rw [h1] at h5
          cases h5
          exact ⟨by omega, by omega, hgo⟩
        · rw [hgo]
          exact Nat.le_trans (passQ_len _ _ _) (List.length_filter_le _ _)
        · have hsub : beyond t D.evs = (beyond a D.evs).filter fun e => decide (t < e.pos) := by
            unfold beyond
            rw [List.filter_filter]
            refine List.filter_congr fun e _ => ?_
            by_cases h1 : t < e.pos
            · simp [h1]; omega
            · simp [h1]
          rw [hsub]
          refine List.length_filter_lt_length_iff_exists.2 ⟨y, List.mem_filter.2 ⟨hy, by simp; omega⟩, by simp; omega⟩
        · rw [e1, ← upTo_beyond_comm, hb]
          exact Nat.le_trans (passQ_len _ _ _) (Nat.le_trans (List.length_filter_le _ _) (List.length_filter_le _ _))
      | none =>
        have e1 := s2 o hc
        rw [List.nil_append] at e1
        have hall : upTo D.top want = want := List.filter_eq_self.2 fun e hm => by simpa using (he.wtop e hm).1
        have hgo : got ++ o = passQ n q (upTo D.top want) := by
          rw [hall, p3, e1, hb, ← passQ_append, ← sorted_split hw a]
        refine ⟨o, D.top, hr, p2, Int.le_refl _, ⟨by have := h.nn; omega, fun s' rest' h5 hg' => ?_, ?_⟩, .inl rfl, ?_⟩
        · rw [h1] at h5
          cases h5
          exact ⟨by omega, Int.le_refl _, hgo⟩
        · rw [hgo]
          exact Nat.le_trans (passQ_len _ _ _) (List.length_filter_le _ _)
        · rw [e1, hb]
          exact Nat.le_trans (passQ_len _ _ _) (List.length_filter_le _ _)
theorem ex_start {n : Nat} {q : Flt} (hc : checkE (n + 1) q = 0) : Ex q (addR n newD q).2 [] ∧ Rdg n q (addR n newD q).2 [] [] 0 := by
  have he : (addR n newD q).2 = ⟨[], [⟨1, 0, 0, q, false⟩], 2, 0⟩ := by
    unfold addR
    rw [if_neg (fun hh => hh hc)]
    rfl
  rw [he]
  refine ⟨⟨⟨List.Pairwise.nil, fun e h => (by cases h)⟩, ⟨_, [], rfl, rfl, rfl, fun _ => rfl⟩, fun e h => (by cases h)⟩, ⟨by decide, fun s rest h1 hg => ?_, Nat.le_refl _⟩⟩
  simp only [List.cons.injEq] at h1
  obtain ⟨rfl, _⟩ := h1
  exact ⟨Int.le_refl _, Int.le_refl _, rfl⟩
end Go.Proofs.Ytdjfijdnhfmeeaa
