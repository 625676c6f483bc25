/- PLAIN LAW: feeds whose subscribers all stand at the beginning: what a Note does, what the first one reads. -/
import Derived.Test.YtdjfijdnhfmeeaaS4
namespace Go.Proofs.Ytdjfijdnhfmeeaa
open Go.RowKit Go.TM
theorem last_gone {l : List Sb} (h : lastS l = none) : ∀ s ∈ l, s.gone = true := fun s hs => by
  obtain ⟨i, hi⟩ := List.getElem?_of_mem hs
  exact (lastTo_min (l := l)).1 h i s (List.getElem?_eq_some_iff.1 hi).1 hi
theorem last_live {l : List Sb} {a : Nat} (h : lastS l = some a) (h0 : ∀ s ∈ l, s.at_ = 0) : atOf l a = 0 := by
  obtain ⟨s, hs, _⟩ := lastTo_spec h
  unfold atOf
  rw [hs]
  exact h0 s (List.mem_of_getElem? hs)
theorem filter_pos {l : List Ev} {x : Int} (hx : x = 0) (h : ∀ e ∈ l, 0 < e.pos) : (l.filter fun e => !decide (e.pos ≤ x)) = l := by
  subst hx
  refine List.filter_eq_self.2 fun e he => ?_
  have := h e he
  simp
  omega
/-- While all stand at the beginning, all is kept or nobody is left. -/
theorem evict_uni {E : List Ev} (hE : ∀ e ∈ E, 0 < e.pos) : ∀ (k : Nat) (D : Fdr), (∀ s ∈ D.subs, s.at_ = 0) → (D.evs = E ∨ (D.evs = [] ∧ lastS D.subs = none)) → ((evict k D).evs = E ∨ ((evict k D).evs = [] ∧ lastS (evict k D).subs = none))
  | 0, _, _, h => h
  | k + 1, D, h0, h => by
    unfold evict
    split
    · rename_i h32
      have hDE : D.evs = E := by
        rcases h with h | ⟨h, _⟩
        · exact h
        · rw [h] at h32
          simp at h32
      have h0' : ∀ s ∈ (goneD D).subs, s.at_ = 0 := fun s hs => by
        obtain ⟨i, hi⟩ := List.getElem?_of_mem hs
        obtain ⟨t, ht, _, _, e3, _⟩ := (goneD_le D).2 i s hi
        rw [e3]
        exact h0 t (List.mem_of_getElem? ht)
      have hge : (goneD D).evs = D.evs := by
        rcases goneD_eq D with e | ⟨a, _, e⟩ <;> rw [e]
      refine evict_uni hE k (trimD (goneD D)) h0' ?_
      cases hl : lastS (goneD D).subs with
      | none => exact .inr ⟨trimD_none hl, hl⟩
      | some a =>
        left
        show trimE (goneD D).subs (goneD D).evs = E
        unfold trimE
        rw [hl]
        simp only
        rw [hge, hDE]
        exact filter_pos (last_live hl h0') hE
    · exact h
/-- All stand at the beginning; all are gone, or none. -/
structure Uni (q : Flt) (gn : Bool) (evs : List Ev) (top : Int) (D : Fdr) : Prop where
  evs : D.evs = evs
  top : D.top = top
  first : ∃ s rest, D.subs = s :: rest ∧ s.id = 1 ∧ s.q = q
  all : ∀ s ∈ D.subs, s.at_ = 0 ∧ s.gone = gn
/-- What a Note leaves: gone, events, top. -/
def noteU (gn : Bool) (evs : List Ev) (top pos : Int) (l : List Ev) : Bool × List Ev × Int :=
  if pos ≤ top then (gn, evs, top) else if 1099511627776 < pos then (gn, evs, top)
  else if gn = true then (true, [], pos) else if (evs ++ l.map (toPos pos)).length ≤ 32 then (false, evs ++ l.map (toPos pos), pos) else (true, [], pos)
theorem Uni.le {q : Flt} {gn : Bool} {evs : List Ev} {top : Int} {D E : Fdr} (h : Uni q gn evs top D) (hs : SubsLe D.subs E.subs) : (∃ s rest, E.subs = s :: rest ∧ s.id = 1 ∧ s.q = q) ∧ ∀ s ∈ E.subs, s.at_ = 0 := by
  refine ⟨?_, fun s hm => ?_⟩
  · obtain ⟨s, rest, h1, h2, h3⟩ := h.first
    cases he : E.subs with
    | nil =>
      have := hs.1
      rw [he, h1] at this
      simp at this
    | cons t ts =>
      obtain ⟨y, hy, e1, _, _, e4, _⟩ := hs.2 0 t (by rw [he]; rfl)
      rw [h1] at hy
      cases hy
      exact ⟨t, ts, rfl, e1.trans h2, e4.trans h3⟩
  · obtain ⟨i, hi⟩ := List.getElem?_of_mem hm
    obtain ⟨t, ht, _, _, e3, _⟩ := hs.2 i s hi
    rw [e3]
    exact (h.all t (List.mem_of_getElem? ht)).1
theorem note_uni {q : Flt} {gn : Bool} {evs : List Ev} {top : Int} {D : Fdr} (h : Uni q gn evs top D) (hp : ∀ e ∈ evs, 0 < e.pos) (ht : 0 ≤ top) (pos : Int) (l : List Ev) :
    Uni q (noteU gn evs top pos l).1 (noteU gn evs top pos l).2.1 (noteU gn evs top pos l).2.2 (noteR D pos l).2 := by
  unfold noteU noteR
  rw [h.top]
  by_cases c1 : pos ≤ top
  · simp only [if_pos c1]
    exact h
  · simp only [if_neg c1]
    by_cases c2 : 1099511627776 < pos
    · simp only [if_pos c2]
      exact h
    · simp only [if_neg c2]
      have h0 : ∀ s ∈ (noteD D pos l).subs, s.at_ = 0 := fun s hs => (h.all s hs).1
      have hE : ∀ e ∈ evs ++ l.map (toPos pos), 0 < e.pos := fun e he => by
        rcases List.mem_append.1 he with he | he
        · exact hp e he
        · obtain ⟨y, _, rfl⟩ := List.mem_map.1 he
          show 0 < pos
          omega
      have hsub : SubsLe D.subs (evict (liveN (noteD D pos l).subs) (noteD D pos l)).subs := evict_le_subs _ (noteD D pos l)
      have htop : (evict (liveN (noteD D pos l).subs) (noteD D pos l)).top = pos := (evict_top _ (noteD D pos l)).1
      have hle := evict_le (k := liveN (noteD D pos l).subs) (D := noteD D pos l) rfl (fun hx => trimD_none hx)
      have hno : (noteD D pos l).evs.length ≤ 32 → ∀ m, evict m (noteD D pos l) = noteD D pos l := fun hh m => by
        cases m with
        | zero => rfl
        | succ m => unfold evict; rw [if_neg (by omega)]
      cases gn with
      | true =>
        simp only [if_true]
        have hl : lastS D.subs = none := by
          cases hc : lastS D.subs with
          | none => rfl
          | some a =>
            obtain ⟨s, hs, hg⟩ := lastTo_spec hc
            have := (h.all s (List.mem_of_getElem? hs)).2
            rw [hg] at this
            cases this
        have hev : (noteD D pos l).evs = [] := trimD_none hl
        have hn := hno (by rw [hev]; exact Nat.zero_le _)
        rw [hn]
        exact ⟨hev, rfl, h.first, h.all⟩
      | false =>
        simp only [Bool.false_eq_true, if_false]
        have hl : ∃ a, lastS D.subs = some a := by
          cases hc : lastS D.subs with
          | some a => exact ⟨a, rfl⟩
          | none =>
            obtain ⟨s, rest, h1, _⟩ := h.first
            have h2 := last_gone hc s (by rw [h1]; exact List.mem_cons_self ..)
            have h3 := (h.all s (by rw [h1]; exact List.mem_cons_self ..)).2
            rw [h2] at h3
            cases h3
        obtain ⟨a, ha⟩ := hl
        have hev : (noteD D pos l).evs = evs ++ l.map (toPos pos) := by
          show trimE D.subs (D.evs ++ l.map (toPos pos)) = _
          unfold trimE
          rw [ha]
          simp only
          rw [h.evs]
          exact filter_pos (last_live ha (fun s hs => (h.all s hs).1)) hE
        by_cases c3 : (evs ++ l.map (toPos pos)).length ≤ 32
        · simp only [if_pos c3]
          rw [hno (by rw [hev]; exact c3)]
          exact ⟨hev, rfl, h.first, h.all⟩
        · simp only [if_neg c3]
          rcases evict_uni hE (liveN (noteD D pos l).subs) (noteD D pos l) h0 (.inl hev) with hx | ⟨hx, hy⟩
          · rw [hx] at hle
            exact absurd hle c3
          · obtain ⟨u1, u2⟩ := h.le hsub
            exact ⟨hx, htop, u1, fun s hs => ⟨u2 s hs, last_gone hy s hs⟩⟩
theorem noteU_pos {gn : Bool} {evs : List Ev} {top pos : Int} {l : List Ev} (hp : ∀ e ∈ evs, 0 < e.pos) (ht : 0 ≤ top) : (∀ e ∈ (noteU gn evs top pos l).2.1, 0 < e.pos) ∧ 0 ≤ (noteU gn evs top pos l).2.2 := by
  unfold noteU
  split
  · exact ⟨hp, ht⟩
  · split
    · exact ⟨hp, ht⟩
    · split
      · exact ⟨fun e he => (by cases he), by show 0 ≤ pos; omega⟩
      · split
        · refine ⟨fun e he => ?_, by show 0 ≤ pos; omega⟩
          rcases List.mem_append.1 he with he | he
          · exact hp e he
          · obtain ⟨y, _, rfl⟩ := List.mem_map.1 he
            show 0 < pos
            omega
        · exact ⟨fun e he => (by cases he), by show 0 ≤ pos; omega⟩
/-- What the first subscriber reads. -/
def readU (n : Nat) (q : Flt) (gn : Bool) (evs : List Ev) (top most : Int) : List Ev × Int × Int :=
  if gn = true then ([], 0, 81) else match readG (passQ n q) 0 most evs.length evs [] 0 with
    | (out, some up) => (out, up, 0)
    | (out, none) => (out, top, 0)
theorem read_uni {n : Nat} {q : Flt} {gn : Bool} {evs : List Ev} {top : Int} {D : Fdr} (h : Uni q gn evs top D) (ht : 0 ≤ top) (most : Int) : readR n D 1 0 most = readU n q gn evs top most := by
  obtain ⟨s, rest, h1, h2, h3⟩ := h.first
  obtain ⟨h4, h5⟩ := h.all s (by rw [h1]; exact List.mem_cons_self ..)
  have hf : findR D.subs 1 = if gn = true then (0, 81) else (0, 0) := by
    unfold findR
    rw [h1]
    simp [List.findIdx?_cons, h2, h5]
  unfold readR readU
  rw [hf]
  cases gn with
  | true => simp
  | false =>
    rw [h1]
    simp only [Bool.false_eq_true, if_false]
    rw [if_neg (fun hh => hh rfl)]
    simp only [Int.toNat_zero, List.getElem?_cons_zero]
    rw [if_neg (by omega), if_neg (by rw [h.top]; omega), h3, h.evs, h.top]
    rfl
theorem add_uni {n : Nat} {q : Flt} {D : Fdr} (h : Uni q false [] 0 D) (f : Flt) : Uni q false [] 0 (addR n D f).2 := by
  unfold addR
  split
  · exact h
  · split
    · exact h
    · split
      · exact h
      · obtain ⟨s, rest, h1, h2, h3⟩ := h.first
        refine ⟨h.evs, h.top, ⟨s, rest ++ [_], by rw [h1]; rfl, h2, h3⟩, fun y hy => ?_⟩
        rcases List.mem_append.1 hy with hy | hy
        · exact h.all y hy
        · rw [List.mem_singleton] at hy
          subst hy
          exact ⟨h.top, rfl⟩
/-- The tops of two feeds stay the same. -/
theorem note_top {D E : Fdr} (h : D.top = E.top) (pos : Int) (l : List Ev) : (noteR D pos l).2.top = (noteR E pos l).2.top := by
  unfold noteR
  rw [h]
  split
  · exact h
  · split
    · exact h
    · exact ((evict_top _ (noteD D pos l)).1).trans ((evict_top _ (noteD E pos l)).1).symm
theorem read_none {n : Nat} {D : Fdr} (h : ∀ s ∈ D.subs, 1 ≤ s.id) (most : Int) : readR n D 0 0 most = ([], 0, 80) := by
  have hf : findR D.subs 0 = (0, 80) := by
    rcases findR_cases D.subs 0 with ⟨h1, _⟩ | ⟨i, x, hx, h1, _⟩
    · exact h1
    · have := h x (List.mem_of_getElem? hx)
      omega
  unfold readR
  rw [hf]
  rfl
theorem note_ids {D : Fdr} (h : ∀ s ∈ D.subs, 1 ≤ s.id) (pos : Int) (l : List Ev) : ∀ s ∈ (noteR D pos l).2.subs, 1 ≤ s.id := fun s hs => by
  obtain ⟨i, hi⟩ := List.getElem?_of_mem hs
  obtain ⟨t, ht, e1, _⟩ := (noteR_le (D := D) pos l).1.2 i s hi
  rw [e1]
  exact h t (List.mem_of_getElem? ht)
theorem add_ids {n : Nat} {D : Fdr} (h : ∀ s ∈ D.subs, 1 ≤ s.id) (hn : 1 ≤ D.next) (f : Flt) : ∀ s ∈ (addR n D f).2.subs, 1 ≤ s.id := by
  unfold addR
  split
  · exact h
  · split
    · exact h
    · split
      · exact h
      · intro s hs
        rcases List.mem_append.1 hs with hs | hs
        · exact h s hs
        · rw [List.mem_singleton] at hs
          subst hs
          exact hn
theorem add_top {n : Nat} {D : Fdr} (f : Flt) : (addR n D f).2.top = D.top := by
  unfold addR
  split
  · rfl
  · split
    · rfl
    · split <;> rfl
theorem add_good {n : Nat} {D : Fdr} {f : Flt} (h : Good n D) (hf : okF (n + 1) f) (hk : okK (n + 1) f) : Good n (addR n D f).2 := by
  unfold addR
  split
  · exact h
  · split
    · exact h
    · split
      · exact h
      · rename_i hc h1 h2
        refine ⟨⟨?_, ?_⟩, h.top, h.evs, ?_, h.now, fun s hs => ?_⟩
        · have := h.next.1
          show 1 ≤ D.next + 1
          omega
        · show D.next + 1 ≤ _
          omega
        · show (D.subs ++ [_]).length ≤ 4
          rw [List.length_append, List.length_singleton]
          omega
        · rcases List.mem_append.1 hs with hs | hs
          · exact h.q s hs
          · rw [List.mem_singleton] at hs
            subst hs
            exact ⟨hf, hk, by simpa using hc⟩
/-- Two feeds that the law Apart compares. -/
def ApInv (n : Nat) (q : Flt) (A B : Fdr) : Prop :=
  A.top = B.top ∧ (checkE (n + 1) q = 0 → ∃ gn evs, Uni q gn evs A.top A ∧ Uni q gn evs A.top B ∧ (∀ e ∈ evs, 0 < e.pos) ∧ 0 ≤ A.top) ∧
    (checkE (n + 1) q ≠ 0 → (∀ s ∈ A.subs, 1 ≤ s.id) ∧ ∀ s ∈ B.subs, 1 ≤ s.id)
theorem ap_note {n : Nat} {q : Flt} {A B : Fdr} (h : ApInv n q A B) (pos : Int) (l : List Ev) : ApInv n q (noteR A pos l).2 (noteR B pos l).2 := by
  obtain ⟨h1, h2, h3⟩ := h
  refine ⟨note_top h1 pos l, fun hc => ?_, fun hc => ⟨note_ids (h3 hc).1 pos l, note_ids (h3 hc).2 pos l⟩⟩
  obtain ⟨gn, evs, ua, ub, hp, ht⟩ := h2 hc
  have va := note_uni ua hp ht pos l
  have vb := note_uni ub hp ht pos l
  obtain ⟨p1, p2⟩ := noteU_pos (gn := gn) (l := l) (pos := pos) hp ht
  have e := va.top
  exact ⟨_, _, by rw [e]; exact va, by rw [e]; exact vb, p1, by rw [e]; exact p2⟩
theorem ap_read {n : Nat} {q : Flt} {A B : Fdr} (h : ApInv n q A B) (most : Int) : readR n A (addR n newD q).1.1 0 most = readR n B (addR n newD q).1.1 0 most ∧ ((readR n A (addR n newD q).1.1 0 most).2.2 = 0 → checkE (n + 1) q = 0) := by
  obtain ⟨h1, h2, h3⟩ := h
  by_cases hc : checkE (n + 1) q = 0
  · have hid : (addR n newD q).1.1 = 1 := by
      unfold addR
      rw [if_neg (fun hh => hh hc)]
      rfl
    obtain ⟨gn, evs, ua, ub, hp, ht⟩ := h2 hc
    rw [hid, read_uni ua ht, read_uni ub ht]
    exact ⟨rfl, fun _ => hc⟩
  · have hid : (addR n newD q).1.1 = 0 := by
      unfold addR
      rw [if_pos hc]
    obtain ⟨a, b⟩ := h3 hc
    rw [hid, read_none a, read_none b]
    exact ⟨rfl, fun h => by cases h⟩
theorem ap_start {n : Nat} {q : Flt} : ApInv n q (addR n newD q).2 (addR n newD q).2 := by
  refine ⟨rfl, fun hc => ?_, fun hc => ?_⟩
  · have he : (addR n newD q).2 = ⟨[], [⟨1, 0, 0, q, false⟩], 2, 0⟩ := by
      unfold addR
      rw [if_neg (fun hh => hh hc)]
      rfl
    have hu : Uni q false [] 0 (addR n newD q).2 := by
      rw [he]
      exact ⟨rfl, rfl, ⟨_, [], rfl, rfl, rfl⟩, fun s hs => by rw [List.mem_singleton] at hs; subst hs; exact ⟨rfl, rfl⟩⟩
    have ht := hu.top
    exact ⟨false, [], by rw [ht]; exact hu, by rw [ht]; exact hu, fun e he => (by cases he), by rw [ht]; exact Int.le_refl 0⟩
  · have he : (addR n newD q).2 = newD := by
      unfold addR
      rw [if_pos hc]
    rw [he]
    exact ⟨fun s hs => (by cases hs), fun s hs => (by cases hs)⟩
theorem ap_add {n : Nat} {q : Flt} {A B : Fdr} (h : ApInv n q A B) (hA : A = (addR n newD q).2) (hn : 1 ≤ B.next) (f : Flt) : ApInv n q A (addR n B f).2 := by
  obtain ⟨h1, h2, h3⟩ := h
  refine ⟨by rw [add_top]; exact h1, fun hc => ?_, fun hc => ⟨(h3 hc).1, add_ids (h3 hc).2 hn f⟩⟩
  obtain ⟨gn, evs, ua, ub, hp, ht⟩ := h2 hc
  have he : (addR n newD q).2 = ⟨[], [⟨1, 0, 0, q, false⟩], 2, 0⟩ := by
    unfold addR
    rw [if_neg (fun hh => hh hc)]
    rfl
  rw [he] at hA
  have hev : evs = [] := by rw [← ua.evs, hA]
  have htp : A.top = 0 := by rw [hA]
  have hgn : gn = false := by
    have := (ua.all ⟨1, 0, 0, q, false⟩ (by rw [hA]; exact List.mem_singleton.2 rfl)).2
    exact this.symm
  subst hev hgn
  rw [htp] at ub
  exact ⟨false, [], ua, by rw [htp]; exact add_uni ub f, hp, ht⟩
end Go.Proofs.Ytdjfijdnhfmeeaa
