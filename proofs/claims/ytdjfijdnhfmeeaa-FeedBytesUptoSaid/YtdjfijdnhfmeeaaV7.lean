/- PLAIN LAW: what holds of a feed behind any calls, as Put and Get want it. -/
import Derived.Test.YtdjfijdnhfmeeaaV3
namespace Go.Proofs.Ytdjfijdnhfmeeaa
open Go.RowKit Go.TM
/-- All that is kept stands beyond who is furthest behind. -/
def Trimd (D : Fdr) : Prop := (lastS D.subs = none → D.evs = []) ∧ ∀ a, lastS D.subs = some a → ∀ e ∈ D.evs, atOf D.subs a < e.pos
theorem Trimd.eq {D : Fdr} (h : Trimd D) : trimD D = D := by
  have h1 : trimE D.subs D.evs = D.evs := by
    unfold trimE
    cases hl : lastS D.subs with
    | none => exact (h.1 hl).symm
    | some a =>
      refine List.filter_eq_self.2 (fun e he => ?_)
      have := h.2 a hl e he
      simp
      omega
  unfold trimD
  rw [h1]
theorem trimd_trim (D : Fdr) : Trimd (trimD D) := by
  refine ⟨fun hl => ?_, fun a ha e he => ?_⟩
  · exact trimD_none hl
  · have hl : lastS D.subs = some a := ha
    have he' : e ∈ trimE D.subs D.evs := he
    unfold trimE at he'
    rw [hl] at he'
    have := (List.mem_filter.1 he').2
    simp at this
    show atOf D.subs a < e.pos
    omega
theorem trimd_evict : ∀ {k : Nat} {D : Fdr}, Trimd D → Trimd (evict k D)
  | 0, _, h => h
  | k + 1, D, h => by
    unfold Proofs.Ytdjfijdnhfmeeaa.evict
    split
    · exact trimd_evict (trimd_trim _)
    · exact h
theorem trimd_add {D : Fdr} (h : Trimd D) (s : Sb) (hg : s.gone = false) {nx : Int} : Trimd { D with subs := D.subs ++ [s], next := nx } := by
  have hm := lastTo_min (l := D.subs ++ [s]) (j := (D.subs ++ [s]).length)
  have hi : (D.subs ++ [s])[D.subs.length]? = some s := by simp
  refine ⟨fun hl => ?_, fun a ha e he => ?_⟩
  · have hl' : lastTo (D.subs ++ [s]) (D.subs ++ [s]).length = none := hl
    have := hm.1 hl' D.subs.length s (by simp) hi
    rw [hg] at this
    cases this
  · have ha' : lastTo (D.subs ++ [s]) (D.subs ++ [s]).length = some a := ha
    show atOf (D.subs ++ [s]) a < e.pos
    have he' : e ∈ D.evs := he
    cases hb : lastS D.subs with
    | none =>
      rw [h.1 hb] at he'
      cases he'
    | some b =>
      have h2 := h.2 b hb e he'
      have hb' : lastTo D.subs D.subs.length = some b := hb
      obtain ⟨t, ht, htg⟩ := lastTo_spec hb'
      have hbl := (lastTo_lt hb').2
      have h3 := hm.2 a ha' b t (by simp; omega) (by rw [List.getElem?_append_left hbl]; exact ht) htg
      have h4 : atOf D.subs b = t.at_ := by unfold atOf; rw [ht]
      omega
theorem step_trimd {n : Nat} {D : Fdr} {k : Dc} (h : Trimd D) : Trimd (stepR n D k).2 := by
  unfold stepR
  split
  · show Trimd (addR n D k.q).2
    unfold addR
    split
    · exact h
    · split
      · exact h
      · split
        · exact h
        · exact trimd_add h _ rfl
  · split
    · unfold dropR
      split
      · exact h
      · exact trimd_trim _
    · split
      · unfold ackR
        split
        · exact h
        · split
          · exact h
          · split
            · exact h
            · exact trimd_trim _
      · split
        · exact h
        · unfold noteR
          split
          · exact h
          · split
            · exact h
            · exact trimd_evict (trimd_trim _)
theorem step_pos {n : Nat} {D : Fdr} {k : Dc} {e : Ev} (h : e ∈ (stepR n D k).2.evs) : e ∈ D.evs ∨ D.top < e.pos := by
  unfold stepR at h
  split at h
  · left
    show e ∈ D.evs
    have h' : e ∈ (addR n D k.q).2.evs := h
    unfold addR at h'
    repeat (first | exact h' | split at h')
  · split at h
    · left
      unfold dropR at h
      split at h
      · exact h
      · exact trimE_sub _ _ e h
    · split at h
      · left
        unfold ackR at h
        split at h
        · exact h
        · split at h
          · exact h
          · split at h
            · exact h
            · exact trimE_sub _ _ e h
      · split at h
        · exact .inl h
        · unfold noteR at h
          split at h
          · exact .inl h
          · split at h
            · exact .inl h
            · have h1 := trimE_sub _ _ e (evict_sub e h)
              rcases List.mem_append.1 h1 with h1 | h1
              · exact .inl h1
              · obtain ⟨y, hy, rfl⟩ := List.mem_map.1 h1
                right
                show D.top < nextP D k
                omega
theorem step_ids {n : Nat} {D : Fdr} {k : Dc} {s : Sb} (h : s ∈ (stepR n D k).2.subs) : (∃ t ∈ D.subs, s.id = t.id) ∨ s.id = D.next := by
  unfold stepR at h
  split at h
  · have h' : s ∈ (addR n D k.q).2.subs := h
    unfold addR at h'
    split at h'
    · exact .inl ⟨s, h', rfl⟩
    · split at h'
      · exact .inl ⟨s, h', rfl⟩
      · split at h'
        · exact .inl ⟨s, h', rfl⟩
        · rcases List.mem_append.1 h' with h1 | h1
          · exact .inl ⟨s, h1, rfl⟩
          · rw [List.mem_singleton] at h1
            subst h1
            exact .inr rfl
  · left
    split at h
    · unfold dropR at h
      split at h
      · exact ⟨s, h, rfl⟩
      · exact ⟨s, (List.mem_filter.1 h).1, rfl⟩
    · split at h
      · unfold ackR at h
        split at h
        · exact ⟨s, h, rfl⟩
        · split at h
          · exact ⟨s, h, rfl⟩
          · split at h
            · exact ⟨s, h, rfl⟩
            · have h1 : s ∈ setAt D.subs (findR D.subs k.id).1.toNat (toAt k.pos) := h
              unfold setAt at h1
              split at h1
              · rename_i t ht
                rcases List.mem_or_eq_of_mem_set h1 with h2 | h2
                · exact ⟨s, h2, rfl⟩
                · subst h2
                  exact ⟨t, List.mem_of_getElem? ht, rfl⟩
              · exact ⟨s, h1, rfl⟩
      · split at h
        · exact ⟨s, h, rfl⟩
        · unfold noteR at h
          split at h
          · exact ⟨s, h, rfl⟩
          · split at h
            · exact ⟨s, h, rfl⟩
            · obtain ⟨i, hi⟩ := List.getElem?_of_mem h
              obtain ⟨t, h0, e1, _⟩ := (evict_le_subs (liveN (noteD D (nextP D k) k.evs).subs) (noteD D (nextP D k) k.evs)).2 i s hi
              exact ⟨t, List.mem_of_getElem? h0, by omega⟩
/-- What Put and Get want, but for the fold's own part. -/
structure Kept1 (n : Nat) (D : Fdr) : Prop where
  fine : Fine n D
  siz : ∀ e ∈ D.evs, e.key.size ≤ 32768 ∧ e.old.size ≤ 32768 ∧ e.now.size ≤ 32768
  pos : ∀ e ∈ D.evs, 1 ≤ e.pos
  idp : ∀ s ∈ D.subs, 1 ≤ s.id
  trim : Trimd D
theorem Kept1.neat {n : Nat} {D : Fdr} (h : Kept1 n D) : Neat n D := ⟨h.fine, h.siz, h.pos, h.idp, h.trim.eq⟩
theorem step_kept {n : Nat} {D : Fdr} {k : Dc} (h : Kept1 n D) (hk : CallOk n k) (hs : ∀ e ∈ k.evs, EvS e) : Kept1 n (stepR n D k).2 := by
  refine ⟨step_fine h.fine hk (fun e he => (hs e he).1), fun e he => ?_, fun e he => ?_, fun s hs' => ?_, step_trimd h.trim⟩
  · rcases step_mem he with he | ⟨y, hy, rfl⟩
    · exact h.siz e he
    · exact hs y hy
  · rcases step_pos he with he | he
    · exact h.pos e he
    · have := h.fine.good.top
      omega
  · rcases step_ids hs' with ⟨t, ht, he⟩ | he
    · rw [he]
      exact h.idp t ht
    · have := h.fine.good.next
      omega
theorem kept_fold {n : Nat} : ∀ {l : List Dc} {D : Fdr}, Kept1 n D → (∀ k ∈ l, CallOk n k) → (∀ k ∈ l, EvsS k) → Kept1 n (l.foldl (fun D k => (stepR n D k).2) D)
  | [], _, h, _, _ => h
  | k :: l, _, h, hk, hy => kept_fold (l := l) (step_kept h (hk k (List.mem_cons_self ..)) (hy k (List.mem_cons_self ..)).2) (fun y hm => hk y (List.mem_cons_of_mem _ hm)) (fun y hm => hy y (List.mem_cons_of_mem _ hm))
theorem made_neat {n : Nat} {l : List Dc} (h : ∀ k ∈ l, CallOk n k) (hy : ∀ k ∈ l, EvsS k) : Neat n (madeD n l) :=
  (kept_fold ⟨newD_fine n, fun e he => (by cases he), fun e he => (by cases he), fun e he => (by cases he), ⟨fun _ => rfl, fun a _ e he => (by cases he)⟩⟩ h hy).neat
end Go.Proofs.Ytdjfijdnhfmeeaa
