/- Sessions: replies stay i64; what an error leaves. -/
import Derived.Test.YtiebnjkjgobklaaB7
namespace Go.Proofs.Ytiebnjkjgobklaa
open Go.RowKit Go.TM

theorem Vals.step {t : Tab} (h : Vals t.seats) (k : Do) (hk : k.ok) : Vals (step t k).2.seats := by
  unfold Ytiebnjkjgobklaa.step
  split
  · unfold open_
    split
    · exact h
    · split
      · exact h
      · intro s hs
        rcases List.mem_append.1 hs with hs | hs
        · exact h s hs
        · simp only [List.mem_singleton] at hs
          subst hs
          exact ⟨⟨by show (-9223372036854775808 : Int) ≤ 0; omega, by show (0 : Int) ≤ _; omega⟩, by show (-9223372036854775808 : Int) ≤ 0; omega, by show (0 : Int) ≤ _; omega⟩
  · split
    · unfold close
      split
      · exact fun s hs => h s (List.mem_filter.1 hs).1
      · exact h
    · split
      · exact h
      · unfold keep
        split
        · exact h
        · split
          · exact h
          · intro s hs
            obtain ⟨y, hy, rfl⟩ := List.mem_map.1 hs
            split
            · exact ⟨hk.err, hk.n⟩
            · exact h y hy
theorem Vals.run (l : List Do) (hl : ∀ k ∈ l, k.ok) : Vals (run l).seats := by
  have key : ∀ n, n ≤ l.length → Vals (Ytiebnjkjgobklaa.run (l.take n)).seats := by
    intro n
    induction n with
    | zero => exact fun _ s hs => by cases hs
    | succ n ih =>
      intro hn
      rw [List.take_succ_eq_append_getElem hn, run_snoc]
      exact (ih (by omega)).step _ (hl _ (List.getElem_mem _))
  have := key l.length (Nat.le_refl _)
  rwa [List.take_length] at this

/-- A call that has an error, or asks, leaves the table as it was. -/
theorem step_same {t : Tab} {k : Do} (h : (step t k).1 ≠ 0 ∨ k.kind = 3) : (step t k).2 = t := by
  rcases h with h | h
  · revert h
    unfold step
    split
    · unfold open_
      split
      · intro _; rfl
      · split
        · intro _; rfl
        · intro h; exact absurd rfl h
    · split
      · unfold close
        split
        · intro h; exact absurd rfl h
        · intro _; rfl
      · split
        · intro _; rfl
        · unfold keep
          split
          · intro _; rfl
          · split
            · intro _; rfl
            · intro h; exact absurd rfl h
  · unfold step
    rw [if_neg (by omega), if_neg (by omega), if_pos h]
end Go.Proofs.Ytiebnjkjgobklaa
