/- Numbers as bytes, the greatest byte first: plain words. -/
import Derived.Test.YtiebnjkjgobklaaB1
namespace Go.TM

/-- A number's bytes, the greatest first, none for 0. -/
def be (m : Nat) : List UInt8 := if m = 0 then [] else be (m / 256) ++ [UInt8.ofNat (m % 256)]
decreasing_by omega

theorem be_zero : be 0 = [] := by unfold be; rfl
theorem be_pos {m : Nat} (h : 0 < m) : be m = be (m / 256) ++ [UInt8.ofNat (m % 256)] := by
  conv => lhs; unfold be
  rw [if_neg (by omega)]

theorem be_length : ∀ (k m : Nat), m < 256 ^ k → (k = 0 ∨ 256 ^ (k - 1) ≤ m) → (be m).length = k
  | 0, m, h, _ => by
    have : m = 0 := by simpa using h
    subst this
    rw [be_zero]
    rfl
  | k + 1, m, h, h2 => by
    have hm : 256 ^ k ≤ m := by
      rcases h2 with h2 | h2
      · omega
      · simpa using h2
    have hpos : 0 < 256 ^ k := Nat.pow_pos (by omega)
    rw [be_pos (by omega), List.length_append, be_length k (m / 256) (by rw [Nat.div_lt_iff_lt_mul (by omega)]; rwa [Nat.pow_succ] at h) ?_]
    · rfl
    · rcases k with _ | k
      · exact .inl rfl
      · right
        show 256 ^ k ≤ m / 256
        rw [Nat.le_div_iff_mul_le (by omega), ← Nat.pow_succ]
        exact hm

theorem be_get : ∀ (k m j : Nat), (be m).length = k → j < k → (be m)[j]? = some (UInt8.ofNat (m / 256 ^ (k - 1 - j) % 256))
  | 0, m, j, _, h => by omega
  | k + 1, m, j, hl, hj => by
    have hm : 0 < m := by
      rcases Nat.eq_zero_or_pos m with h | h
      · subst h
        rw [be_zero] at hl
        cases hl
      · exact h
    rw [be_pos hm] at hl ⊢
    rw [List.length_append, List.length_singleton] at hl
    have hl' : (be (m / 256)).length = k := by omega
    rcases Nat.lt_or_ge j k with h | h
    · rw [List.getElem?_append_left (by omega), be_get k (m / 256) j hl' h, Nat.div_div_eq_div_mul, show k + 1 - 1 - j = (k - 1 - j) + 1 from by omega, Nat.pow_succ, Nat.mul_comm 256]
    · have : j = k := by omega
      subst this
      rw [List.getElem?_append_right (by omega), hl']
      simp
end Go.TM
