/- Numbers as bytes, read back: plain words. -/
import Derived.Test.YtiebnjkjgobklaaB5
namespace Go.TM

def bval (l : List UInt8) : Nat := l.foldl (fun n x => 256 * n + x.toNat) 0
theorem bval_app (l : List UInt8) (x : UInt8) : bval (l ++ [x]) = 256 * bval l + x.toNat := by simp [bval]
theorem fold_lt : ∀ (l : List UInt8) (n : Nat), l.foldl (fun n x => 256 * n + x.toNat) n + 1 ≤ (n + 1) * 256 ^ l.length
  | [], n => by simp
  | x :: l, n => by
    rw [List.foldl_cons, List.length_cons, Nat.pow_succ, Nat.mul_comm (256 ^ l.length), ← Nat.mul_assoc]
    have := fold_lt l (256 * n + x.toNat)
    have hx := x.toNat_lt
    refine Nat.le_trans this (Nat.mul_le_mul_right _ ?_)
    omega
theorem bval_lt (l : List UInt8) : bval l < 256 ^ l.length := by
  have := fold_lt l 0
  unfold bval
  omega
theorem bval_be (m : Nat) : bval (be m) = m := by
  rcases Nat.eq_zero_or_pos m with h | h
  · subst h
    rw [be_zero]
    rfl
  · rw [be_pos h, bval_app, bval_be (m / 256)]
    have : (UInt8.ofNat (m % 256)).toNat = m % 256 := by simp
    rw [this]
    omega
termination_by m
decreasing_by omega
theorem be_head (m : Nat) : (be m).head? ≠ some 0 := by
  rcases Nat.eq_zero_or_pos m with h | h
  · subst h
    rw [be_zero]
    simp
  · rw [be_pos h]
    rcases Nat.eq_zero_or_pos (m / 256) with h1 | h1
    · rw [h1, be_zero]
      intro e
      have e' : UInt8.ofNat (m % 256) = 0 := by simpa using e
      have e2 : (UInt8.ofNat (m % 256)).toNat = 0 := by rw [e']; rfl
      have e3 : (UInt8.ofNat (m % 256)).toNat = m % 256 := by simp
      omega
    · have hne : be (m / 256) ≠ [] := by
        intro e
        have := bval_be (m / 256)
        rw [e] at this
        simp [bval] at this
        omega
      have := be_head (m / 256)
      cases hb : be (m / 256) with
      | nil => exact absurd hb hne
      | cons x t =>
        rw [hb] at this
        simpa using this
termination_by m
decreasing_by omega
theorem bval_le (x : UInt8) (l : List UInt8) : x.toNat * 256 ^ l.length ≤ bval (x :: l) := by
  have key : ∀ (l : List UInt8) (n : Nat), n * 256 ^ l.length ≤ l.foldl (fun n x => 256 * n + x.toNat) n := by
    intro l
    induction l with
    | nil => intro n; simp
    | cons y l ih =>
      intro n
      rw [List.foldl_cons, List.length_cons, Nat.pow_succ, Nat.mul_comm (256 ^ l.length), ← Nat.mul_assoc]
      refine Nat.le_trans (Nat.mul_le_mul_right _ ?_) (ih _)
      omega
  have := key l (256 * 0 + x.toNat)
  simpa [bval] using this
theorem be_bval : ∀ (n : Nat) (l : List UInt8), l.length = n → l.head? ≠ some 0 → be (bval l) = l
  | 0, l, hn, _ => by
    have : l = [] := List.length_eq_zero_iff.1 hn
    subst this
    simp [bval, be_zero]
  | n + 1, l, hn, h0 => by
    have hne : l ≠ [] := by intro e; subst e; simp at hn
    obtain ⟨l', x, rfl⟩ : ∃ l' x, l = l' ++ [x] := ⟨l.dropLast, l.getLast hne, (List.dropLast_concat_getLast hne).symm⟩
    have hl : l'.length = n := by simpa using hn
    have hx := x.toNat_lt
    have hofn : ∀ b : Nat, UInt8.ofNat ((256 * b + x.toNat) % 256) = x := by
      intro b
      rw [show (256 * b + x.toNat) % 256 = x.toNat from by omega]
      simp
    rw [bval_app]
    cases l' with
    | nil =>
      have hx0 : x ≠ 0 := by simpa using h0
      have hx1 : 0 < x.toNat := by
        rcases Nat.eq_zero_or_pos x.toNat with h | h
        · exact absurd (UInt8.toNat_inj.1 (by rw [h]; rfl)) hx0
        · exact h
      rw [be_pos (by omega), hofn, show (256 * bval [] + x.toNat) / 256 = 0 from by simp [bval]; omega, be_zero]
    | cons y t =>
      have hy : (y :: t).head? ≠ some 0 := by simpa using h0
      have hy1 : 0 < y.toNat := by
        rcases Nat.eq_zero_or_pos y.toNat with h | h
        · have : y = 0 := UInt8.toNat_inj.1 h
          subst this
          simp at hy
        · exact h
      have hpos : 0 < bval (y :: t) := Nat.lt_of_lt_of_le (Nat.mul_pos hy1 (Nat.pow_pos (by omega))) (bval_le y t)
      rw [be_pos (by omega), hofn, show (256 * bval (y :: t) + x.toNat) / 256 = bval (y :: t) from by omega, be_bval n (y :: t) hl hy]

/-- The number at the beginning: it, how many bytes it has, why there is none. -/
def numR : List UInt8 → Nat × Nat × Int
  | [] => (0, 0, 2)
  | k :: t => if 8 < k.toNat then (0, 0, 11) else if t.length < k.toNat then (0, 0, 2) else if 0 < k.toNat ∧ t.head? = some 0 then (0, 0, 11) else
    if 9223372036854775807 < bval (t.take k.toNat) then (0, 0, 5) else (bval (t.take k.toNat), k.toNat + 1, 0)
end Go.TM
namespace Go.Proofs.Ytiebnjkjgobklaa
open Go.TM
theorem be_le8 {m : Nat} (h : m ≤ 9223372036854775807) : (be m).length ≤ 8 := by
  have : (256 : Nat) ^ 8 = 18446744073709551616 := by decide
  exact be_le 8 m (by omega)
theorem numR_numB {m : Nat} (h : m ≤ 9223372036854775807) (r : List UInt8) : numR (numB m ++ r) = (m, (numB m).length, 0) := by
  have h8 := be_le8 h
  have hk : (UInt8.ofNat (be m).length).toNat = (be m).length := by
    have : (UInt8.ofNat (be m).length).toNat = (be m).length % 256 := by simp
    omega
  unfold numB
  rw [List.cons_append]
  simp only [numR]
  rw [hk, if_neg (by omega), if_neg (by rw [List.length_append]; omega), List.take_left', bval_be, if_neg, if_neg (by omega), List.length_cons]
  · rintro ⟨h0, h1⟩
    have := be_head m
    cases hb : be m with
    | nil => rw [hb] at h0; simp at h0
    | cons x t =>
      rw [hb] at this h1
      exact this (by simpa using h1)
  · rfl
theorem numR_ok {l : List UInt8} {n k : Nat} (h : numR l = (n, k, 0)) : 0 < k ∧ k ≤ l.length ∧ numB n = l.take k ∧ n ≤ 9223372036854775807 := by
  cases l with
  | nil => simp [numR] at h
  | cons b t =>
    simp only [numR] at h
    split at h
    · simp at h
    split at h
    · simp at h
    split at h
    · simp at h
    split at h
    · simp at h
    · rename_i h1 h2 h3 h4
      simp only [Prod.mk.injEq, and_true] at h
      obtain ⟨rfl, rfl⟩ := h
      have hl : (t.take b.toNat).length = b.toNat := by rw [List.length_take]; omega
      refine ⟨by omega, by rw [List.length_cons]; omega, ?_, by omega⟩
      unfold numB
      rw [be_bval b.toNat _ hl, hl, List.take_succ_cons]
      · simp
      · intro e
        refine h3 ⟨?_, ?_⟩
        · rcases Nat.eq_zero_or_pos b.toNat with h | h
          · rw [h] at e; simp at e
          · exact h
        · cases t with
          | nil => simp at e
          | cons y t' =>
            rcases Nat.eq_zero_or_pos b.toNat with h | h
            · rw [h] at e; simp at e
            · obtain ⟨q, hq⟩ : ∃ q, b.toNat = q + 1 := ⟨b.toNat - 1, by omega⟩
              rw [hq] at e
              simpa using e
theorem numR_bad {l : List UInt8} {n k : Nat} {e : Int} (h : numR l = (n, k, e)) : (e = 0 ∨ e = 2 ∨ e = 5 ∨ e = 11) ∧ (e ≠ 0 → n = 0 ∧ k = 0) := by
  cases l with
  | nil =>
    simp only [numR, Prod.mk.injEq] at h
    obtain ⟨rfl, rfl, rfl⟩ := h
    simp
  | cons b t =>
    unfold numR at h
    repeat' split at h
    all_goals
      simp only [Prod.mk.injEq] at h
      obtain ⟨rfl, rfl, rfl⟩ := h
      simp
end Go.Proofs.Ytiebnjkjgobklaa
