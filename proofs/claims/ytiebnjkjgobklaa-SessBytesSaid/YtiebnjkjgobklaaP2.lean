/- Numbers as bytes: how great they are. -/
import Derived.Test.YtiebnjkjgobklaaP1
namespace Go.TM

theorem bval_fold : ∀ (l : List UInt8) (n : Nat), l.foldl (fun n x => 256 * n + x.toNat) n = n * 256 ^ l.length + bval l
  | [], n => by simp [bval]
  | x :: l, n => by
    rw [List.foldl_cons, bval_fold l]
    have : bval (x :: l) = (256 * 0 + x.toNat) * 256 ^ l.length + bval l := by
      show (x :: l).foldl (fun n x => 256 * n + x.toNat) 0 = _
      rw [List.foldl_cons, bval_fold l]
    rw [this, List.length_cons, Nat.pow_succ, Nat.add_mul, Nat.add_mul, Nat.mul_zero, Nat.zero_mul, Nat.zero_add, Nat.mul_comm (256 ^ l.length), ← Nat.mul_assoc, Nat.mul_comm n 256, Nat.add_assoc]
theorem bval_first (x : UInt8) (l : List UInt8) : bval (x :: l) = x.toNat * 256 ^ l.length + bval l := by
  show (x :: l).foldl (fun n x => 256 * n + x.toNat) 0 = _
  rw [List.foldl_cons, bval_fold l, Nat.mul_zero, Nat.zero_add]
theorem bval_take_le (l : List UInt8) (j : Nat) : bval (l.take j) ≤ bval l := by
  have h : bval l = bval (l.take j) * 256 ^ (l.drop j).length + bval (l.drop j) := by
    conv => lhs; rw [← List.take_append_drop j l]
    show (l.take j ++ l.drop j).foldl (fun n x => 256 * n + x.toNat) 0 = _
    rw [List.foldl_append, bval_fold]
    rfl
  have hp : 0 < 256 ^ (l.drop j).length := Nat.pow_pos (by omega)
  have := Nat.le_mul_of_pos_right (bval (l.take j)) hp
  omega
theorem bval_big {x : UInt8} {l : List UInt8} (h : l.length ≤ 7) : 9223372036854775807 < bval (x :: l) ↔ l.length = 7 ∧ 127 < x.toNat := by
  have h7 : (256 : Nat) ^ 7 = 72057594037927936 := by decide
  rw [bval_first]
  have hb := bval_lt l
  have hx := x.toNat_lt
  by_cases h1 : l.length = 7
  · rw [h1, h7] at hb
    rw [h1, h7]
    omega
  · have h6 : 256 ^ l.length ≤ 256 ^ 6 := Nat.pow_le_pow_right (by omega) (by omega)
    have h6' : (256 : Nat) ^ 6 = 281474976710656 := by decide
    have : x.toNat * 256 ^ l.length ≤ 255 * 256 ^ 6 := Nat.mul_le_mul (by omega) h6
    omega
end Go.TM
