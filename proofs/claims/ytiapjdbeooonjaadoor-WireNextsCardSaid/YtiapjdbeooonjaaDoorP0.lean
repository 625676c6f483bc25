/- The sum of bytes: by a table of sixteen rows, and by halves, is one. No program in sight. -/
import Derived.Laws.BitsLemmas
namespace Go.TM.Crc

def P : Nat := 0xc8df352f
def half (c : Nat) : Nat := c / 2 ^^^ (if c % 2 = 1 then P else 0)
def rows : List Nat := [0x00000000, 0x2b2c2bee, 0x565857dc, 0x7d747c32, 0xacb0afb8, 0x879c8456, 0xfae8f864, 0xd1c4d38a,
  0xc8df352f, 0xe3f31ec1, 0x9e8762f3, 0xb5ab491d, 0x646f9a97, 0x4f43b179, 0x3237cd4b, 0x191be6a5]
def row (i : Nat) : Nat := rows.getD i 0
def quad (c : Nat) : Nat := c / 16 ^^^ row (c % 16)
def halves : Nat → Nat → Nat
  | 0, c => c
  | n + 1, c => halves n (half c)

theorem xor_half (a b : Nat) : (a ^^^ b) / 2 = a / 2 ^^^ b / 2 := by
  have := Nat.shiftRight_xor_distrib (a := a) (b := b) (i := 1)
  simpa [Nat.shiftRight_eq_div_pow] using this
theorem xor_odd (a b : Nat) : (a ^^^ b) % 2 = (a % 2 + b % 2) % 2 := by
  have h := Nat.testBit_xor a b 0
  simp only [Nat.testBit_zero] at h
  have ha := Nat.mod_two_eq_zero_or_one a
  have hb := Nat.mod_two_eq_zero_or_one b
  have hc := Nat.mod_two_eq_zero_or_one (a ^^^ b)
  rcases ha with ha | ha <;> rcases hb with hb | hb <;> rcases hc with hc | hc <;> simp [ha, hb, hc] at h ⊢
theorem half_xor (a b : Nat) : half (a ^^^ b) = half a ^^^ half b := by
  unfold half
  rw [xor_half, xor_odd]
  have ha := Nat.mod_two_eq_zero_or_one a
  have hb := Nat.mod_two_eq_zero_or_one b
  rcases ha with ha | ha <;> rcases hb with hb | hb <;> simp [ha, hb, Nat.xor_assoc]
  · rw [Nat.xor_comm (b / 2) P, ← Nat.xor_assoc]
  · rw [← Nat.xor_assoc P, Nat.xor_comm P, Nat.xor_assoc (b / 2), Nat.xor_self, Nat.xor_zero]
theorem halves_xor : ∀ (n a b : Nat), halves n (a ^^^ b) = halves n a ^^^ halves n b
  | 0, _, _ => rfl
  | n + 1, a, b => by
    show halves n (half (a ^^^ b)) = halves n (half a) ^^^ halves n (half b)
    rw [half_xor, halves_xor n]
theorem half_even (a : Nat) : half (2 * a) = a := by
  unfold half
  simp
theorem halves_even : ∀ (n a : Nat), halves n (2 ^ n * a) = a
  | 0, a => by simp [halves]
  | n + 1, a => by
    show halves n (half (2 ^ (n + 1) * a)) = a
    rw [Nat.pow_succ, Nat.mul_comm (2 ^ n) 2, Nat.mul_assoc, half_even, halves_even n]
theorem split16 (c : Nat) : c = (2 ^ 4 * (c / 16)) ^^^ (c % 16) := by
  apply Nat.eq_of_testBit_eq
  intro i
  rw [Nat.testBit_xor, Nat.testBit_two_pow_mul, show (16 : Nat) = 2 ^ 4 from rfl, Nat.testBit_mod_two_pow, Nat.testBit_div_two_pow]
  by_cases h : i < 4
  · have : ¬ 4 ≤ i := by omega
    simp [h, this]
  · have h4 : 4 ≤ i := by omega
    simp [h, h4]
theorem quad_eq (c : Nat) : quad c = halves 4 c := by
  conv => rhs; rw [split16 c, halves_xor, halves_even]
  unfold quad
  congr 1
  have h : c % 16 < 16 := Nat.mod_lt _ (by omega)
  generalize c % 16 = l at h
  have : ∀ l : Fin 16, row l.val = halves 4 l.val := by decide
  exact this ⟨l, h⟩
theorem halves_add : ∀ (n m c : Nat), halves m (halves n c) = halves (n + m) c
  | 0, m, c => by simp [halves]
  | n + 1, m, c => by
    rw [show n + 1 + m = (n + m) + 1 from by omega]
    show halves m (halves n (half c)) = halves (n + m) (half c)
    exact halves_add n m _
/-- One byte more. -/
def step (c x : Nat) : Nat := halves 8 (c ^^^ x)
theorem quad_quad (c x : Nat) : quad (quad (c ^^^ x)) = step c x := by
  rw [quad_eq, quad_eq, halves_add]
  rfl
theorem xor_can {a b c : Nat} (h : a ^^^ b = a ^^^ c) : b = c := by
  have := congrArg (a ^^^ ·) h
  simpa [← Nat.xor_assoc] using this
theorem half_lt {c : Nat} (h : c < 2 ^ 32) : half c < 2 ^ 32 := by
  unfold half
  refine Nat.xor_lt_two_pow (by omega) ?_
  split
  · decide
  · decide
theorem halves_lt : ∀ (n : Nat) {c : Nat}, c < 2 ^ 32 → halves n c < 2 ^ 32
  | 0, _, h => h
  | n + 1, _, h => halves_lt n (half_lt h)
theorem step_lt {c x : Nat} (h : c < 2 ^ 32) (hx : x < 2 ^ 32) : step c x < 2 ^ 32 := halves_lt 8 (Nat.xor_lt_two_pow h hx)
theorem half_top {c : Nat} (h : c < 2 ^ 32) : (half c).testBit 31 = decide (c % 2 = 1) := by
  unfold half
  rw [Nat.testBit_xor, Nat.testBit_lt_two_pow (show c / 2 < 2 ^ 31 by omega)]
  by_cases hc : c % 2 = 1
  · simp [hc]
    decide
  · simp [hc]
theorem half_inj {c d : Nat} (hc : c < 2 ^ 32) (hd : d < 2 ^ 32) (h : half c = half d) : c = d := by
  have ht : decide (c % 2 = 1) = decide (d % 2 = 1) := by rw [← half_top hc, ← half_top hd, h]
  have ht' : (c % 2 = 1) ↔ (d % 2 = 1) := by simpa using ht
  unfold half at h
  have h2 : c / 2 = d / 2 := by
    by_cases hc1 : c % 2 = 1
    · rw [if_pos hc1, if_pos (ht'.1 hc1)] at h
      exact xor_can (a := P) (by rw [Nat.xor_comm P, Nat.xor_comm P]; exact h)
    · rw [if_neg hc1, if_neg (fun h => hc1 (ht'.2 h))] at h
      simpa using h
  omega
theorem halves_inj : ∀ (n : Nat) {c d : Nat}, c < 2 ^ 32 → d < 2 ^ 32 → halves n c = halves n d → c = d
  | 0, _, _, _, _, h => h
  | n + 1, _, _, hc, hd, h => half_inj hc hd (halves_inj n (half_lt hc) (half_lt hd) h)
theorem step_inj_l {c d x : Nat} (hc : c < 2 ^ 32) (hd : d < 2 ^ 32) (hx : x < 2 ^ 32) (h : step c x = step d x) : c = d := by
  have := halves_inj 8 (Nat.xor_lt_two_pow hc hx) (Nat.xor_lt_two_pow hd hx) h
  exact xor_can (a := x) (by rw [Nat.xor_comm x, Nat.xor_comm x]; exact this)
theorem step_inj_r {c x y : Nat} (hc : c < 2 ^ 32) (hx : x < 2 ^ 32) (hy : y < 2 ^ 32) (h : step c x = step c y) : x = y :=
  xor_can (halves_inj 8 (Nat.xor_lt_two_pow hc hx) (Nat.xor_lt_two_pow hc hy) h)

/-- What bytes lead to. -/
def run (c : Nat) (l : List UInt8) : Nat := l.foldl (fun c x => step c x.toNat) c
theorem u8_lt (x : UInt8) : x.toNat < 2 ^ 32 := Nat.lt_trans x.toNat_lt (by decide)
theorem run_lt : ∀ (l : List UInt8) {c : Nat}, c < 2 ^ 32 → run c l < 2 ^ 32
  | [], _, h => h
  | x :: l, _, h => run_lt l (step_lt h (u8_lt x))
theorem run_inj : ∀ (l : List UInt8) {c d : Nat}, c < 2 ^ 32 → d < 2 ^ 32 → run c l = run d l → c = d
  | [], _, _, _, _, h => h
  | x :: l, _, _, hc, hd, h => step_inj_l hc hd (u8_lt x) (run_inj l (step_lt hc (u8_lt x)) (step_lt hd (u8_lt x)) h)
/-- One byte is another one: the sum is another one. -/
theorem run_turned (a b : List UInt8) {x y : UInt8} {c : Nat} (hc : c < 2 ^ 32) (h : run c (a ++ x :: b) = run c (a ++ y :: b)) : x = y := by
  unfold run at h
  rw [List.foldl_append, List.foldl_append] at h
  have hr : run c a < 2 ^ 32 := run_lt a hc
  have h2 := run_inj b (step_lt hr (u8_lt x)) (step_lt hr (u8_lt y)) h
  exact UInt8.toNat_inj.1 (step_inj_r hr (u8_lt x) (u8_lt y) h2)
def full : Nat := 4294967295
def sum (l : List UInt8) : Nat := full - run full l
theorem sum_lt (l : List UInt8) : sum l < 2 ^ 32 := by unfold sum full; omega
theorem sum_turned (a b : List UInt8) {x y : UInt8} (h : sum (a ++ x :: b) = sum (a ++ y :: b)) : x = y := by
  have h1 : run full (a ++ x :: b) < 2 ^ 32 := run_lt _ (by decide)
  have h2 : run full (a ++ y :: b) < 2 ^ 32 := run_lt _ (by decide)
  refine run_turned a b (c := full) (by decide) ?_
  unfold sum full at h
  unfold full at h1 h2 ⊢
  omega
end Go.TM.Crc
