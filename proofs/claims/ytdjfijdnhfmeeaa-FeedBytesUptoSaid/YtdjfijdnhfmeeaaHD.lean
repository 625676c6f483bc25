/- Reading a filter, plain. -/
import Derived.Test.YtdjfijdnhfmeeaaWB
import Derived.Test.YtdjfijdnhfmeeaaHC
namespace Go.Proofs.Ytdjfijdnhfmeeaa
open Go.RowKit Go.TM
def q1 (bs : List UInt8) (a : Nat) (e : Int) : Int × Nat × Int := rNum bs a e
def q2 (lim : Int) (bs : List UInt8) (a : Nat) (e : Int) : List UInt8 × Nat × Int := rText bs (q1 bs a e).2.1 (q1 bs a e).2.2 lim
def q3 (lim : Int) (bs : List UInt8) (a : Nat) (e : Int) : List UInt8 × Nat × Int := rText bs (q2 lim bs a e).2.1 (q2 lim bs a e).2.2 192
def q4 (lim : Int) (bs : List UInt8) (a : Nat) (e : Int) : Int × Nat × Int := rWithin bs (q3 lim bs a e).2.1 (q3 lim bs a e).2.2 0 24
def rdKids (F : Nat → Int → Flt × Nat × Int) : Nat → Nat → Int → List Flt × Nat × Int
  | 0, a, e => ([], a, e)
  | m + 1, a, e => if e = 0 then ((F a e).1 :: (rdKids F m (F a e).2.1 (F a e).2.2).1, (rdKids F m (F a e).2.1 (F a e).2.2).2) else ([], a, e)
def rdT (lim : Int) (bs : List UInt8) : Nat → Nat → Int → Flt × Nat × Int
  | 0, a, e => (.mk (q1 bs a e).1 ⟨(q2 lim bs a e).1.toArray⟩ ⟨(q3 lim bs a e).1.toArray⟩ [], (q4 lim bs a e).2)
  | k + 1, a, e => (.mk (q1 bs a e).1 ⟨(q2 lim bs a e).1.toArray⟩ ⟨(q3 lim bs a e).1.toArray⟩ (rdKids (rdT lim bs k) (q4 lim bs a e).1.toNat (q4 lim bs a e).2.1 (q4 lim bs a e).2.2).1,
      (rdKids (rdT lim bs k) (q4 lim bs a e).1.toNat (q4 lim bs a e).2.1 (q4 lim bs a e).2.2).2)
theorem rdKids_err {F : Nat → Int → Flt × Nat × Int} {m : Nat} {a : Nat} {e : Int} (h : e ≠ 0) : rdKids F m a e = ([], a, e) := by
  cases m with
  | zero => rfl
  | succ m => exact if_neg h
theorem rdKids_go {F : Nat → Int → Flt × Nat × Int} {m : Nat} {a a' : Nat} {e' : Int} {f : Flt} (h : F a 0 = (f, a', e')) : rdKids F (m + 1) a 0 = (f :: (rdKids F m a' e').1, (rdKids F m a' e').2) := by
  have h1 : rdKids F (m + 1) a 0 = ((F a 0).1 :: (rdKids F m (F a 0).2.1 (F a 0).2.2).1, (rdKids F m (F a 0).2.1 (F a 0).2.2).2) := if_pos rfl
  rw [h1, h]
section
variable {bs : List UInt8} {a : Nat} {e : Int}
theorem rText_le (ha : a ≤ bs.length) (most : Int) : (rText bs a e most).2.1 ≤ bs.length ∧ a ≤ (rText bs a e most).2.1 := by
  obtain ⟨h1, h2, h3, h4⟩ := rNum_le (bs := bs) (err := e) ha
  unfold rText
  split
  · exact ⟨ha, Nat.le_refl _⟩
  · split
    · exact ⟨ha, Nat.le_refl _⟩
    · split
      · exact ⟨ha, Nat.le_refl _⟩
      · simp only
        omega
theorem rWithin_le (ha : a ≤ bs.length) (lo hi : Int) (hlo : 0 ≤ hi) : (rWithin bs a e lo hi).2.1 ≤ bs.length ∧ a ≤ (rWithin bs a e lo hi).2.1 ∧ (rWithin bs a e lo hi).1 ≤ hi := by
  obtain ⟨h1, h2, h3, h4⟩ := rNum_le (bs := bs) (err := e) ha
  unfold rWithin
  split
  · exact ⟨h1, h4, hlo⟩
  · split
    · exact ⟨ha, Nat.le_refl _, hlo⟩
    · exact ⟨h1, h4, by omega⟩
theorem rWithin_nn (ha : a ≤ bs.length) (hi : Int) : 0 ≤ (rWithin bs a e 0 hi).1 := by
  obtain ⟨h1, h2, h3, h4⟩ := rNum_le (bs := bs) (err := e) ha
  unfold rWithin
  split
  · exact Int.le_refl _
  · split
    · exact Int.le_refl _
    · exact h2
theorem q4_le (lim : Int) (ha : a ≤ bs.length) : (q1 bs a e).2.1 ≤ bs.length ∧ (q2 lim bs a e).2.1 ≤ bs.length ∧ (q3 lim bs a e).2.1 ≤ bs.length ∧ (q4 lim bs a e).2.1 ≤ bs.length ∧ a ≤ (q4 lim bs a e).2.1 ∧ 0 ≤ (q4 lim bs a e).1 ∧ (q4 lim bs a e).1 ≤ 24 ∧ 0 ≤ (q1 bs a e).1 ∧ (q1 bs a e).1 ≤ 9223372036854775807 := by
  obtain ⟨h1, h2, h3, h4⟩ := rNum_le (bs := bs) (err := e) ha
  obtain ⟨i1, i2⟩ := rText_le (bs := bs) (a := (q1 bs a e).2.1) (e := (q1 bs a e).2.2) h1 lim
  obtain ⟨j1, j2⟩ := rText_le (bs := bs) (a := (q2 lim bs a e).2.1) (e := (q2 lim bs a e).2.2) i1 192
  obtain ⟨k1, k2, k3⟩ := rWithin_le (bs := bs) (a := (q3 lim bs a e).2.1) (e := (q3 lim bs a e).2.2) j1 0 24 (by omega)
  have k4 := rWithin_nn (bs := bs) (a := (q3 lim bs a e).2.1) (e := (q3 lim bs a e).2.2) j1 24
  exact ⟨h1, i1, j1, k1, Nat.le_trans h4 (Nat.le_trans i2 (Nat.le_trans j2 k2)), k4, k3, h2, h3⟩
theorem rdKids_le {F : Nat → Int → Flt × Nat × Int} (h : ∀ a e, a ≤ bs.length → (F a e).2.1 ≤ bs.length ∧ a ≤ (F a e).2.1) : ∀ (m : Nat) (a : Nat) (e : Int), a ≤ bs.length → (rdKids F m a e).2.1 ≤ bs.length ∧ a ≤ (rdKids F m a e).2.1
  | 0, a, e, ha => ⟨ha, Nat.le_refl _⟩
  | m + 1, a, e, ha => by
    by_cases h0 : e = 0
    · subst h0
      rw [rdKids_go (f := (F a 0).1) (a' := (F a 0).2.1) (e' := (F a 0).2.2) rfl]
      obtain ⟨h1, h2⟩ := h a 0 ha
      obtain ⟨h3, h4⟩ := rdKids_le h m _ (F a 0).2.2 h1
      exact ⟨h3, Nat.le_trans h2 h4⟩
    · rw [rdKids_err h0]
      exact ⟨ha, Nat.le_refl _⟩
theorem rdT_le (lim : Int) : ∀ (k : Nat) (a : Nat) (e : Int), a ≤ bs.length → (rdT lim bs k a e).2.1 ≤ bs.length ∧ a ≤ (rdT lim bs k a e).2.1
  | 0, a, e, ha => ⟨(q4_le lim ha).2.2.2.1, (q4_le lim ha).2.2.2.2.1⟩
  | k + 1, a, e, ha => by
    obtain ⟨-, -, -, h4, h5, -⟩ := q4_le (e := e) lim ha
    have h := rdKids_le (bs := bs) (F := rdT lim bs k) (fun a e h => rdT_le lim k a e h) (q4 lim bs a e).1.toNat (q4 lim bs a e).2.1 (q4 lim bs a e).2.2 h4
    exact ⟨h.1, Nat.le_trans h5 h.2⟩
end
end Go.Proofs.Ytdjfijdnhfmeeaa

