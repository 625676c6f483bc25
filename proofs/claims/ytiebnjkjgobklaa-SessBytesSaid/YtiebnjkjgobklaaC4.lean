/- The document's number. -/
import Derived.Test.YtiebnjkjgobklaaC3
namespace Go.Proofs.Ytiebnjkjgobklaa
open Go.RowKit Go.TM
theorem numberR_calls {w : World} {ok : Nat → Prop} {A : Option Addr} {n c : Nat} {bs : List UInt8} (H : Rd Kd.u8 w ok (.slice A n c) bs) :
    Calls Try.prog 52 #[.slice A n c] w fun e w' => e = .returned (NumR bs) ∧ w = w' := by
  obtain ⟨A', c', he, hc', hm'⟩ := H.slice
  simp only [Value.slice.injEq] at he
  obtain ⟨rfl, hn, rfl⟩ := he
  cases bs with
  | nil =>
    rw [List.length_nil] at hn
    subst hn
    have hN : NumR [] = .tuple #[.int .i64 0, .int .i64 0, .int .i64 2] := rfl
    rw [hN]
    clear H hN hc' hm'
    go_enter Try.func52, Try.ntmps52
    go_wp2_with fail
    go_ret3
    exact ⟨rfl, rfl⟩
  | cons b t =>
    obtain ⟨g, off, rfl⟩ : ∃ g off, A = some ⟨g, off, none⟩ := by
      obtain ⟨A', c', he', _, _, hx⟩ := H
      simp only [Value.slice.injEq] at he'
      obtain ⟨rfl, _, rfl⟩ := he'
      obtain ⟨g', off', h3, _⟩ := hx (by simp)
      exact ⟨g', off', h3⟩
    rw [List.length_cons] at hn
    have hmm : n ≤ 9223372036854775807 := by rw [List.length_cons] at hm'; omega
    by_cases h8 : 8 < b.toNat
    · have hN : NumR (b :: t) = .tuple #[.int .i64 0, .int .i64 0, .int .i64 11] := by
        unfold NumR
        simp only [numR]
        rw [if_pos h8]
        rfl
      rw [hN]
      obtain ⟨g0, o0, he0, _, _, hc0⟩ := H.flat_at (show (b :: t)[0]? = some b from rfl)
      simp only [Option.some.injEq, Addr.mk.injEq, and_true] at he0
      obtain ⟨rfl, rfl⟩ := he0
      have d0 := hc0 0 _ rfl
      simp only [Nat.add_zero, Nat.zero_mul] at d0
      have q0 : (8 : Int) < (b.toNat : Int) := by omega
      have qb := wrap_small b.toNat_lt
      have qn' : ((n : Int) == 0) = false := by simp; omega
      have qp : (0 : Int) < (n : Int) := by omega
      clear H hN hc' hm' hc0 hn
      go_enter Try.func52, Try.ntmps52
      go_wp2_with fail
      go_ret3
      exact ⟨rfl, rfl⟩
    · by_cases hl : t.length < b.toNat
      · have hN : NumR (b :: t) = .tuple #[.int .i64 0, .int .i64 0, .int .i64 2] := by
          unfold NumR
          simp only [numR]
          rw [if_neg h8, if_pos hl]
          rfl
        rw [hN]
        obtain ⟨g0, o0, he0, _, _, hc0⟩ := H.flat_at (show (b :: t)[0]? = some b from rfl)
        simp only [Option.some.injEq, Addr.mk.injEq, and_true] at he0
        obtain ⟨rfl, rfl⟩ := he0
        have d0 := hc0 0 _ rfl
        simp only [Nat.add_zero, Nat.zero_mul] at d0
        have q0 : ¬ (8 : Int) < (b.toNat : Int) := by omega
        have q1 : (n : Int) < (b.toNat : Int) + 1 := by omega
        have qb := wrap_small b.toNat_lt
        have h8' : b.toNat ≤ 8 := by omega
        have qn' : ((n : Int) == 0) = false := by simp; omega
        have qp : (0 : Int) < (n : Int) := by omega
        clear H hN hc' hm' hc0 hn
        go_enter Try.func52, Try.ntmps52
        go_wp2_with fail
        go_ret3
        exact ⟨rfl, rfl⟩
      · exact numberR_read H (by omega) (by omega)

end Go.Proofs.Ytiebnjkjgobklaa
