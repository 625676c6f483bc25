/- Sessions: the plain words, with no program in sight. -/
import Derived.Test.YtiebnjkjgobklaaBase
namespace Go.Proofs.Ytiebnjkjgobklaa
open Go.RowKit Go.TM

structure Seat where
  ses : Int
  seq : Int
  err : Int
  n : Int
def Seat.cells (s : Seat) : List Value := [.int .i64 s.ses, .int .i64 s.seq, .int .i64 s.err, .int .i64 s.n]
def seatK : Kd Seat := Kd.flat 4 Seat.cells (fun _ => rfl) (by simp [Value.oneCell', Seat.cells])

/-- Sessions by rising numbers, between 1 and the last one that was begun. -/
structure Good (l : List Seat) (last : Int) : Prop where
  rising : l.Pairwise (fun a b => a.ses < b.ses)
  low : ∀ s ∈ l, 1 ≤ s.ses
  high : ∀ s ∈ l, s.ses ≤ last
  last0 : 0 ≤ last
  last1 : last ≤ 1099511627776
  few : l.length ≤ 8
  seq0 : ∀ s ∈ l, 0 ≤ s.seq
  seq1 : ∀ s ∈ l, s.seq ≤ 9223372036854775807

theorem Good.get {l : List Seat} {last : Int} (h : Good l last) {j : Nat} {s : Seat} (hs : l[j]? = some s) : 1 ≤ s.ses ∧ s.ses ≤ last ∧ 0 ≤ s.seq ∧ s.seq ≤ 9223372036854775807 := by
  have hm := List.mem_of_getElem? hs
  exact ⟨h.low s hm, h.high s hm, h.seq0 s hm, h.seq1 s hm⟩

theorem Good.lt {l : List Seat} {last : Int} (h : Good l last) {i j : Nat} {s t : Seat} (hs : l[i]? = some s) (ht : l[j]? = some t) (hij : i < j) : s.ses < t.ses := by
  have := List.pairwise_iff_getElem.1 h.rising
  obtain ⟨hi, rfl⟩ := List.getElem?_eq_some_iff.1 hs
  obtain ⟨hj, rfl⟩ := List.getElem?_eq_some_iff.1 ht
  exact this i j hi hj hij

/-- What the search tells. -/
def Found (l : List Seat) (n i : Int) : Bool → Prop
  | true => 0 ≤ i ∧ ∃ s, l[i.toNat]? = some s ∧ s.ses = n
  | false => ∀ s ∈ l, s.ses ≠ n

/-- The search's state: what lies ahead of a is less, what lies from b on is not. -/
def Between (l : List Seat) (n a b : Int) : Prop :=
  0 ≤ a ∧ a ≤ b ∧ b ≤ l.length ∧ (0 ≤ n → ∀ (k : Nat) s, l[k]? = some s → ((k : Int) < a → s.ses < n) ∧ (b ≤ (k : Int) → n ≤ s.ses))

theorem Between.start (l : List Seat) (n : Int) : Between l n 0 l.length :=
  ⟨by omega, by omega, by omega, fun _ k s h => ⟨fun h' => by omega, fun h' => by have := (List.getElem?_eq_some_iff.1 h).1; omega⟩⟩

theorem wrap_sub {s n : Int} (h1 : 1 ≤ s) (h2 : s ≤ 1099511627776) (h3 : 0 ≤ n) (h4 : n ≤ 9223372036854775807) : wrap64 (s - n) = s - n := by
  unfold wrap64; omega

theorem wrap_zero {s n : Int} (h1 : 1 ≤ s) (h2 : s ≤ 1099511627776) (h3 : -9223372036854775808 ≤ n) (h4 : n ≤ 9223372036854775807) : wrap64 (s - n) = 0 ↔ s = n := by
  unfold wrap64; omega

theorem Between.up {l : List Seat} {last n a b : Int} {s : Seat} (hg : Good l last) (h : Between l n a b) (hab : a < b) (hn : n ≤ 9223372036854775807) (hs : l[((a + b) / 2).toNat]? = some s) (hc : wrap64 (s.ses - n) < 0) : Between l n ((a + b) / 2 + 1) b := by
  obtain ⟨h0, h1, h2, h3⟩ := h
  refine ⟨by omega, by omega, h2, fun hn0 k t ht => ⟨fun hk => ?_, (h3 hn0 k t ht).2⟩⟩
  have hs1 := hg.get hs
  have hl := hg.last1
  rw [wrap_sub hs1.1 (by omega) hn0 hn] at hc
  rcases Nat.lt_or_ge k ((a + b) / 2).toNat with hlt | hge
  · have := hg.lt ht hs hlt
    omega
  · have : k = ((a + b) / 2).toNat := by omega
    subst this
    rw [hs] at ht
    cases ht
    omega

theorem Between.down {l : List Seat} {last n a b : Int} {s : Seat} (hg : Good l last) (h : Between l n a b) (hab : a < b) (hn : n ≤ 9223372036854775807) (hs : l[((a + b) / 2).toNat]? = some s) (hc : 0 ≤ wrap64 (s.ses - n)) : Between l n a ((a + b) / 2) := by
  obtain ⟨h0, h1, h2, h3⟩ := h
  refine ⟨by omega, by omega, by omega, fun hn0 k t ht => ⟨(h3 hn0 k t ht).1, fun hk => ?_⟩⟩
  have hs1 := hg.get hs
  have hl := hg.last1
  rw [wrap_sub hs1.1 (by omega) hn0 hn] at hc
  rcases Nat.lt_or_ge ((a + b) / 2).toNat k with hlt | hge
  · have := hg.lt hs ht hlt
    omega
  · have : k = ((a + b) / 2).toNat := by omega
    subst this
    rw [hs] at ht
    cases ht
    omega

theorem Between.found {l : List Seat} {last n a : Int} {s : Seat} (hg : Good l last) (h : Between l n a a) (hn0 : -9223372036854775808 ≤ n) (hn : n ≤ 9223372036854775807) (hs : l[a.toNat]? = some s) : Found l n a (wrap64 (s.ses - n) == 0) := by
  obtain ⟨h0, h1, h2, h3⟩ := h
  have hs1 := hg.get hs
  have hl := hg.last1
  have hz := wrap_zero (s := s.ses) (n := n) hs1.1 (by omega) hn0 hn
  by_cases hc : s.ses = n
  · rw [show (wrap64 (s.ses - n) == 0) = true from beq_iff_eq.2 (hz.2 hc)]
    exact ⟨h0, s, hs, hc⟩
  · rw [show (wrap64 (s.ses - n) == 0) = false from beq_eq_false_iff_ne.2 (fun e => hc (hz.1 e))]
    intro t ht e
    obtain ⟨k, hk⟩ := List.getElem?_of_mem ht
    have ht1 := hg.get hk
    have h4 := h3 (by omega) k t hk
    have hka : (k : Int) = a ∨ a < k := by
      rcases Int.lt_trichotomy (k : Int) a with h5 | h5 | h5
      · have := h4.1 h5
        omega
      · exact .inl h5
      · exact .inr h5
    rcases hka with h5 | h5
    · have : k = a.toNat := by omega
      subst this
      rw [hs] at hk
      cases hk
      exact hc e
    · have h6 := hg.lt hs hk (by omega)
      have h7 := (h3 (by omega) a.toNat s hs).2 (by omega)
      omega

theorem Between.none {l : List Seat} {last n a : Int} (hg : Good l last) (h : Between l n a a) (ha : (l.length : Int) ≤ a) : Found l n a false := by
  obtain ⟨h0, h1, h2, h3⟩ := h
  intro t ht e
  obtain ⟨k, hk⟩ := List.getElem?_of_mem ht
  have ht1 := hg.get hk
  have hk' := (List.getElem?_eq_some_iff.1 hk).1
  have := (h3 (by omega) k t hk).1 (by omega)
  omega

/-- An element of a row of seats, cell by cell. -/
theorem seat_at {w : World} {ok : Nat → Prop} {A : Option Addr} {c : Nat} {xs : List Seat} (h : Rd seatK w ok (.slice A xs.length c) xs) (i : Int) (h0 : 0 ≤ i) (h1 : i < xs.length) :
    ∃ g off s, A = some ⟨g, off, none⟩ ∧ xs[i.toNat]? = some s ∧ w.cell? ⟨g, off + i.toNat * 4, none⟩ = some (.int .i64 s.ses) ∧ w.cell? ⟨g, off + i.toNat * 4 + 1, none⟩ = some (.int .i64 s.seq) ∧
      w.cell? ⟨g, off + i.toNat * 4 + 2, none⟩ = some (.int .i64 s.err) ∧ w.cell? ⟨g, off + i.toNat * 4 + 3, none⟩ = some (.int .i64 s.n) := by
  obtain ⟨A', c', he, hc, hm, hr⟩ := h
  simp only [Value.slice.injEq] at he
  obtain ⟨rfl, _, rfl⟩ := he
  obtain ⟨g, off, rfl, hg, hlt, hx⟩ := hr (by omega)
  have hs : xs[i.toNat]? = some (xs[i.toNat]'(by omega)) := List.getElem?_eq_getElem (by omega)
  obtain ⟨cs, hk, hcs⟩ := hx _ _ hs
  have hk' : cs = Seat.cells _ := hk
  subst hk'
  refine ⟨g, off, _, rfl, hs, hcs 0 _ rfl, ?_, ?_, ?_⟩
  · exact hcs 1 _ rfl
  · exact hcs 2 _ rfl
  · exact hcs 3 _ rfl
theorem seat_nat {w : World} {ok : Nat → Prop} {A : Option Addr} {c : Nat} {xs : List Seat} (h : Rd seatK w ok (.slice A xs.length c) xs) {k : Nat} {s : Seat} (hs : xs[k]? = some s) :
    ∃ g off, A = some ⟨g, off, none⟩ ∧ ok g ∧ w.cell? ⟨g, off + k * 4, none⟩ = some (.int .i64 s.ses) ∧ w.cell? ⟨g, off + k * 4 + 1, none⟩ = some (.int .i64 s.seq) ∧
      w.cell? ⟨g, off + k * 4 + 2, none⟩ = some (.int .i64 s.err) ∧ w.cell? ⟨g, off + k * 4 + 3, none⟩ = some (.int .i64 s.n) := by
  obtain ⟨A', c', he, hc, hm, hr⟩ := h
  simp only [Value.slice.injEq] at he
  obtain ⟨rfl, _, rfl⟩ := he
  have hlt := (List.getElem?_eq_some_iff.1 hs).1
  obtain ⟨g, off, rfl, hg, _, hx⟩ := hr (by omega)
  obtain ⟨cs, hk, hcs⟩ := hx _ _ hs
  have hk' : cs = Seat.cells _ := hk
  subst hk'
  exact ⟨g, off, rfl, hg, hcs 0 _ rfl, hcs 1 _ rfl, hcs 2 _ rfl, hcs 3 _ rfl⟩
end Go.Proofs.Ytiebnjkjgobklaa
