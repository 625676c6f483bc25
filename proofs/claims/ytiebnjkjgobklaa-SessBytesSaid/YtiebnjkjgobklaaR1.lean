/- Sessions, the document's table: place, Ask, Same. -/
import Derived.Test.YtiebnjkjgobklaaS8
namespace Go.Proofs.Ytiebnjkjgobklaa
open Go.RowKit Go.TM

def RefAt (w : World) (ok : Nat → Prop) (g : Nat) (t : Tab) : Prop :=
  ∃ v, w.heap[g]? = some (.cells #[.int .i64 t.last, v] 40 (0, 0)) ∧ Rd seatK w ok v t.seats
theorem RefAt.ext {w w' : World} {ok : Nat → Prop} {g : Nat} {t : Tab} (h : RefAt w ok g t) (he : Ext Non w w') : RefAt w' ok g t := by
  obtain ⟨v, hb, hr⟩ := h
  exact ⟨v, he.obj hb (fun e => e), hr.ext0 he⟩
theorem RefAt.only {w w' : World} {ok : Nat → Prop} {g q : Nat} {t : Tab} (h : RefAt w ok g t) (he : Ext (Only q) w w') (hq : ¬ ok q) (hne : g ≠ q) : RefAt w' ok g t := by
  obtain ⟨v, hb, hr⟩ := h
  exact ⟨v, he.obj hb hne, hr.ext he (fun k hk _ e => hq (e ▸ hk))⟩

def PlacePost (l : List Seat) (n : Int) (w : World) (e : Ending) (w' : World) : Prop :=
  ∃ i : Int, e = .returned (.int .i64 i) ∧ Ext Non w w' ∧ ((∃ (k : Nat) (s : Seat), i = (k : Int) ∧ l[k]? = some s ∧ s.ses = n) ∨ (i = -1 ∧ ∀ s ∈ l, s.ses ≠ n))

set_option maxHeartbeats 400000 in
theorem place_calls {w : World} {ok : Nat → Prop} {g : Nat} {t : Tab} (hT : RefAt w ok g t) (h8 : t.seats.length ≤ 8) (n : Int) :
    Calls Try.prog 37 #[.pointer (some ⟨g, 0, none⟩), .int .i64 n] w (PlacePost t.seats n w) := by
  obtain ⟨v, hb, hr⟩ := hT
  obtain ⟨A, c, rfl, hc, hm⟩ := hr.slice
  have c1 := blk_cell hb 1
  simp at c1
  have HR := Lib.hid hr
  clear hb hr
  go_enter Try.func37, Try.ntmps37
  go_wp2_with fail
  go_loopw [12] (fun i wr => ∃ j : Nat, i = .int .i64 (j : Int) ∧ j ≤ t.seats.length ∧ Hid (∀ (k : Nat) s, k < j → t.seats[k]? = some s → s.ses ≠ n) ∧ Hid (Ext Non w wr)) (fun i _ => (t.seats.length - intOf i).toNat)
  case atStart => exact ⟨0, rfl, by omega, fun k s h => absurd h (Nat.not_lt_zero k), Ext.refl _ _⟩
  case round =>
    obtain ⟨j, rfl, hj, HN, HE⟩ := hrel
    by_cases hlt : j < t.seats.length
    · have hs : t.seats[j]? = some (t.seats[j]) := List.getElem?_eq_getElem hlt
      generalize t.seats[j] = s at hs
      obtain ⟨gs, off, rfl, hgs, d0, d1, d2, d3⟩ := seat_nat (HR.out.ext0 HE.out) hs
      have q0 : (j : Int) < (t.seats.length : Int) := by omega
      have q1 : (0 : Int) ≤ (j : Int) := by omega
      have HS := Lib.hid hs
      clear hs
      by_cases hn : s.ses = n
      · have hd : (s.ses == n) = true := by simpa using hn
        go_wp2_with fail
        go_ret
        refine ⟨j, rfl, ?_, .inl ⟨j, s, rfl, HS.out, hn⟩⟩
        repeat (first | exact HE.out | refine Ext.alloc ?_ _ | refine Ext.setNew ?_ (HE.out.size) _)
      · have hd : (s.ses == n) = false := by simpa using hn
        have HNN := Lib.hid hn
        clear hn
        go_wp2_with fail
        go_roundw
        case rel =>
          refine ⟨j + 1, by simp, by omega, fun k s' hk hs' => ?_, ?_⟩
          · rcases Nat.lt_or_ge k j with h | h
            · exact HN.out k s' h hs'
            · have : k = j := by omega
              subst this
              rw [HS.out] at hs'
              cases hs'
              exact HNN.out
          · repeat (first | exact HE.out | refine Ext.alloc ?_ _ | refine Ext.setNew ?_ (HE.out.size) _)
        case measure => simp [intOf]; omega
    · have q0 : ¬ (j : Int) < (t.seats.length : Int) := by omega
      go_wp2_with fail
      go_ret
      refine ⟨-1, rfl, HE.out, .inr ⟨rfl, fun s hs => ?_⟩⟩
      obtain ⟨k, hk⟩ := List.getElem?_of_mem hs
      have := (List.getElem?_eq_some_iff.1 hk).1
      exact HN.out k s (by omega) hk
end Go.Proofs.Ytiebnjkjgobklaa
