/- Sessions, slices.Equal. -/
import Derived.Test.YtiebnjkjgobklaaB6
namespace Go.Proofs.Ytiebnjkjgobklaa
open Go.RowKit Go.TM

set_option maxHeartbeats 400000 in
theorem Equal_eq {w : World} {ok ok2 : Nat → Prop} {A B : Option Addr} {c d : Nat} {xs : List Seat} (hr : Rd seatK w ok (.slice A xs.length c) xs) (hs : Rd seatK w ok2 (.slice B xs.length d) xs) (h8 : xs.length ≤ 8) :
    Calls Try.prog 28 #[.slice A xs.length c, .slice B xs.length d] w fun e w' => e = .returned (.bool true) ∧ Ext Non w w' := by
  have H1 := Lib.hid hr
  have H2 := Lib.hid hs
  clear hr hs
  go_enter Try.func28, Try.ntmps28
  go_wp2_with fail
  go_loopw [13] (fun i wr => ∃ j : Nat, i = .int .i64 (j : Int) ∧ j ≤ xs.length ∧ Hid (Ext Non w wr)) (fun i _ => (xs.length - intOf i).toNat)
  case atStart => exact ⟨0, rfl, by omega, Ext.refl _ _⟩
  case round =>
    obtain ⟨j, rfl, hj, HE⟩ := hrel
    by_cases hlt : j < xs.length
    · have hs : xs[j]? = some (xs[j]) := List.getElem?_eq_getElem hlt
      generalize xs[j] = s at hs
      obtain ⟨gs, off, rfl, hgs, d0, d1, d2, d3⟩ := seat_nat (H1.out.ext0 HE.out) hs
      obtain ⟨gs', off', rfl, hgs', d0', d1', d2', d3'⟩ := seat_nat (H2.out.ext0 HE.out) hs
      have q0 : (j : Int) < (xs.length : Int) := by omega
      have q1 : (0 : Int) ≤ (j : Int) := by omega
      clear hs
      go_wp2_with fail
      go_region
      go_wp2_with fail
      go_roundw
      case rel =>
        refine ⟨j + 1, by simp, by omega, ?_⟩
        · repeat (first | exact HE.out | refine Ext.drew ?_ | refine Ext.alloc ?_ _ | refine Ext.setNew ?_ (HE.out.size) _)
      case measure => simp [intOf]; omega
    · have q0 : ¬ (j : Int) < (xs.length : Int) := by omega
      go_wp2_with fail
      go_ret
      exact ⟨rfl, HE.out⟩
end Go.Proofs.Ytiebnjkjgobklaa
