/- Sessions: the small functions. -/
import Derived.Test.YtiebnjkjgobklaaProg
import Derived.Test.YtiebnjkjgobklaaS0
namespace Go.Proofs.Ytiebnjkjgobklaa
open Go.RowKit Go.TM

theorem dead_nil (w : World) : Calls Try.prog 38 #[.pointer none] w fun e w' => e = .returned (.bool true) ∧ w = w' := by
  go_enter Try.func38, Try.ntmps38
  go_wp2
  go_ret
  exact ⟨rfl, rfl⟩
theorem dead_at (g : Nat) (w : World) (b : Bool) (h2 : w.cell? ⟨g, 2, none⟩ = some (.bool b)) : Calls Try.prog 38 #[.pointer (some ⟨g, 0, none⟩)] w fun e w' => e = .returned (.bool (!b)) ∧ w = w' := by
  go_enter Try.func38, Try.ntmps38
  go_wp2
  go_ret
  exact ⟨rfl, rfl⟩
theorem cmp48 (a b c d : Int) (n : Int) (w : World) : Calls Try.prog 48 #[.agg #[.int .i64 a, .int .i64 b, .int .i64 c, .int .i64 d], .int .i64 n] w fun e w' => e = .returned (.int .i64 (wrap64 (a - n))) ∧ Ext Non w w' := by
  go_enter Try.func48, Try.ntmps48
  go_wp2
  go_ret
  exact ⟨rfl, (Ext.refl _ _).alloc _⟩

def SearchPost (xs : List Seat) (n : Int) (w : World) (e : Ending) (w' : World) : Prop := ∃ i b, e = .returned (.tuple #[.int .i64 i, .bool b]) ∧ Found xs n i b ∧ Ext Non w w'

set_option maxHeartbeats 400000 in
theorem search (A : Option Addr) (c : Nat) (xs : List Seat) (last : Int) (HG : Good xs last) (w : World) (ok : Nat → Prop) (H : Rd seatK w ok (.slice A xs.length c) xs) (n : Int)
    (hn0 : -9223372036854775808 ≤ n) (hn : n ≤ 9223372036854775807) :
   Calls Try.prog 47 #[.slice A xs.length c, .int .i64 n, .func (.func 48) #[] #[]] w (SearchPost xs n w) := by
  have h8 := HG.few
  have H1 := Lib.hid H
  clear H
  go_enter Try.func47, Try.ntmps47
  go_wp2_with fail
  go_loopw [9, 10] (fun i j wr => ∃ a b : Int, Hid (Between xs n a b) ∧ i = .int .i64 a ∧ j = .int .i64 b ∧ Hid (Ext Non w wr)) (fun i j _ => (intOf j - intOf i).toNat)
  case atStart => exact ⟨0, xs.length, Between.start _ _, rfl, rfl, Ext.refl _ _⟩
  case round =>
    obtain ⟨a, b, HB, rfl, rfl, HE⟩ := hrel
    have ha := HB.out.1
    have hab := HB.out.2.1
    have hb := HB.out.2.2.1
    by_cases hlt : a < b
    · obtain ⟨g, off, s, rfl, hs, c0, c1, c2, c3⟩ := seat_at (H1.out.ext0 HE.out) ((a + b) / 2) (by omega) (by omega)
      have HS := Lib.hid hs
      clear hs
      go_wp2_with (go_at_call 48; refine (cmp48 _ _ _ _ _ _).mono ?_; rintro e w1 ⟨rfl, he1⟩; have HE1 := Lib.hid he1; clear he1)
      · go_roundw
        case rel => exact ⟨_, _, HB.out.up HG hlt hn HS.out (by assumption), rfl, rfl, HE.out.trans0 HE1.out⟩
        case measure => simp [intOf]; omega
      · go_roundw
        case rel => exact ⟨_, _, HB.out.down HG hlt hn HS.out (by assumption), rfl, rfl, HE.out.trans0 HE1.out⟩
        case measure => simp [intOf]; omega
    · obtain rfl : a = b := by omega
      by_cases hlen : a < xs.length
      · obtain ⟨g, off, s, rfl, hs, c0, c1, c2, c3⟩ := seat_at (H1.out.ext0 HE.out) a ha hlen
        have HS := Lib.hid hs
        clear hs
        go_wp2_with (go_at_call 48; refine (cmp48 _ _ _ _ _ _).mono ?_; rintro e w1 ⟨rfl, he1⟩; have HE1 := Lib.hid he1; clear he1)
        go_ret2
        exact ⟨_, _, rfl, HB.out.found HG hn0 hn HS.out, HE.out.trans0 HE1.out⟩
      · go_wp2_with fail
        go_ret2
        exact ⟨_, _, rfl, HB.out.none HG (by omega), HE.out⟩
end Go.Proofs.Ytiebnjkjgobklaa
