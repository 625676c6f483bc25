/- Texts, rune by rune. Texts: all of their runes. Texts: Key, Name, Value of the program. -/
import Derived.Test.YtooafilbmjnfmaaFA
import Derived.WalkKit
import Derived.Laws.RangeString
import Derived.Laws.RangeAny
namespace Go.Proofs.Ytooafilbmjnfmaa
open Go.RowKit Go.TM

def isPlain (r : Int) : Bool := decide (32 ≤ r) && (r != 127) && (r != 65533)
def isLetter (r : Int) : Bool := decide (97 ≤ r) && decide (r ≤ 122)
theorem plain_calls (w : World) (r : Int) : Calls Try.prog 76 #[.int .i32 r] w fun e w' => e = .returned (.bool (isPlain r)) ∧ w = w' := by
  by_cases h1 : 32 ≤ r
  · by_cases h2 : r = 127
    · subst h2
      go_enter Try.func76, Try.ntmps76
      go_wp2_with fail
      go_ret
      exact ⟨rfl, rfl⟩
    · have q2 : (r != 127) = true := by simpa using h2
      have hr : isPlain r = (r != 65533) := by unfold isPlain; rw [decide_eq_true h1, q2]; rfl
      rw [hr]
      go_enter Try.func76, Try.ntmps76
      go_wp2_with fail
      go_ret
      exact ⟨rfl, rfl⟩
  · have hr : isPlain r = false := by unfold isPlain; rw [decide_eq_false h1]; rfl
    rw [hr]
    go_enter Try.func76, Try.ntmps76
    go_wp2_with fail
    go_ret
    exact ⟨rfl, rfl⟩
theorem plainR_calls (w : World) (r : Int) : Calls Try.prog 80 #[.int .i32 r] w fun e w' => e = .returned (.bool (isPlain r)) ∧ w = w' := by
  by_cases h1 : 31 < r
  · by_cases h2 : r = 127
    · subst h2
      go_enter Try.func80, Try.ntmps80
      go_wp2_with fail
      go_ret
      exact ⟨rfl, rfl⟩
    · have q2 : (r != 127) = true := by simpa using h2
      have hr : isPlain r = (r != 65533) := by unfold isPlain; rw [decide_eq_true (by omega), q2]; rfl
      rw [hr]
      go_enter Try.func80, Try.ntmps80
      go_wp2_with fail
      go_ret
      exact ⟨rfl, rfl⟩
  · have hr : isPlain r = false := by unfold isPlain; rw [decide_eq_false (by omega)]; rfl
    rw [hr]
    go_enter Try.func80, Try.ntmps80
    go_wp2_with fail
    go_ret
    exact ⟨rfl, rfl⟩
theorem letter_calls (w : World) (r : Int) : Calls Try.prog 77 #[.int .i32 r] w fun e w' => e = .returned (.bool (isLetter r)) ∧ w = w' := by
  by_cases h1 : 97 ≤ r
  · have hr : isLetter r = decide (r ≤ 122) := by unfold isLetter; rw [decide_eq_true h1]; rfl
    rw [hr]
    go_enter Try.func77, Try.ntmps77
    go_wp2_with fail
    go_ret
    exact ⟨rfl, rfl⟩
  · have hr : isLetter r = false := by unfold isLetter; rw [decide_eq_false h1]; rfl
    rw [hr]
    go_enter Try.func77, Try.ntmps77
    go_wp2_with fail
    go_ret
    exact ⟨rfl, rfl⟩
end Go.Proofs.Ytooafilbmjnfmaa

namespace Go.Proofs.Ytooafilbmjnfmaa
open Go.RowKit Go.TM

/-- The runes from a place on. -/
def runesFrom (s : ByteArray) : Nat → Nat → List Int
  | 0, _ => []
  | b + 1, pos => if pos < s.size then ((Utf8.decode s pos).1 : Int) :: runesFrom s b (pos + (Utf8.decode s pos).2) else []
def runes (s : ByteArray) : List Int := runesFrom s s.size 0
theorem runes_end (s : ByteArray) (b pos : Nat) (h : ¬ pos < s.size) : runesFrom s b pos = [] := by
  cases b with
  | zero => rfl
  | succ b => simp [runesFrom, h]
theorem width_pos (s : ByteArray) (pos : Nat) (h : pos < s.size) : 1 ≤ (Utf8.decode s pos).2 := by
  by_cases ha : (s[pos]'h).toNat < 128
  · rw [decode_ascii s pos h ha]
    exact Nat.le_refl _
  · exact (decode_high s pos h (by omega)).2
/-- At least so many runes, at most so many, each of a kind. -/
def allOf (p : Int → Bool) (least most : Int) (l : List Int) : Bool := decide (least ≤ l.length) && decide ((l.length : Int) ≤ most) && l.all p
theorem all_plain (w : World) (s : ByteArray) (least most : Int) (hm : 0 ≤ most) (hm2 : most ≤ 1000) :
    Calls Try.prog 75 #[.string s, .int .i64 least, .int .i64 most, .func (.func 76) #[] #[]] w fun e w' => e = .returned (.bool (allOf isPlain least most (runes s))) ∧ Ext Non w w' := by
  go_enter Try.func75, Try.ntmps75
  go_wp2_with fail
  go_loopw [9] (fun n w' => ∃ (pos b : Nat) (seen : List Int), w' = w.iter s pos ∧ n = .int .i64 (seen.length : Int) ∧ Hid (runes s = seen ++ runesFrom s b pos) ∧ Hid (seen.all isPlain = true) ∧ (seen.length : Int) ≤ most ∧ s.size ≤ pos + b) (fun _ w' => s.size - w'.iterPos w.heap.size)
  case atStart => exact ⟨0, s.size, [], rfl, rfl, rfl, rfl, hm, by omega⟩
  case round =>
    obtain ⟨pos, b, seen, rfl, rfl, HS, HA, hk, hb⟩ := hrel
    have HE : Hid (∀ q, Ext Non w (w.iter s q)) := fun q => (Ext.refl Non w).alloc _
    by_cases hpos : pos < s.size
    · have hnx : ∀ ty, (Instr.next (.pointer (some ⟨w.heap.size, 0, none⟩)) true ty).run Try.prog (w.iter s pos) = _ := fun ty => run_next_any w s pos ty hpos
      have hwd := width_pos s pos hpos
      obtain ⟨b', rfl⟩ : ∃ b', b = b' + 1 := ⟨b - 1, by omega⟩
      have HS2 : Hid (runes s = (seen ++ [((Utf8.decode s pos).1 : Int)]) ++ runesFrom s b' (pos + (Utf8.decode s pos).2)) := by
        show runes s = _
        rw [HS.out]
        simp [runesFrom, hpos]
      by_cases hbig : most < (seen.length : Int) + 1
      · have hr : Hid (allOf isPlain least most (runes s) = false) := by
          show allOf isPlain least most (runes s) = false
          unfold allOf
          rw [HS2.out, decide_eq_false (p := ((_ : List Int).length : Int) ≤ most) (by simp; omega)]
          simp
        go_wp2_with fail
        go_ret
        exact ⟨by rw [hr.out]; rfl, HE.out _⟩
      · go_wp2_with fail
        refine (plain_calls _ _).mono ?_
        rintro e w5 ⟨rfl, rfl⟩
        cases hq : isPlain ((Utf8.decode s pos).1 : Int) with
        | false =>
          have hr : Hid (allOf isPlain least most (runes s) = false) := by
            show allOf isPlain least most (runes s) = false
            unfold allOf
            rw [HS2.out]
            simp [hq]
          go_wp2_with fail
          go_ret
          exact ⟨by rw [hr.out]; rfl, HE.out _⟩
        | true =>
          go_wp2_with fail
          go_roundw
          case rel => exact ⟨pos + (Utf8.decode s pos).2, b', seen ++ [((Utf8.decode s pos).1 : Int)], rfl, by simp, HS2.out, by have := HA.out; simp [Hid, hq]; simpa using this, by simp; omega, by omega⟩
          case measure => simp; omega
    · have hnx : ∀ ty, (Instr.next (.pointer (some ⟨w.heap.size, 0, none⟩)) true ty).run Try.prog (w.iter s pos) = _ := fun ty => run_next_end w s pos ty hpos
      have hr : Hid (allOf isPlain least most (runes s) = decide (least ≤ (seen.length : Int))) := by
        show allOf isPlain least most (runes s) = _
        unfold allOf
        rw [HS.out, runes_end s b pos hpos, List.append_nil, HA.out, decide_eq_true hk]
        simp
      go_wp2_with fail
      go_ret
      exact ⟨by rw [hr.out]; rfl, HE.out _⟩
theorem all_letter (w : World) (s : ByteArray) (least most : Int) (hm : 0 ≤ most) (hm2 : most ≤ 1000) :
    Calls Try.prog 75 #[.string s, .int .i64 least, .int .i64 most, .func (.func 77) #[] #[]] w fun e w' => e = .returned (.bool (allOf isLetter least most (runes s))) ∧ Ext Non w w' := by
  go_enter Try.func75, Try.ntmps75
  go_wp2_with fail
  go_loopw [9] (fun n w' => ∃ (pos b : Nat) (seen : List Int), w' = w.iter s pos ∧ n = .int .i64 (seen.length : Int) ∧ Hid (runes s = seen ++ runesFrom s b pos) ∧ Hid (seen.all isLetter = true) ∧ (seen.length : Int) ≤ most ∧ s.size ≤ pos + b) (fun _ w' => s.size - w'.iterPos w.heap.size)
  case atStart => exact ⟨0, s.size, [], rfl, rfl, rfl, rfl, hm, by omega⟩
  case round =>
    obtain ⟨pos, b, seen, rfl, rfl, HS, HA, hk, hb⟩ := hrel
    have HE : Hid (∀ q, Ext Non w (w.iter s q)) := fun q => (Ext.refl Non w).alloc _
    by_cases hpos : pos < s.size
    · have hnx : ∀ ty, (Instr.next (.pointer (some ⟨w.heap.size, 0, none⟩)) true ty).run Try.prog (w.iter s pos) = _ := fun ty => run_next_any w s pos ty hpos
      have hwd := width_pos s pos hpos
      obtain ⟨b', rfl⟩ : ∃ b', b = b' + 1 := ⟨b - 1, by omega⟩
      have HS2 : Hid (runes s = (seen ++ [((Utf8.decode s pos).1 : Int)]) ++ runesFrom s b' (pos + (Utf8.decode s pos).2)) := by
        show runes s = _
        rw [HS.out]
        simp [runesFrom, hpos]
      by_cases hbig : most < (seen.length : Int) + 1
      · have hr : Hid (allOf isLetter least most (runes s) = false) := by
          show allOf isLetter least most (runes s) = false
          unfold allOf
          rw [HS2.out, decide_eq_false (p := ((_ : List Int).length : Int) ≤ most) (by simp; omega)]
          simp
        go_wp2_with fail
        go_ret
        exact ⟨by rw [hr.out]; rfl, HE.out _⟩
      · go_wp2_with fail
        refine (letter_calls _ _).mono ?_
        rintro e w5 ⟨rfl, rfl⟩
        cases hq : isLetter ((Utf8.decode s pos).1 : Int) with
        | false =>
          have hr : Hid (allOf isLetter least most (runes s) = false) := by
            show allOf isLetter least most (runes s) = false
            unfold allOf
            rw [HS2.out]
            simp [hq]
          go_wp2_with fail
          go_ret
          exact ⟨by rw [hr.out]; rfl, HE.out _⟩
        | true =>
          go_wp2_with fail
          go_roundw
          case rel => exact ⟨pos + (Utf8.decode s pos).2, b', seen ++ [((Utf8.decode s pos).1 : Int)], rfl, by simp, HS2.out, by have := HA.out; simp [Hid, hq]; simpa using this, by simp; omega, by omega⟩
          case measure => simp; omega
    · have hnx : ∀ ty, (Instr.next (.pointer (some ⟨w.heap.size, 0, none⟩)) true ty).run Try.prog (w.iter s pos) = _ := fun ty => run_next_end w s pos ty hpos
      have hr : Hid (allOf isLetter least most (runes s) = decide (least ≤ (seen.length : Int))) := by
        show allOf isLetter least most (runes s) = _
        unfold allOf
        rw [HS.out, runes_end s b pos hpos, List.append_nil, HA.out, decide_eq_true hk]
        simp
      go_wp2_with fail
      go_ret
      exact ⟨by rw [hr.out]; rfl, HE.out _⟩
end Go.Proofs.Ytooafilbmjnfmaa

namespace Go.Proofs.Ytooafilbmjnfmaa
open Go.RowKit Go.TM

def keyE (s : ByteArray) : Int := if allOf isPlain 1 24 (runes s) = true then 0 else 20
def nameE (s : ByteArray) : Int := if allOf isLetter 1 8 (runes s) = true then 0 else 22
def valE (s : ByteArray) : Int := if allOf isPlain 0 48 (runes s) = true then 0 else 21
theorem Key_calls (w : World) (s : ByteArray) : Calls Try.prog 64 #[.string s] w fun e w' => e = .returned (.int .i64 (keyE s)) ∧ Ext Non w w' := by
  obtain ⟨b, hb⟩ : ∃ b, allOf isPlain 1 24 (runes s) = b := ⟨_, rfl⟩
  have HB := Lib.hid hb
  cases b with
  | true =>
    have hk : Hid (keyE s = 0) := if_pos hb
    clear hb
    go_enter Try.func64, Try.ntmps64
    go_wp2_with fail
    refine (all_plain w s 1 24 (by omega) (by omega)).mono ?_
    rw [HB.out]
    rintro e w1 ⟨rfl, he⟩
    have E1 := Lib.hid he
    clear he
    go_wp2_with fail
    go_ret
    exact ⟨by rw [hk.out]; rfl, E1.out⟩
  | false =>
    have hk : Hid (keyE s = 20) := if_neg (by rw [hb]; simp)
    clear hb
    go_enter Try.func64, Try.ntmps64
    go_wp2_with fail
    refine (all_plain w s 1 24 (by omega) (by omega)).mono ?_
    rw [HB.out]
    rintro e w1 ⟨rfl, he⟩
    have E1 := Lib.hid he
    clear he
    go_wp2_with fail
    go_ret
    exact ⟨by rw [hk.out]; rfl, E1.out⟩
theorem Name_calls (w : World) (s : ByteArray) : Calls Try.prog 65 #[.string s] w fun e w' => e = .returned (.int .i64 (nameE s)) ∧ Ext Non w w' := by
  obtain ⟨b, hb⟩ : ∃ b, allOf isLetter 1 8 (runes s) = b := ⟨_, rfl⟩
  have HB := Lib.hid hb
  cases b with
  | true =>
    have hk : Hid (nameE s = 0) := if_pos hb
    clear hb
    go_enter Try.func65, Try.ntmps65
    go_wp2_with fail
    refine (all_letter w s 1 8 (by omega) (by omega)).mono ?_
    rw [HB.out]
    rintro e w1 ⟨rfl, he⟩
    have E1 := Lib.hid he
    clear he
    go_wp2_with fail
    go_ret
    exact ⟨by rw [hk.out]; rfl, E1.out⟩
  | false =>
    have hk : Hid (nameE s = 22) := if_neg (by rw [hb]; simp)
    clear hb
    go_enter Try.func65, Try.ntmps65
    go_wp2_with fail
    refine (all_letter w s 1 8 (by omega) (by omega)).mono ?_
    rw [HB.out]
    rintro e w1 ⟨rfl, he⟩
    have E1 := Lib.hid he
    clear he
    go_wp2_with fail
    go_ret
    exact ⟨by rw [hk.out]; rfl, E1.out⟩
theorem Value_calls (w : World) (s : ByteArray) : Calls Try.prog 66 #[.string s] w fun e w' => e = .returned (.int .i64 (valE s)) ∧ Ext Non w w' := by
  obtain ⟨b, hb⟩ : ∃ b, allOf isPlain 0 48 (runes s) = b := ⟨_, rfl⟩
  have HB := Lib.hid hb
  cases b with
  | true =>
    have hk : Hid (valE s = 0) := if_pos hb
    clear hb
    go_enter Try.func66, Try.ntmps66
    go_wp2_with fail
    refine (all_plain w s 0 48 (by omega) (by omega)).mono ?_
    rw [HB.out]
    rintro e w1 ⟨rfl, he⟩
    have E1 := Lib.hid he
    clear he
    go_wp2_with fail
    go_ret
    exact ⟨by rw [hk.out]; rfl, E1.out⟩
  | false =>
    have hk : Hid (valE s = 21) := if_neg (by rw [hb]; simp)
    clear hb
    go_enter Try.func66, Try.ntmps66
    go_wp2_with fail
    refine (all_plain w s 0 48 (by omega) (by omega)).mono ?_
    rw [HB.out]
    rintro e w1 ⟨rfl, he⟩
    have E1 := Lib.hid he
    clear he
    go_wp2_with fail
    go_ret
    exact ⟨by rw [hk.out]; rfl, E1.out⟩
end Go.Proofs.Ytooafilbmjnfmaa

