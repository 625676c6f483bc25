/- Texts: the document's Key, Value; Name, byte by byte. Texts: the document's Key, Value, Name. -/
import Derived.Test.YtooafilbmjnfmaaFC
namespace Go.Proofs.Ytooafilbmjnfmaa
open Go.RowKit Go.TM

def letB (x : UInt8) : Bool := decide (97 ≤ x.toNat) && decide (x.toNat ≤ 122)
theorem size_list (s : ByteArray) : s.data.toList.length = s.size := Array.length_toList
/-- Letters: rune by rune and byte by byte are the same. -/
theorem letters (s : ByteArray) : ∀ (b pos : Nat), s.size ≤ pos + b → pos ≤ s.size →
    ((runesFrom s b pos).all isLetter = (s.data.toList.drop pos).all letB) ∧ ((runesFrom s b pos).all isLetter = true → (runesFrom s b pos).length = s.size - pos)
  | 0, pos, h, h2 => by
    have : pos = s.size := by omega
    subst this
    have e : s.data.toList.drop s.size = [] := List.drop_of_length_le (Nat.le_of_eq (size_list s))
    rw [e]
    simp [runesFrom]
  | b + 1, pos, h, h2 => by
    by_cases hp : pos < s.size
    · have hd : s.data.toList.drop pos = s[pos]'hp :: s.data.toList.drop (pos + 1) := by
        have hlt : pos < s.data.toList.length := by rw [size_list]; exact hp
        rw [List.drop_eq_getElem_cons hlt]
        rfl
      by_cases ha : (s[pos]'hp).toNat < 128
      · have hr : runesFrom s (b + 1) pos = ((s[pos]'hp).toNat : Int) :: runesFrom s b (pos + 1) := by
          conv => lhs; unfold runesFrom
          rw [if_pos hp, decode_ascii s pos hp ha]
        obtain ⟨i1, i2⟩ := letters s b (pos + 1) (by omega) (by omega)
        have hq : isLetter ((s[pos]'hp).toNat : Int) = letB (s[pos]'hp) := by
          unfold isLetter letB
          congr 1
          · exact decide_eq_decide.2 ⟨fun h => by omega, fun h => by omega⟩
          · exact decide_eq_decide.2 ⟨fun h => by omega, fun h => by omega⟩
        rw [hr, hd, List.all_cons, List.all_cons, i1, hq]
        refine ⟨rfl, fun h => ?_⟩
        rw [Bool.and_eq_true] at h
        rw [List.length_cons, i2 (by rw [i1]; exact h.2)]
        omega
      · have hh := decode_high s pos hp (by omega)
        have hr : runesFrom s (b + 1) pos = ((Utf8.decode s pos).1 : Int) :: runesFrom s b (pos + (Utf8.decode s pos).2) := by
          conv => lhs; unfold runesFrom
          rw [if_pos hp]
        have hq : isLetter ((Utf8.decode s pos).1 : Int) = false := by
          unfold isLetter
          rw [decide_eq_false (p := ((Utf8.decode s pos).1 : Int) ≤ 122) (by omega), Bool.and_false]
        have hq2 : letB (s[pos]'hp) = false := by
          unfold letB
          rw [decide_eq_false (p := (s[pos]'hp).toNat ≤ 122) (by omega), Bool.and_false]
        rw [hr, hd, List.all_cons, List.all_cons, hq, hq2]
        simp
    · have : pos = s.size := by omega
      subst this
      have e : s.data.toList.drop s.size = [] := List.drop_of_length_le (Nat.le_of_eq (size_list s))
      rw [e, runes_end s _ _ hp]
      simp
theorem name_bytes (s : ByteArray) : allOf isLetter 1 8 (runes s) = (decide (1 ≤ s.size) && decide (s.size ≤ 8) && s.data.toList.all letB) := by
  obtain ⟨h1, h2⟩ := letters s s.size 0 (by omega) (by omega)
  rw [List.drop_zero] at h1
  unfold allOf
  cases hb : s.data.toList.all letB with
  | false =>
    rw [hb] at h1
    rw [show (runes s).all isLetter = false from h1, Bool.and_false, Bool.and_false]
  | true =>
    rw [hb] at h1
    have h3 : (runes s).length = s.size := by have := h2 h1; rw [Nat.sub_zero] at this; exact this
    rw [show (runes s).all isLetter = true from h1, h3, Bool.and_true, Bool.and_true]
    congr 1
    · exact decide_eq_decide.2 ⟨fun h => by omega, fun h => by omega⟩
    · exact decide_eq_decide.2 ⟨fun h => by omega, fun h => by omega⟩
end Go.Proofs.Ytooafilbmjnfmaa

namespace Go.Proofs.Ytooafilbmjnfmaa
open Go.RowKit Go.TM

theorem RKey_calls (w : World) (s : ByteArray) (hs : s.size ≤ 1000000) : Calls Try.prog 67 #[.string s] w fun e w' => e = .returned (.int .i64 (keyE s)) ∧ Ext Non w w' := by
  obtain ⟨b, hb⟩ : ∃ b, allOf isPlain 1 24 (runes s) = b := ⟨_, rfl⟩
  have HB := Lib.hid hb
  cases b with
  | true =>
    have hk : Hid (keyE s = 0) := if_pos hb
    clear hb
    go_enter Try.func67, Try.ntmps67
    go_wp2_with fail
    refine (many_calls w s hs 1 24).mono ?_
    rw [HB.out]
    rintro e w1 ⟨rfl, he⟩
    have E1 := Lib.hid he
    clear he
    go_wp2_with fail
    go_ret
    exact ⟨by rw [hk.out]; rfl, E1.out⟩
  | false =>
    have hk : Hid (keyE s = 20) := if_neg (by rw [hb]; simp)
    clear hb
    go_enter Try.func67, Try.ntmps67
    go_wp2_with fail
    refine (many_calls w s hs 1 24).mono ?_
    rw [HB.out]
    rintro e w1 ⟨rfl, he⟩
    have E1 := Lib.hid he
    clear he
    go_wp2_with fail
    go_ret
    exact ⟨by rw [hk.out]; rfl, E1.out⟩
theorem RValue_calls (w : World) (s : ByteArray) (hs : s.size ≤ 1000000) : Calls Try.prog 69 #[.string s] w fun e w' => e = .returned (.int .i64 (valE s)) ∧ Ext Non w w' := by
  obtain ⟨b, hb⟩ : ∃ b, allOf isPlain 0 48 (runes s) = b := ⟨_, rfl⟩
  have HB := Lib.hid hb
  cases b with
  | true =>
    have hk : Hid (valE s = 0) := if_pos hb
    clear hb
    go_enter Try.func69, Try.ntmps69
    go_wp2_with fail
    refine (many_calls w s hs 0 48).mono ?_
    rw [HB.out]
    rintro e w1 ⟨rfl, he⟩
    have E1 := Lib.hid he
    clear he
    go_wp2_with fail
    go_ret
    exact ⟨by rw [hk.out]; rfl, E1.out⟩
  | false =>
    have hk : Hid (valE s = 21) := if_neg (by rw [hb]; simp)
    clear hb
    go_enter Try.func69, Try.ntmps69
    go_wp2_with fail
    refine (many_calls w s hs 0 48).mono ?_
    rw [HB.out]
    rintro e w1 ⟨rfl, he⟩
    have E1 := Lib.hid he
    clear he
    go_wp2_with fail
    go_ret
    exact ⟨by rw [hk.out]; rfl, E1.out⟩
theorem str_at (s : ByteArray) (j : Nat) (h : j < s.size) : s.data.toList[j]? = some (s[j]'h) := by
  rw [List.getElem?_eq_getElem (by rw [size_list]; exact h)]
  rfl
set_option maxHeartbeats 1000000 in
theorem RName_calls (w : World) (s : ByteArray) (hs : s.size ≤ 1000000) : Calls Try.prog 68 #[.string s] w fun e w' => e = .returned (.int .i64 (nameE s)) ∧ w = w' := by
  obtain ⟨b1, hb1⟩ : ∃ b1, (decide (1 ≤ s.size) && decide (s.size ≤ 8)) = b1 := ⟨_, rfl⟩
  have hn : Hid (nameE s = if (b1 && s.data.toList.all letB) = true then 0 else 22) := by
    show nameE s = _
    unfold nameE
    rw [name_bytes, hb1]
  have q0 : (s.size : Int) ≤ 1000000 := by omega
  have hcase : (1 ≤ (s.size : Int) ∧ (s.size : Int) ≤ 8 ∧ Hid (b1 = true)) ∨ (1 ≤ (s.size : Int) ∧ 8 < (s.size : Int) ∧ Hid (b1 = false)) ∨ ((s.size : Int) < 1 ∧ Hid (b1 = false)) := by
    by_cases h1 : 1 ≤ s.size
    · by_cases h2 : s.size ≤ 8
      · exact .inl ⟨by omega, by omega, by rw [← hb1, decide_eq_true h1, decide_eq_true h2]; rfl⟩
      · exact .inr (.inl ⟨by omega, by omega, by rw [← hb1, decide_eq_false h2, Bool.and_false]; rfl⟩)
    · exact .inr (.inr ⟨by omega, by rw [← hb1, decide_eq_false h1]; rfl⟩)
  clear hb1
  rcases hcase with ⟨h1, h2, hB⟩ | ⟨h1, h2, hB⟩ | ⟨h1, hB⟩
  all_goals
    go_enter Try.func68, Try.ntmps68
    go_wp2_with fail
    go_loopw [3, 15] (fun v i wr => ∃ j : Nat, i = .int .i64 (j : Int) ∧ j ≤ s.size ∧ v = .bool (b1 && (s.data.toList.take j).all letB) ∧ w = wr) (fun _ i _ => s.size - (intOf i).toNat)
    case atStart => exact ⟨0, rfl, by omega, by rw [hB.out]; first | (simp; done) | (simp; omega), rfl⟩
    case round =>
      obtain ⟨j, rfl, hj, rfl, rfl⟩ := hrel
      by_cases hlt : j < s.size
      · have hx := str_at s j hlt
        have HX := Lib.hid hx
        have hnext : Hid ((s.data.toList.take (j + 1)).all letB = ((s.data.toList.take j).all letB && letB (s[j]'hlt))) := by
          show (s.data.toList.take (j + 1)).all letB = _
          rw [List.take_add_one, hx]; simp
        obtain ⟨u, hu⟩ : ∃ u, (b1 && (s.data.toList.take j).all letB) = u := ⟨_, rfl⟩
        have HU := Lib.hid hu
        rw [hu]
        clear hx hu
        cases u with
        | false =>
          go_wp2_with fail
          all_goals
            go_roundw
            case rel => exact ⟨j + 1, by go_num, by omega, by rw [hnext.out, ← Bool.and_assoc, HU.out]; rfl, trivial⟩
            case measure => first | (simp [intOf]; done) | (simp [intOf]; omega)
        | true =>
          by_cases c1 : 97 ≤ (s[j]'hlt).toNat
          · have hl : Hid (letB (s[j]'hlt) = decide (((s[j]'hlt).toNat : Int) ≤ 122)) := by
              show letB _ = _
              unfold letB
              rw [decide_eq_true c1, Bool.true_and]
              exact decide_eq_decide.2 ⟨fun h => by omega, fun h => by omega⟩
            go_wp2_with fail
            all_goals
              go_roundw
              case rel => exact ⟨j + 1, by go_num, by omega, by rw [hnext.out, ← Bool.and_assoc, HU.out, hl.out]; simp, trivial⟩
              case measure => first | (simp [intOf]; done) | (simp [intOf]; omega)
          · have hl : Hid (letB (s[j]'hlt) = false) := by
              show letB _ = _
              unfold letB
              rw [decide_eq_false c1]
              rfl
            go_wp2_with fail
            all_goals
              go_roundw
              case rel => exact ⟨j + 1, by go_num, by omega, by rw [hnext.out, ← Bool.and_assoc, HU.out, hl.out]; simp, trivial⟩
              case measure => first | (simp [intOf]; done) | (simp [intOf]; omega)
      · obtain rfl : j = s.size := by omega
        have hfin : Hid ((s.data.toList.take s.size).all letB = s.data.toList.all letB) := by
          show (s.data.toList.take s.size).all letB = _
          rw [List.take_of_length_le (Nat.le_of_eq (size_list s))]
        obtain ⟨u, hu⟩ : ∃ u, (b1 && (s.data.toList.take s.size).all letB) = u := ⟨_, rfl⟩
        have HU := Lib.hid hu
        rw [hu]
        clear hu
        cases u with
        | false =>
          have hr : Hid (nameE s = 22) := by
            show nameE s = 22
            rw [hn.out, ← hfin.out, HU.out]; simp
          go_wp2_with fail
          go_ret
          exact ⟨by rw [hr.out]; rfl, rfl⟩
        | true =>
          have hr : Hid (nameE s = 0) := by
            show nameE s = 0
            rw [hn.out, ← hfin.out, HU.out]; simp
          go_wp2_with fail
          go_ret
          exact ⟨by rw [hr.out]; rfl, rfl⟩
end Go.Proofs.Ytooafilbmjnfmaa

