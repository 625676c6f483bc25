/- Texts, rune by rune. Texts: all of their runes. Texts: Key, Name, Value of the program. Texts: Runes of the document: the iterator is not the last block. Texts: the document's many, Key, Value. Texts: the document's Key, Value; Name, byte by byte. Texts: the document's Key, Value, Name. -/
import Derived.Test.YtdjfijdnhfmeeaaFA
import Derived.WalkKit
import Derived.Laws.RangeString
import Derived.Laws.RangeAny
namespace Go.Proofs.Ytdjfijdnhfmeeaa
open Go.RowKit Go.TM

def isPlain (r : Int) : Bool := decide (32 ≤ r) && (r != 127) && (r != 65533)
def isLetter (r : Int) : Bool := decide (97 ≤ r) && decide (r ≤ 122)
theorem plain_calls (w : World) (r : Int) : Calls Try.prog 102 #[.int .i32 r] w fun e w' => e = .returned (.bool (isPlain r)) ∧ w = w' := by
  by_cases h1 : 32 ≤ r
  · by_cases h2 : r = 127
    · subst h2
      go_enter Try.func102, Try.ntmps102
      go_wp2_with fail
      go_ret
      exact ⟨rfl, rfl⟩
    · have q2 : (r != 127) = true := by simpa using h2
      have hr : isPlain r = (r != 65533) := by unfold isPlain; rw [decide_eq_true h1, q2]; rfl
      rw [hr]
      go_enter Try.func102, Try.ntmps102
      go_wp2_with fail
      go_ret
      exact ⟨rfl, rfl⟩
  · have hr : isPlain r = false := by unfold isPlain; rw [decide_eq_false h1]; rfl
    rw [hr]
    go_enter Try.func102, Try.ntmps102
    go_wp2_with fail
    go_ret
    exact ⟨rfl, rfl⟩
theorem plainR_calls (w : World) (r : Int) : Calls Try.prog 105 #[.int .i32 r] w fun e w' => e = .returned (.bool (isPlain r)) ∧ w = w' := by
  by_cases h1 : 31 < r
  · by_cases h2 : r = 127
    · subst h2
      go_enter Try.func105, Try.ntmps105
      go_wp2_with fail
      go_ret
      exact ⟨rfl, rfl⟩
    · have q2 : (r != 127) = true := by simpa using h2
      have hr : isPlain r = (r != 65533) := by unfold isPlain; rw [decide_eq_true (by omega), q2]; rfl
      rw [hr]
      go_enter Try.func105, Try.ntmps105
      go_wp2_with fail
      go_ret
      exact ⟨rfl, rfl⟩
  · have hr : isPlain r = false := by unfold isPlain; rw [decide_eq_false (by omega)]; rfl
    rw [hr]
    go_enter Try.func105, Try.ntmps105
    go_wp2_with fail
    go_ret
    exact ⟨rfl, rfl⟩
theorem letter_calls (w : World) (r : Int) : Calls Try.prog 103 #[.int .i32 r] w fun e w' => e = .returned (.bool (isLetter r)) ∧ w = w' := by
  by_cases h1 : 97 ≤ r
  · have hr : isLetter r = decide (r ≤ 122) := by unfold isLetter; rw [decide_eq_true h1]; rfl
    rw [hr]
    go_enter Try.func103, Try.ntmps103
    go_wp2_with fail
    go_ret
    exact ⟨rfl, rfl⟩
  · have hr : isLetter r = false := by unfold isLetter; rw [decide_eq_false h1]; rfl
    rw [hr]
    go_enter Try.func103, Try.ntmps103
    go_wp2_with fail
    go_ret
    exact ⟨rfl, rfl⟩
end Go.Proofs.Ytdjfijdnhfmeeaa

namespace Go.Proofs.Ytdjfijdnhfmeeaa
open Go.RowKit Go.TM

/-- The runes from a place on. -/
def runesFrom (s : ByteArray) : Nat → Nat → List Int
  | 0, _ => []
  | b + 1, pos => if pos < s.size then ((Utf8.decode s pos).1 : Int) :: runesFrom s b (pos + (Utf8.decode s pos).2) else []
def runes (s : ByteArray) : List Int := runesFrom s s.size 0
theorem runes_end (s : ByteArray) (b pos : Nat) (h : ¬ pos < s.size) : runesFrom s b pos = [] := by
  cases b with
  | zero => rfl
  | succ b => simp [runesFrom, h]
theorem width_pos (s : ByteArray) (pos : Nat) (h : pos < s.size) : 1 ≤ (Utf8.decode s pos).2 := by
  by_cases ha : (s[pos]'h).toNat < 128
  · rw [decode_ascii s pos h ha]
    exact Nat.le_refl _
  · exact (decode_high s pos h (by omega)).2
/-- At least so many runes, at most so many, each of a kind. -/
def allOf (p : Int → Bool) (least most : Int) (l : List Int) : Bool := decide (least ≤ l.length) && decide ((l.length : Int) ≤ most) && l.all p
theorem all_plain (w : World) (s : ByteArray) (least most : Int) (hm : 0 ≤ most) (hm2 : most ≤ 1000) :
    Calls Try.prog 101 #[.string s, .int .i64 least, .int .i64 most, .func (.func 102) #[] #[]] w fun e w' => e = .returned (.bool (allOf isPlain least most (runes s))) ∧ Ext Non w w' := by
  go_enter Try.func101, Try.ntmps101
  go_wp2_with fail
  go_loopw [9] (fun n w' => ∃ (pos b : Nat) (seen : List Int), w' = w.iter s pos ∧ n = .int .i64 (seen.length : Int) ∧ Hid (runes s = seen ++ runesFrom s b pos) ∧ Hid (seen.all isPlain = true) ∧ (seen.length : Int) ≤ most ∧ s.size ≤ pos + b) (fun _ w' => s.size - w'.iterPos w.heap.size)
  case atStart => exact ⟨0, s.size, [], rfl, rfl, rfl, rfl, hm, by omega⟩
  case round =>
    obtain ⟨pos, b, seen, rfl, rfl, HS, HA, hk, hb⟩ := hrel
    have HE : Hid (∀ q, Ext Non w (w.iter s q)) := fun q => (Ext.refl Non w).alloc _
    by_cases hpos : pos < s.size
    · have hnx : ∀ ty, (Instr.next (.pointer (some ⟨w.heap.size, 0, none⟩)) true ty).run Try.prog (w.iter s pos) = _ := fun ty => run_next_any w s pos ty hpos
      have hwd := width_pos s pos hpos
      obtain ⟨b', rfl⟩ : ∃ b', b = b' + 1 := ⟨b - 1, by omega⟩
      have HS2 : Hid (runes s = (seen ++ [((Utf8.decode s pos).1 : Int)]) ++ runesFrom s b' (pos + (Utf8.decode s pos).2)) := by
        show runes s = _
        rw [HS.out]
        simp [runesFrom, hpos]
      by_cases hbig : most < (seen.length : Int) + 1
      · have hr : Hid (allOf isPlain least most (runes s) = false) := by
          show allOf isPlain least most (runes s) = false
          unfold allOf
          rw [HS2.out, decide_eq_false (p := ((_ : List Int).length : Int) ≤ most) (by simp; omega)]
          simp
        go_wp2_with fail
        go_ret
        exact ⟨by rw [hr.out]; rfl, HE.out _⟩
      · go_wp2_with fail
        refine (plain_calls _ _).mono ?_
        rintro e w5 ⟨rfl, rfl⟩
        cases hq : isPlain ((Utf8.decode s pos).1 : Int) with
        | false =>
          have hr : Hid (allOf isPlain least most (runes s) = false) := by
            show allOf isPlain least most (runes s) = false
            unfold allOf
            rw [HS2.out]
            simp [hq]
          go_wp2_with fail
          go_ret
          exact ⟨by rw [hr.out]; rfl, HE.out _⟩
        | true =>
          go_wp2_with fail
          go_roundw
          case rel => exact ⟨pos + (Utf8.decode s pos).2, b', seen ++ [((Utf8.decode s pos).1 : Int)], rfl, by simp, HS2.out, by have := HA.out; simp [Hid, hq]; simpa using this, by simp; omega, by omega⟩
          case measure => simp; omega
    · have hnx : ∀ ty, (Instr.next (.pointer (some ⟨w.heap.size, 0, none⟩)) true ty).run Try.prog (w.iter s pos) = _ := fun ty => run_next_end w s pos ty hpos
      have hr : Hid (allOf isPlain least most (runes s) = decide (least ≤ (seen.length : Int))) := by
        show allOf isPlain least most (runes s) = _
        unfold allOf
        rw [HS.out, runes_end s b pos hpos, List.append_nil, HA.out, decide_eq_true hk]
        simp
      go_wp2_with fail
      go_ret
      exact ⟨by rw [hr.out]; rfl, HE.out _⟩
theorem all_letter (w : World) (s : ByteArray) (least most : Int) (hm : 0 ≤ most) (hm2 : most ≤ 1000) :
    Calls Try.prog 101 #[.string s, .int .i64 least, .int .i64 most, .func (.func 103) #[] #[]] w fun e w' => e = .returned (.bool (allOf isLetter least most (runes s))) ∧ Ext Non w w' := by
  go_enter Try.func101, Try.ntmps101
  go_wp2_with fail
  go_loopw [9] (fun n w' => ∃ (pos b : Nat) (seen : List Int), w' = w.iter s pos ∧ n = .int .i64 (seen.length : Int) ∧ Hid (runes s = seen ++ runesFrom s b pos) ∧ Hid (seen.all isLetter = true) ∧ (seen.length : Int) ≤ most ∧ s.size ≤ pos + b) (fun _ w' => s.size - w'.iterPos w.heap.size)
  case atStart => exact ⟨0, s.size, [], rfl, rfl, rfl, rfl, hm, by omega⟩
  case round =>
    obtain ⟨pos, b, seen, rfl, rfl, HS, HA, hk, hb⟩ := hrel
    have HE : Hid (∀ q, Ext Non w (w.iter s q)) := fun q => (Ext.refl Non w).alloc _
    by_cases hpos : pos < s.size
    · have hnx : ∀ ty, (Instr.next (.pointer (some ⟨w.heap.size, 0, none⟩)) true ty).run Try.prog (w.iter s pos) = _ := fun ty => run_next_any w s pos ty hpos
      have hwd := width_pos s pos hpos
      obtain ⟨b', rfl⟩ : ∃ b', b = b' + 1 := ⟨b - 1, by omega⟩
      have HS2 : Hid (runes s = (seen ++ [((Utf8.decode s pos).1 : Int)]) ++ runesFrom s b' (pos + (Utf8.decode s pos).2)) := by
        show runes s = _
        rw [HS.out]
        simp [runesFrom, hpos]
      by_cases hbig : most < (seen.length : Int) + 1
      · have hr : Hid (allOf isLetter least most (runes s) = false) := by
          show allOf isLetter least most (runes s) = false
          unfold allOf
          rw [HS2.out, decide_eq_false (p := ((_ : List Int).length : Int) ≤ most) (by simp; omega)]
          simp
        go_wp2_with fail
        go_ret
        exact ⟨by rw [hr.out]; rfl, HE.out _⟩
      · go_wp2_with fail
        refine (letter_calls _ _).mono ?_
        rintro e w5 ⟨rfl, rfl⟩
        cases hq : isLetter ((Utf8.decode s pos).1 : Int) with
        | false =>
          have hr : Hid (allOf isLetter least most (runes s) = false) := by
            show allOf isLetter least most (runes s) = false
            unfold allOf
            rw [HS2.out]
            simp [hq]
          go_wp2_with fail
          go_ret
          exact ⟨by rw [hr.out]; rfl, HE.out _⟩
        | true =>
          go_wp2_with fail
          go_roundw
          case rel => exact ⟨pos + (Utf8.decode s pos).2, b', seen ++ [((Utf8.decode s pos).1 : Int)], rfl, by simp, HS2.out, by have := HA.out; simp [Hid, hq]; simpa using this, by simp; omega, by omega⟩
          case measure => simp; omega
    · have hnx : ∀ ty, (Instr.next (.pointer (some ⟨w.heap.size, 0, none⟩)) true ty).run Try.prog (w.iter s pos) = _ := fun ty => run_next_end w s pos ty hpos
      have hr : Hid (allOf isLetter least most (runes s) = decide (least ≤ (seen.length : Int))) := by
        show allOf isLetter least most (runes s) = _
        unfold allOf
        rw [HS.out, runes_end s b pos hpos, List.append_nil, HA.out, decide_eq_true hk]
        simp
      go_wp2_with fail
      go_ret
      exact ⟨by rw [hr.out]; rfl, HE.out _⟩
end Go.Proofs.Ytdjfijdnhfmeeaa

namespace Go.Proofs.Ytdjfijdnhfmeeaa
open Go.RowKit Go.TM

def keyE (s : ByteArray) : Int := if allOf isPlain 1 24 (runes s) = true then 0 else 20
def nameE (s : ByteArray) : Int := if allOf isLetter 1 8 (runes s) = true then 0 else 22
def valE (s : ByteArray) : Int := if allOf isPlain 0 48 (runes s) = true then 0 else 21
theorem Key_calls (w : World) (s : ByteArray) : Calls Try.prog 96 #[.string s] w fun e w' => e = .returned (.int .i64 (keyE s)) ∧ Ext Non w w' := by
  obtain ⟨b, hb⟩ : ∃ b, allOf isPlain 1 24 (runes s) = b := ⟨_, rfl⟩
  have HB := Lib.hid hb
  cases b with
  | true =>
    have hk : Hid (keyE s = 0) := if_pos hb
    clear hb
    go_enter Try.func96, Try.ntmps96
    go_wp2_with fail
    refine (all_plain w s 1 24 (by omega) (by omega)).mono ?_
    rw [HB.out]
    rintro e w1 ⟨rfl, he⟩
    have E1 := Lib.hid he
    clear he
    go_wp2_with fail
    go_ret
    exact ⟨by rw [hk.out]; rfl, E1.out⟩
  | false =>
    have hk : Hid (keyE s = 20) := if_neg (by rw [hb]; simp)
    clear hb
    go_enter Try.func96, Try.ntmps96
    go_wp2_with fail
    refine (all_plain w s 1 24 (by omega) (by omega)).mono ?_
    rw [HB.out]
    rintro e w1 ⟨rfl, he⟩
    have E1 := Lib.hid he
    clear he
    go_wp2_with fail
    go_ret
    exact ⟨by rw [hk.out]; rfl, E1.out⟩
theorem Name_calls (w : World) (s : ByteArray) : Calls Try.prog 97 #[.string s] w fun e w' => e = .returned (.int .i64 (nameE s)) ∧ Ext Non w w' := by
  obtain ⟨b, hb⟩ : ∃ b, allOf isLetter 1 8 (runes s) = b := ⟨_, rfl⟩
  have HB := Lib.hid hb
  cases b with
  | true =>
    have hk : Hid (nameE s = 0) := if_pos hb
    clear hb
    go_enter Try.func97, Try.ntmps97
    go_wp2_with fail
    refine (all_letter w s 1 8 (by omega) (by omega)).mono ?_
    rw [HB.out]
    rintro e w1 ⟨rfl, he⟩
    have E1 := Lib.hid he
    clear he
    go_wp2_with fail
    go_ret
    exact ⟨by rw [hk.out]; rfl, E1.out⟩
  | false =>
    have hk : Hid (nameE s = 22) := if_neg (by rw [hb]; simp)
    clear hb
    go_enter Try.func97, Try.ntmps97
    go_wp2_with fail
    refine (all_letter w s 1 8 (by omega) (by omega)).mono ?_
    rw [HB.out]
    rintro e w1 ⟨rfl, he⟩
    have E1 := Lib.hid he
    clear he
    go_wp2_with fail
    go_ret
    exact ⟨by rw [hk.out]; rfl, E1.out⟩
theorem Value_calls (w : World) (s : ByteArray) : Calls Try.prog 98 #[.string s] w fun e w' => e = .returned (.int .i64 (valE s)) ∧ Ext Non w w' := by
  obtain ⟨b, hb⟩ : ∃ b, allOf isPlain 0 48 (runes s) = b := ⟨_, rfl⟩
  have HB := Lib.hid hb
  cases b with
  | true =>
    have hk : Hid (valE s = 0) := if_pos hb
    clear hb
    go_enter Try.func98, Try.ntmps98
    go_wp2_with fail
    refine (all_plain w s 0 48 (by omega) (by omega)).mono ?_
    rw [HB.out]
    rintro e w1 ⟨rfl, he⟩
    have E1 := Lib.hid he
    clear he
    go_wp2_with fail
    go_ret
    exact ⟨by rw [hk.out]; rfl, E1.out⟩
  | false =>
    have hk : Hid (valE s = 21) := if_neg (by rw [hb]; simp)
    clear hb
    go_enter Try.func98, Try.ntmps98
    go_wp2_with fail
    refine (all_plain w s 0 48 (by omega) (by omega)).mono ?_
    rw [HB.out]
    rintro e w1 ⟨rfl, he⟩
    have E1 := Lib.hid he
    clear he
    go_wp2_with fail
    go_ret
    exact ⟨by rw [hk.out]; rfl, E1.out⟩
end Go.Proofs.Ytdjfijdnhfmeeaa


namespace Go.Proofs.Ytdjfijdnhfmeeaa
open Go.RowKit Go.TM

def World.setIter (w : World) (g : Nat) (s : ByteArray) (pos : Nat) : World := { w with heap := w.heap.setIfInBounds g (.stringIter s pos) }
theorem run_next_at {P : Program} (w : World) (g : Nat) (s : ByteArray) (pos : Nat) (ty : TypeId) (hg : w.heap[g]? = some (.stringIter s pos)) (h : pos < s.size) :
    (Instr.next (.pointer (some ⟨g, 0, none⟩)) true ty).run P w = .ok (.tuple #[.bool true, .int .i64 pos, .int .i32 (Utf8.decode s pos).1]) (World.setIter w g s (pos + (Utf8.decode s pos).2)) := by
  simp only [Instr.next, getObj, setObj, Sem.run_bind, Sem.run, hg, Result.andThen, h, if_true]
  simp [goInt, World.setIter]
theorem run_next_stop {P : Program} (w : World) (g : Nat) (s : ByteArray) (pos : Nat) (ty : TypeId) (hg : w.heap[g]? = some (.stringIter s pos)) (h : ¬ pos < s.size) :
    (Instr.next (.pointer (some ⟨g, 0, none⟩)) true ty).run P w = .ok (.tuple #[.bool false]) w := by
  simp [Instr.next, getObj, Sem.run, hg, h]
theorem setIter_heap {w : World} {g : Nat} {o : Obj} (hg : w.heap[g]? = some o) (s : ByteArray) (pos : Nat) : (World.setIter w g s pos).heap[g]? = some (.stringIter s pos) := by
  have := (Array.getElem?_eq_some_iff.1 hg).1
  simp [World.setIter, this]
theorem setIter_ext (w : World) (g : Nat) (s : ByteArray) (pos : Nat) : Ext (Only g) w (World.setIter w g s pos) :=
  ⟨rfl, rfl, rfl, by simp [World.setIter], fun k _ hk => by
    have hk' : g ≠ k := fun e => hk e.symm
    simp [World.setIter, hk']⟩
def kI32 : Kd Int := Kd.flat 1 (fun n => [.int .i32 n]) (fun _ => rfl) (by simp [Value.oneCell'])
theorem info21 : (Try.prog.info? 21).map (fun i => (i.zero, i.size, i.bytes)) = some (some (.int .i32 0), kI32.sz, 4) := by kernel_rfl
def RunesPost (l : List Int) (w : World) (e : Ending) (w' : World) : Prop :=
  ∃ A n c, e = .returned (.slice A n c) ∧ Hid (Own kI32 21 w' w.heap.size (fun k => w.heap.size ≤ k) (.slice A n c) l) ∧ Hid (Ext Non w w')
set_option maxHeartbeats 1048576 in
theorem Runes_calls (w : World) (s : ByteArray) (hs : s.size ≤ 1048576) : Calls Try.prog 104 #[.string s] w (RunesPost (runes s) w) := by
  obtain ⟨g, hg⟩ : ∃ g, g = w.heap.size := ⟨_, rfl⟩
  have HG := Lib.hid hg
  go_enter Try.func104, Try.ntmps104
  go_wp2_with fail
  have B0 : Hid ((w.iter s 0).heap[g]? = some (.stringIter s 0)) := by rw [hg]; exact World.iter_heap w s 0
  have E0 : Hid (Ext Non w (w.iter s 0)) := (Ext.refl Non w).alloc _
  rw [← HG.out]
  clear hg
  go_loopw [3] (fun v wr => ∃ (pos b : Nat) (seen : List Int), Hid (wr.heap[g]? = some (.stringIter s pos)) ∧ Hid (Own kI32 21 wr (g + 1) (fun k => g < k) v seen) ∧ Hid (runes s = seen ++ runesFrom s b pos) ∧ seen.length ≤ pos ∧ s.size ≤ pos + b ∧ Hid (Ext Non w wr)) (fun _ wr => s.size - wr.iterPos g)
  case atStart => exact ⟨0, s.size, [], B0.out, Own.nil _ _ _ _ _, rfl, by simp, by omega, E0.out⟩
  case round =>
    obtain ⟨pos, b, seen, HB, HO, HS, hk, hb, HE⟩ := hrel
    obtain ⟨Av, cv, rfl, hcv, hmv⟩ := HO.out.slice
    obtain ⟨nv, hnv⟩ : ∃ nv, nv = seen.length := ⟨_, rfl⟩
    have HNV := Lib.hid hnv
    have hgw : w.heap.size = g := HG.out.symm
    have hlg := blk_lt HB.out
    by_cases hpos : pos < s.size
    · have hnx : ∀ ty, (Instr.next (.pointer (some ⟨g, 0, none⟩)) true ty).run Try.prog wr = _ := fun ty => run_next_at wr g s pos ty HB.out hpos
      have hwd := width_pos s pos hpos
      obtain ⟨b', rfl⟩ : ∃ b', b = b' + 1 := ⟨b - 1, by omega⟩
      obtain ⟨w2, hw2⟩ : ∃ w2, World.setIter wr g s (pos + (Utf8.decode s pos).2) = w2 := ⟨_, rfl⟩
      rw [hw2] at hnx
      have HB2 : Hid (w2.heap[g]? = some (.stringIter s (pos + (Utf8.decode s pos).2))) := by rw [← hw2]; exact setIter_heap HB.out _ _
      have he2 : Ext (Only g) wr w2 := by rw [← hw2]; exact setIter_ext _ _ _ _
      have E2 : Hid (Ext Non w w2) := HE.out.trans he2 (fun i hi e => by have e1 : i = g := e; omega)
      have O2 := Lib.hid (HO.out.ext he2 (fun k hk _ e => by have e1 : k = g := e; omega))
      have HS2 : Hid (runes s = (seen ++ [((Utf8.decode s pos).1 : Int)]) ++ runesFrom s b' (pos + (Utf8.decode s pos).2)) := by
        show runes s = _
        rw [HS.out]
        simp [runesFrom, hpos]
      have hz2 := blk_lt HB2.out
      clear hw2 he2 hnv
      go_wp2_with (first
        | (at_builtin
           refine wpList_app kI32 (ok := fun k => g < k) (v := .slice Av seen.length cv) (vx := .slice (some ⟨w2.heap.size, 0, none⟩) 1 1) (xs := seen) (ys := [((Utf8.decode s pos).1 : Int)]) (g + 1) rfl _ _ 140 21 _ 4 rfl Try.underlying140 info21 rfl (by decide) (by simp [Act.eval]) (by simp [Act.eval]) (O2.out.ext0 ((Ext.refl _ _).alloc _)) (Rd.lit_at (cs := [.int .i32 ((Utf8.decode s pos).1 : Int)]) (e := 21) (fr := (0, 0)) (heap_alloc_new w2 _) rfl ⟨by omega, fun e => by have := (O2.out.base_le _ e.symm).2; omega⟩) (fun k hk => by simp at hk; omega) (by simp; omega) (by simp; omega) (by simp; omega) ?_
           intro v' w' hown hext hblk)
        | fail)
      have E3 : Hid (Ext Non w w') := (E2.out.alloc _).trans hext (fun i hi e => by have := (O2.out.base_le i e.symm).1; omega)
      have hb3 : Hid (w'.heap[g]? = some (.stringIter s (pos + (Utf8.decode s pos).2))) := hext.obj (blk_alloc HB2.out _) (fun e => by have := (O2.out.base_le g e.symm).1; omega)
      have O3 := Lib.hid hown
      have hi0 : wr.iterPos g = pos := by simp [World.iterPos, HB.out]
      have hi3 : w'.iterPos g = pos + (Utf8.decode s pos).2 := by simp [World.iterPos, hb3.out]
      go_roundw
      case rel => exact ⟨pos + (Utf8.decode s pos).2, b', seen ++ [((Utf8.decode s pos).1 : Int)], hb3.out, O3.out, HS2.out, by simp; omega, by omega, E3.out⟩
      case measure => rw [hi0, hi3]; omega
    · have hnx : ∀ ty, (Instr.next (.pointer (some ⟨g, 0, none⟩)) true ty).run Try.prog wr = _ := fun ty => run_next_stop wr g s pos ty HB.out hpos
      have hr : Hid (runes s = seen) := by
        show runes s = seen
        rw [HS.out, runes_end s b pos hpos, List.append_nil]
      clear hnv
      go_wp2_with fail
      go_ret
      refine ⟨_, _, _, rfl, ?_, HE.out⟩
      rw [hr.out, hgw]
      exact (HO.out.lower (by omega)).mono (fun k hk => by omega)
end Go.Proofs.Ytdjfijdnhfmeeaa

namespace Go.Proofs.Ytdjfijdnhfmeeaa
open Go.RowKit Go.TM

theorem runes_len (s : ByteArray) : ∀ (b pos : Nat), (runesFrom s b pos).length ≤ b
  | 0, _ => by simp [runesFrom]
  | b + 1, pos => by
    unfold runesFrom
    split
    · have := runes_len s b (pos + (Utf8.decode s pos).2)
      simp
      omega
    · simp
set_option maxHeartbeats 1048576 in
theorem many_calls (w : World) (s : ByteArray) (hs : s.size ≤ 1048576) (least most : Int) :
    Calls Try.prog 99 #[.string s, .int .i64 least, .int .i64 most] w fun e w' => e = .returned (.bool (allOf isPlain least most (runes s))) ∧ Ext Non w w' := by
  have hlen : (runes s).length ≤ 1048576 := Nat.le_trans (runes_len s _ _) hs
  obtain ⟨l, hl⟩ : ∃ l, runes s = l := ⟨_, rfl⟩
  rw [hl] at hlen ⊢
  have HL := Lib.hid hl
  obtain ⟨b1, hb1⟩ : ∃ b1, (decide (least ≤ (l.length : Int)) && decide ((l.length : Int) ≤ most)) = b1 := ⟨_, rfl⟩
  have HB1 := Lib.hid hb1
  have hall : Hid (allOf isPlain least most l = (b1 && l.all isPlain)) := by
    show allOf isPlain least most l = _
    unfold allOf
    rw [← hb1]
  clear hl hb1
  go_enter Try.func99, Try.ntmps99
  go_wp2_with fail
  refine (Runes_calls w s hs).mono ?_
  rw [HL.out]
  rintro e w1 ⟨A, n, c, rfl, HO, HE⟩
  obtain ⟨_, c', he, hc, hm⟩ := HO.out.slice
  simp only [Value.slice.injEq] at he
  obtain ⟨-, rfl, rfl⟩ := he
  have q0 : (l.length : Int) ≤ 1048576 := by omega
  have hcase : (least ≤ (l.length : Int) ∧ (l.length : Int) ≤ most ∧ Hid (b1 = true)) ∨ (least ≤ (l.length : Int) ∧ most < (l.length : Int) ∧ Hid (b1 = false)) ∨ ((l.length : Int) < least ∧ Hid (b1 = false)) := by
    have hb := HB1.out
    by_cases h1 : least ≤ (l.length : Int)
    · by_cases h2 : (l.length : Int) ≤ most
      · exact .inl ⟨h1, h2, by rw [← hb, decide_eq_true h1, decide_eq_true h2]; rfl⟩
      · exact .inr (.inl ⟨h1, by omega, by rw [← hb, decide_eq_false h2, Bool.and_false]; rfl⟩)
    · exact .inr (.inr ⟨by omega, by rw [← hb, decide_eq_false h1]; rfl⟩)
  have R1 := Lib.hid HO.out.rd
  clear HB1 HO hc hm
  rcases hcase with ⟨h1, h2, hB⟩ | ⟨h1, h2, hB⟩ | ⟨h1, hB⟩
  all_goals
    go_wp2_with fail
    go_loopw [8, 25] (fun v i wr => ∃ j : Nat, i = .int .i64 (j : Int) ∧ j ≤ l.length ∧ v = .bool (b1 && (l.take j).all isPlain) ∧ Hid (Ext Non w1 wr)) (fun _ i _ => l.length - (intOf i).toNat)
    case atStart => exact ⟨0, rfl, by omega, by rw [hB.out]; first | (simp; done) | (simp; omega), Ext.refl _ _⟩
    case round =>
      obtain ⟨j, rfl, hj, rfl, HE2⟩ := hrel
      by_cases hlt : j < l.length
      · obtain ⟨x, hx⟩ : ∃ x, l[j]? = some x := ⟨_, List.getElem?_eq_getElem hlt⟩
        obtain ⟨gl, off, rfl, _, hgl, hc⟩ := (R1.out.ext0 HE2.out).flat_at hx
        have d0 := hc 0 _ rfl
        simp only [Nat.add_zero, Nat.mul_one] at d0
        have hnext : (l.take (j + 1)).all isPlain = ((l.take j).all isPlain && isPlain x) := by rw [List.take_add_one, hx]; simp
        have HN := Lib.hid hnext
        obtain ⟨u, hu⟩ : ∃ u, (b1 && (l.take j).all isPlain) = u := ⟨_, rfl⟩
        have HU := Lib.hid hu
        rw [hu]
        clear hc hx hnext hu
        cases u with
        | false =>
          go_wp2_with fail
          go_roundw
          case rel => exact ⟨j + 1, by go_num, by omega, by rw [HN.out, ← Bool.and_assoc, HU.out]; rfl, HE2.out⟩
          case measure => simp [intOf]; omega
        | true =>
          go_wp2_with fail
          refine (plainR_calls _ _).mono ?_
          rintro e w5 ⟨rfl, rfl⟩
          go_wp2_with fail
          go_roundw
          case rel => exact ⟨j + 1, by go_num, by omega, by rw [HN.out, ← Bool.and_assoc, HU.out]; simp, HE2.out⟩
          case measure => simp [intOf]; omega
      · obtain rfl : j = l.length := by omega
        go_wp2_with fail
        go_ret
        refine ⟨?_, HE.out.trans0 HE2.out⟩
        rw [hall.out, List.take_length]
        rfl
end Go.Proofs.Ytdjfijdnhfmeeaa


namespace Go.Proofs.Ytdjfijdnhfmeeaa
open Go.RowKit Go.TM

def letB (x : UInt8) : Bool := decide (97 ≤ x.toNat) && decide (x.toNat ≤ 122)
theorem size_list (s : ByteArray) : s.data.toList.length = s.size := Array.length_toList
/-- Letters: rune by rune and byte by byte are the same. -/
theorem letters (s : ByteArray) : ∀ (b pos : Nat), s.size ≤ pos + b → pos ≤ s.size →
    ((runesFrom s b pos).all isLetter = (s.data.toList.drop pos).all letB) ∧ ((runesFrom s b pos).all isLetter = true → (runesFrom s b pos).length = s.size - pos)
  | 0, pos, h, h2 => by
    have : pos = s.size := by omega
    subst this
    have e : s.data.toList.drop s.size = [] := List.drop_of_length_le (Nat.le_of_eq (size_list s))
    rw [e]
    simp [runesFrom]
  | b + 1, pos, h, h2 => by
    by_cases hp : pos < s.size
    · have hd : s.data.toList.drop pos = s[pos]'hp :: s.data.toList.drop (pos + 1) := by
        have hlt : pos < s.data.toList.length := by rw [size_list]; exact hp
        rw [List.drop_eq_getElem_cons hlt]
        rfl
      by_cases ha : (s[pos]'hp).toNat < 128
      · have hr : runesFrom s (b + 1) pos = ((s[pos]'hp).toNat : Int) :: runesFrom s b (pos + 1) := by
          conv => lhs; unfold runesFrom
          rw [if_pos hp, decode_ascii s pos hp ha]
        obtain ⟨i1, i2⟩ := letters s b (pos + 1) (by omega) (by omega)
        have hq : isLetter ((s[pos]'hp).toNat : Int) = letB (s[pos]'hp) := by
          unfold isLetter letB
          congr 1
          · exact decide_eq_decide.2 ⟨fun h => by omega, fun h => by omega⟩
          · exact decide_eq_decide.2 ⟨fun h => by omega, fun h => by omega⟩
        rw [hr, hd, List.all_cons, List.all_cons, i1, hq]
        refine ⟨rfl, fun h => ?_⟩
        rw [Bool.and_eq_true] at h
        rw [List.length_cons, i2 (by rw [i1]; exact h.2)]
        omega
      · have hh := decode_high s pos hp (by omega)
        have hr : runesFrom s (b + 1) pos = ((Utf8.decode s pos).1 : Int) :: runesFrom s b (pos + (Utf8.decode s pos).2) := by
          conv => lhs; unfold runesFrom
          rw [if_pos hp]
        have hq : isLetter ((Utf8.decode s pos).1 : Int) = false := by
          unfold isLetter
          rw [decide_eq_false (p := ((Utf8.decode s pos).1 : Int) ≤ 122) (by omega), Bool.and_false]
        have hq2 : letB (s[pos]'hp) = false := by
          unfold letB
          rw [decide_eq_false (p := (s[pos]'hp).toNat ≤ 122) (by omega), Bool.and_false]
        rw [hr, hd, List.all_cons, List.all_cons, hq, hq2]
        simp
    · have : pos = s.size := by omega
      subst this
      have e : s.data.toList.drop s.size = [] := List.drop_of_length_le (Nat.le_of_eq (size_list s))
      rw [e, runes_end s _ _ hp]
      simp
theorem name_bytes (s : ByteArray) : allOf isLetter 1 8 (runes s) = (decide (1 ≤ s.size) && decide (s.size ≤ 8) && s.data.toList.all letB) := by
  obtain ⟨h1, h2⟩ := letters s s.size 0 (by omega) (by omega)
  rw [List.drop_zero] at h1
  unfold allOf
  cases hb : s.data.toList.all letB with
  | false =>
    rw [hb] at h1
    rw [show (runes s).all isLetter = false from h1, Bool.and_false, Bool.and_false]
  | true =>
    rw [hb] at h1
    have h3 : (runes s).length = s.size := by have := h2 h1; rw [Nat.sub_zero] at this; exact this
    rw [show (runes s).all isLetter = true from h1, h3, Bool.and_true, Bool.and_true]
    congr 1
    · exact decide_eq_decide.2 ⟨fun h => by omega, fun h => by omega⟩
    · exact decide_eq_decide.2 ⟨fun h => by omega, fun h => by omega⟩
end Go.Proofs.Ytdjfijdnhfmeeaa

namespace Go.Proofs.Ytdjfijdnhfmeeaa
open Go.RowKit Go.TM

theorem RKey_calls (w : World) (s : ByteArray) (hs : s.size ≤ 1048576) : Calls Try.prog 92 #[.string s] w fun e w' => e = .returned (.int .i64 (keyE s)) ∧ Ext Non w w' := by
  obtain ⟨b, hb⟩ : ∃ b, allOf isPlain 1 24 (runes s) = b := ⟨_, rfl⟩
  have HB := Lib.hid hb
  cases b with
  | true =>
    have hk : Hid (keyE s = 0) := if_pos hb
    clear hb
    go_enter Try.func92, Try.ntmps92
    go_wp2_with fail
    refine (many_calls w s hs 1 24).mono ?_
    rw [HB.out]
    rintro e w1 ⟨rfl, he⟩
    have E1 := Lib.hid he
    clear he
    go_wp2_with fail
    go_ret
    exact ⟨by rw [hk.out]; rfl, E1.out⟩
  | false =>
    have hk : Hid (keyE s = 20) := if_neg (by rw [hb]; simp)
    clear hb
    go_enter Try.func92, Try.ntmps92
    go_wp2_with fail
    refine (many_calls w s hs 1 24).mono ?_
    rw [HB.out]
    rintro e w1 ⟨rfl, he⟩
    have E1 := Lib.hid he
    clear he
    go_wp2_with fail
    go_ret
    exact ⟨by rw [hk.out]; rfl, E1.out⟩
theorem RValue_calls (w : World) (s : ByteArray) (hs : s.size ≤ 1048576) : Calls Try.prog 94 #[.string s] w fun e w' => e = .returned (.int .i64 (valE s)) ∧ Ext Non w w' := by
  obtain ⟨b, hb⟩ : ∃ b, allOf isPlain 0 48 (runes s) = b := ⟨_, rfl⟩
  have HB := Lib.hid hb
  cases b with
  | true =>
    have hk : Hid (valE s = 0) := if_pos hb
    clear hb
    go_enter Try.func94, Try.ntmps94
    go_wp2_with fail
    refine (many_calls w s hs 0 48).mono ?_
    rw [HB.out]
    rintro e w1 ⟨rfl, he⟩
    have E1 := Lib.hid he
    clear he
    go_wp2_with fail
    go_ret
    exact ⟨by rw [hk.out]; rfl, E1.out⟩
  | false =>
    have hk : Hid (valE s = 21) := if_neg (by rw [hb]; simp)
    clear hb
    go_enter Try.func94, Try.ntmps94
    go_wp2_with fail
    refine (many_calls w s hs 0 48).mono ?_
    rw [HB.out]
    rintro e w1 ⟨rfl, he⟩
    have E1 := Lib.hid he
    clear he
    go_wp2_with fail
    go_ret
    exact ⟨by rw [hk.out]; rfl, E1.out⟩
theorem str_at (s : ByteArray) (j : Nat) (h : j < s.size) : s.data.toList[j]? = some (s[j]'h) := by
  rw [List.getElem?_eq_getElem (by rw [size_list]; exact h)]
  rfl
set_option maxHeartbeats 1048576 in
theorem RName_calls (w : World) (s : ByteArray) (hs : s.size ≤ 1048576) : Calls Try.prog 93 #[.string s] w fun e w' => e = .returned (.int .i64 (nameE s)) ∧ w = w' := by
  obtain ⟨b1, hb1⟩ : ∃ b1, (decide (1 ≤ s.size) && decide (s.size ≤ 8)) = b1 := ⟨_, rfl⟩
  have hn : Hid (nameE s = if (b1 && s.data.toList.all letB) = true then 0 else 22) := by
    show nameE s = _
    unfold nameE
    rw [name_bytes, hb1]
  have q0 : (s.size : Int) ≤ 1048576 := by omega
  have hcase : (1 ≤ (s.size : Int) ∧ (s.size : Int) ≤ 8 ∧ Hid (b1 = true)) ∨ (1 ≤ (s.size : Int) ∧ 8 < (s.size : Int) ∧ Hid (b1 = false)) ∨ ((s.size : Int) < 1 ∧ Hid (b1 = false)) := by
    by_cases h1 : 1 ≤ s.size
    · by_cases h2 : s.size ≤ 8
      · exact .inl ⟨by omega, by omega, by rw [← hb1, decide_eq_true h1, decide_eq_true h2]; rfl⟩
      · exact .inr (.inl ⟨by omega, by omega, by rw [← hb1, decide_eq_false h2, Bool.and_false]; rfl⟩)
    · exact .inr (.inr ⟨by omega, by rw [← hb1, decide_eq_false h1]; rfl⟩)
  clear hb1
  rcases hcase with ⟨h1, h2, hB⟩ | ⟨h1, h2, hB⟩ | ⟨h1, hB⟩
  all_goals
    go_enter Try.func93, Try.ntmps93
    go_wp2_with fail
    go_loopw [3, 15] (fun v i wr => ∃ j : Nat, i = .int .i64 (j : Int) ∧ j ≤ s.size ∧ v = .bool (b1 && (s.data.toList.take j).all letB) ∧ w = wr) (fun _ i _ => s.size - (intOf i).toNat)
    case atStart => exact ⟨0, rfl, by omega, by rw [hB.out]; first | (simp; done) | (simp; omega), rfl⟩
    case round =>
      obtain ⟨j, rfl, hj, rfl, rfl⟩ := hrel
      by_cases hlt : j < s.size
      · have hx := str_at s j hlt
        have HX := Lib.hid hx
        have hnext : Hid ((s.data.toList.take (j + 1)).all letB = ((s.data.toList.take j).all letB && letB (s[j]'hlt))) := by
          show (s.data.toList.take (j + 1)).all letB = _
          rw [List.take_add_one, hx]; simp
        obtain ⟨u, hu⟩ : ∃ u, (b1 && (s.data.toList.take j).all letB) = u := ⟨_, rfl⟩
        have HU := Lib.hid hu
        rw [hu]
        clear hx hu
        cases u with
        | false =>
          go_wp2_with fail
          all_goals
            go_roundw
            case rel => exact ⟨j + 1, by go_num, by omega, by rw [hnext.out, ← Bool.and_assoc, HU.out]; rfl, trivial⟩
            case measure => first | (simp [intOf]; done) | (simp [intOf]; omega)
        | true =>
          by_cases c1 : 97 ≤ (s[j]'hlt).toNat
          · have hl : Hid (letB (s[j]'hlt) = decide (((s[j]'hlt).toNat : Int) ≤ 122)) := by
              show letB _ = _
              unfold letB
              rw [decide_eq_true c1, Bool.true_and]
              exact decide_eq_decide.2 ⟨fun h => by omega, fun h => by omega⟩
            go_wp2_with fail
            all_goals
              go_roundw
              case rel => exact ⟨j + 1, by go_num, by omega, by rw [hnext.out, ← Bool.and_assoc, HU.out, hl.out]; simp, trivial⟩
              case measure => first | (simp [intOf]; done) | (simp [intOf]; omega)
          · have hl : Hid (letB (s[j]'hlt) = false) := by
              show letB _ = _
              unfold letB
              rw [decide_eq_false c1]
              rfl
            go_wp2_with fail
            all_goals
              go_roundw
              case rel => exact ⟨j + 1, by go_num, by omega, by rw [hnext.out, ← Bool.and_assoc, HU.out, hl.out]; simp, trivial⟩
              case measure => first | (simp [intOf]; done) | (simp [intOf]; omega)
      · obtain rfl : j = s.size := by omega
        have hfin : Hid ((s.data.toList.take s.size).all letB = s.data.toList.all letB) := by
          show (s.data.toList.take s.size).all letB = _
          rw [List.take_of_length_le (Nat.le_of_eq (size_list s))]
        obtain ⟨u, hu⟩ : ∃ u, (b1 && (s.data.toList.take s.size).all letB) = u := ⟨_, rfl⟩
        have HU := Lib.hid hu
        rw [hu]
        clear hu
        cases u with
        | false =>
          have hr : Hid (nameE s = 22) := by
            show nameE s = 22
            rw [hn.out, ← hfin.out, HU.out]; simp
          go_wp2_with fail
          go_ret
          exact ⟨by rw [hr.out]; rfl, rfl⟩
        | true =>
          have hr : Hid (nameE s = 0) := by
            show nameE s = 0
            rw [hn.out, ← hfin.out, HU.out]; simp
          go_wp2_with fail
          go_ret
          exact ⟨by rw [hr.out]; rfl, rfl⟩
end Go.Proofs.Ytdjfijdnhfmeeaa


