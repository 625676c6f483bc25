/- Texts: Runes of the document: the iterator is not the last block. Texts: the document's many, Key, Value. -/
import Derived.Test.YtooafilbmjnfmaaFB
namespace Go.Proofs.Ytooafilbmjnfmaa
open Go.RowKit Go.TM

def World.setIter (w : World) (g : Nat) (s : ByteArray) (pos : Nat) : World := { w with heap := w.heap.setIfInBounds g (.stringIter s pos) }
theorem run_next_at {P : Program} (w : World) (g : Nat) (s : ByteArray) (pos : Nat) (ty : TypeId) (hg : w.heap[g]? = some (.stringIter s pos)) (h : pos < s.size) :
    (Instr.next (.pointer (some ⟨g, 0, none⟩)) true ty).run P w = .ok (.tuple #[.bool true, .int .i64 pos, .int .i32 (Utf8.decode s pos).1]) (World.setIter w g s (pos + (Utf8.decode s pos).2)) := by
  simp only [Instr.next, getObj, setObj, Sem.run_bind, Sem.run, hg, Result.andThen, h, if_true]
  simp [goInt, World.setIter]
theorem run_next_stop {P : Program} (w : World) (g : Nat) (s : ByteArray) (pos : Nat) (ty : TypeId) (hg : w.heap[g]? = some (.stringIter s pos)) (h : ¬ pos < s.size) :
    (Instr.next (.pointer (some ⟨g, 0, none⟩)) true ty).run P w = .ok (.tuple #[.bool false]) w := by
  simp [Instr.next, getObj, Sem.run, hg, h]
theorem setIter_heap {w : World} {g : Nat} {o : Obj} (hg : w.heap[g]? = some o) (s : ByteArray) (pos : Nat) : (World.setIter w g s pos).heap[g]? = some (.stringIter s pos) := by
  have := (Array.getElem?_eq_some_iff.1 hg).1
  simp [World.setIter, this]
theorem setIter_ext (w : World) (g : Nat) (s : ByteArray) (pos : Nat) : Ext (Only g) w (World.setIter w g s pos) :=
  ⟨rfl, rfl, rfl, by simp [World.setIter], fun k _ hk => by
    have hk' : g ≠ k := fun e => hk e.symm
    simp [World.setIter, hk']⟩
def kI32 : Kd Int := Kd.flat 1 (fun n => [.int .i32 n]) (fun _ => rfl) (by simp [Value.oneCell'])
theorem info21 : (Try.prog.info? 21).map (fun i => (i.zero, i.size, i.bytes)) = some (some (.int .i32 0), kI32.sz, 4) := by kernel_rfl
def RunesPost (l : List Int) (w : World) (e : Ending) (w' : World) : Prop :=
  ∃ A n c, e = .returned (.slice A n c) ∧ Hid (Own kI32 21 w' w.heap.size (fun k => w.heap.size ≤ k) (.slice A n c) l) ∧ Hid (Ext Non w w')
set_option maxHeartbeats 1000000 in
theorem Runes_calls (w : World) (s : ByteArray) (hs : s.size ≤ 1000000) : Calls Try.prog 79 #[.string s] w (RunesPost (runes s) w) := by
  obtain ⟨g, hg⟩ : ∃ g, g = w.heap.size := ⟨_, rfl⟩
  have HG := Lib.hid hg
  go_enter Try.func79, Try.ntmps79
  go_wp2_with fail
  have B0 : Hid ((w.iter s 0).heap[g]? = some (.stringIter s 0)) := by rw [hg]; exact World.iter_heap w s 0
  have E0 : Hid (Ext Non w (w.iter s 0)) := (Ext.refl Non w).alloc _
  rw [← HG.out]
  clear hg
  go_loopw [3] (fun v wr => ∃ (pos b : Nat) (seen : List Int), Hid (wr.heap[g]? = some (.stringIter s pos)) ∧ Hid (Own kI32 21 wr (g + 1) (fun k => g < k) v seen) ∧ Hid (runes s = seen ++ runesFrom s b pos) ∧ seen.length ≤ pos ∧ s.size ≤ pos + b ∧ Hid (Ext Non w wr)) (fun _ wr => s.size - wr.iterPos g)
  case atStart => exact ⟨0, s.size, [], B0.out, Own.nil _ _ _ _ _, rfl, by simp, by omega, E0.out⟩
  case round =>
    obtain ⟨pos, b, seen, HB, HO, HS, hk, hb, HE⟩ := hrel
    obtain ⟨Av, cv, rfl, hcv, hmv⟩ := HO.out.slice
    obtain ⟨nv, hnv⟩ : ∃ nv, nv = seen.length := ⟨_, rfl⟩
    have HNV := Lib.hid hnv
    have hgw : w.heap.size = g := HG.out.symm
    have hlg := blk_lt HB.out
    by_cases hpos : pos < s.size
    · have hnx : ∀ ty, (Instr.next (.pointer (some ⟨g, 0, none⟩)) true ty).run Try.prog wr = _ := fun ty => run_next_at wr g s pos ty HB.out hpos
      have hwd := width_pos s pos hpos
      obtain ⟨b', rfl⟩ : ∃ b', b = b' + 1 := ⟨b - 1, by omega⟩
      obtain ⟨w2, hw2⟩ : ∃ w2, World.setIter wr g s (pos + (Utf8.decode s pos).2) = w2 := ⟨_, rfl⟩
      rw [hw2] at hnx
      have HB2 : Hid (w2.heap[g]? = some (.stringIter s (pos + (Utf8.decode s pos).2))) := by rw [← hw2]; exact setIter_heap HB.out _ _
      have he2 : Ext (Only g) wr w2 := by rw [← hw2]; exact setIter_ext _ _ _ _
      have E2 : Hid (Ext Non w w2) := HE.out.trans he2 (fun i hi e => by have e1 : i = g := e; omega)
      have O2 := Lib.hid (HO.out.ext he2 (fun k hk _ e => by have e1 : k = g := e; omega))
      have HS2 : Hid (runes s = (seen ++ [((Utf8.decode s pos).1 : Int)]) ++ runesFrom s b' (pos + (Utf8.decode s pos).2)) := by
        show runes s = _
        rw [HS.out]
        simp [runesFrom, hpos]
      have hz2 := blk_lt HB2.out
      clear hw2 he2 hnv
      go_wp2_with (first
        | (at_builtin
           refine wpList_app kI32 (ok := fun k => g < k) (v := .slice Av seen.length cv) (vx := .slice (some ⟨w2.heap.size, 0, none⟩) 1 1) (xs := seen) (ys := [((Utf8.decode s pos).1 : Int)]) (g + 1) rfl _ _ 116 21 _ 4 rfl Try.underlying116 info21 rfl (by decide) (by simp [Act.eval]) (by simp [Act.eval]) (O2.out.ext0 ((Ext.refl _ _).alloc _)) (Rd.lit_at (cs := [.int .i32 ((Utf8.decode s pos).1 : Int)]) (e := 21) (fr := (0, 0)) (heap_alloc_new w2 _) rfl ⟨by omega, fun e => by have := (O2.out.base_le _ e.symm).2; omega⟩) (fun k hk => by simp at hk; omega) (by simp; omega) (by simp; omega) (by simp; omega) ?_
           intro v' w' hown hext hblk)
        | fail)
      have E3 : Hid (Ext Non w w') := (E2.out.alloc _).trans hext (fun i hi e => by have := (O2.out.base_le i e.symm).1; omega)
      have hb3 : Hid (w'.heap[g]? = some (.stringIter s (pos + (Utf8.decode s pos).2))) := hext.obj (blk_alloc HB2.out _) (fun e => by have := (O2.out.base_le g e.symm).1; omega)
      have O3 := Lib.hid hown
      have hi0 : wr.iterPos g = pos := by simp [World.iterPos, HB.out]
      have hi3 : w'.iterPos g = pos + (Utf8.decode s pos).2 := by simp [World.iterPos, hb3.out]
      go_roundw
      case rel => exact ⟨pos + (Utf8.decode s pos).2, b', seen ++ [((Utf8.decode s pos).1 : Int)], hb3.out, O3.out, HS2.out, by simp; omega, by omega, E3.out⟩
      case measure => rw [hi0, hi3]; omega
    · have hnx : ∀ ty, (Instr.next (.pointer (some ⟨g, 0, none⟩)) true ty).run Try.prog wr = _ := fun ty => run_next_stop wr g s pos ty HB.out hpos
      have hr : Hid (runes s = seen) := by
        show runes s = seen
        rw [HS.out, runes_end s b pos hpos, List.append_nil]
      clear hnv
      go_wp2_with fail
      go_ret
      refine ⟨_, _, _, rfl, ?_, HE.out⟩
      rw [hr.out, hgw]
      exact (HO.out.lower (by omega)).mono (fun k hk => by omega)
end Go.Proofs.Ytooafilbmjnfmaa

namespace Go.Proofs.Ytooafilbmjnfmaa
open Go.RowKit Go.TM

theorem runes_len (s : ByteArray) : ∀ (b pos : Nat), (runesFrom s b pos).length ≤ b
  | 0, _ => by simp [runesFrom]
  | b + 1, pos => by
    unfold runesFrom
    split
    · have := runes_len s b (pos + (Utf8.decode s pos).2)
      simp
      omega
    · simp
set_option maxHeartbeats 1000000 in
theorem many_calls (w : World) (s : ByteArray) (hs : s.size ≤ 1000000) (least most : Int) :
    Calls Try.prog 78 #[.string s, .int .i64 least, .int .i64 most] w fun e w' => e = .returned (.bool (allOf isPlain least most (runes s))) ∧ Ext Non w w' := by
  have hlen : (runes s).length ≤ 1000000 := Nat.le_trans (runes_len s _ _) hs
  obtain ⟨l, hl⟩ : ∃ l, runes s = l := ⟨_, rfl⟩
  rw [hl] at hlen ⊢
  have HL := Lib.hid hl
  obtain ⟨b1, hb1⟩ : ∃ b1, (decide (least ≤ (l.length : Int)) && decide ((l.length : Int) ≤ most)) = b1 := ⟨_, rfl⟩
  have HB1 := Lib.hid hb1
  have hall : Hid (allOf isPlain least most l = (b1 && l.all isPlain)) := by
    show allOf isPlain least most l = _
    unfold allOf
    rw [← hb1]
  clear hl hb1
  go_enter Try.func78, Try.ntmps78
  go_wp2_with fail
  refine (Runes_calls w s hs).mono ?_
  rw [HL.out]
  rintro e w1 ⟨A, n, c, rfl, HO, HE⟩
  obtain ⟨_, c', he, hc, hm⟩ := HO.out.slice
  simp only [Value.slice.injEq] at he
  obtain ⟨-, rfl, rfl⟩ := he
  have q0 : (l.length : Int) ≤ 1000000 := by omega
  have hcase : (least ≤ (l.length : Int) ∧ (l.length : Int) ≤ most ∧ Hid (b1 = true)) ∨ (least ≤ (l.length : Int) ∧ most < (l.length : Int) ∧ Hid (b1 = false)) ∨ ((l.length : Int) < least ∧ Hid (b1 = false)) := by
    have hb := HB1.out
    by_cases h1 : least ≤ (l.length : Int)
    · by_cases h2 : (l.length : Int) ≤ most
      · exact .inl ⟨h1, h2, by rw [← hb, decide_eq_true h1, decide_eq_true h2]; rfl⟩
      · exact .inr (.inl ⟨h1, by omega, by rw [← hb, decide_eq_false h2, Bool.and_false]; rfl⟩)
    · exact .inr (.inr ⟨by omega, by rw [← hb, decide_eq_false h1]; rfl⟩)
  have R1 := Lib.hid HO.out.rd
  clear HB1 HO hc hm
  rcases hcase with ⟨h1, h2, hB⟩ | ⟨h1, h2, hB⟩ | ⟨h1, hB⟩
  all_goals
    go_wp2_with fail
    go_loopw [8, 25] (fun v i wr => ∃ j : Nat, i = .int .i64 (j : Int) ∧ j ≤ l.length ∧ v = .bool (b1 && (l.take j).all isPlain) ∧ Hid (Ext Non w1 wr)) (fun _ i _ => l.length - (intOf i).toNat)
    case atStart => exact ⟨0, rfl, by omega, by rw [hB.out]; first | (simp; done) | (simp; omega), Ext.refl _ _⟩
    case round =>
      obtain ⟨j, rfl, hj, rfl, HE2⟩ := hrel
      by_cases hlt : j < l.length
      · obtain ⟨x, hx⟩ : ∃ x, l[j]? = some x := ⟨_, List.getElem?_eq_getElem hlt⟩
        obtain ⟨gl, off, rfl, _, hgl, hc⟩ := (R1.out.ext0 HE2.out).flat_at hx
        have d0 := hc 0 _ rfl
        simp only [Nat.add_zero, Nat.mul_one] at d0
        have hnext : (l.take (j + 1)).all isPlain = ((l.take j).all isPlain && isPlain x) := by rw [List.take_add_one, hx]; simp
        have HN := Lib.hid hnext
        obtain ⟨u, hu⟩ : ∃ u, (b1 && (l.take j).all isPlain) = u := ⟨_, rfl⟩
        have HU := Lib.hid hu
        rw [hu]
        clear hc hx hnext hu
        cases u with
        | false =>
          go_wp2_with fail
          go_roundw
          case rel => exact ⟨j + 1, by go_num, by omega, by rw [HN.out, ← Bool.and_assoc, HU.out]; rfl, HE2.out⟩
          case measure => simp [intOf]; omega
        | true =>
          go_wp2_with fail
          refine (plainR_calls _ _).mono ?_
          rintro e w5 ⟨rfl, rfl⟩
          go_wp2_with fail
          go_roundw
          case rel => exact ⟨j + 1, by go_num, by omega, by rw [HN.out, ← Bool.and_assoc, HU.out]; simp, HE2.out⟩
          case measure => simp [intOf]; omega
      · obtain rfl : j = l.length := by omega
        go_wp2_with fail
        go_ret
        refine ⟨?_, HE.out.trans0 HE2.out⟩
        rw [hall.out, List.take_length]
        rfl
end Go.Proofs.Ytooafilbmjnfmaa

