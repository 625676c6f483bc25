/- Texts: stretches between runes of a kind: the program's Parts. -/
import Derived.Test.YtooafilbmjnfmaaHB
namespace Go.Proofs.Ytooafilbmjnfmaa
open Go.RowKit Go.TM
theorem width_in (s : ByteArray) (pos : Nat) (h : pos < s.size) : pos + (Utf8.decode s pos).2 ≤ s.size := by
  unfold Utf8.decode
  simp only
  split
  · simp; omega
  · split
    · rename_i h2
      simp only [Bool.and_eq_true, decide_eq_true_eq] at h2
      split <;> simp <;> omega
    · split
      · rename_i h2
        simp only [Bool.and_eq_true, decide_eq_true_eq] at h2
        split <;> simp <;> omega
      · split
        · rename_i h2
          simp only [Bool.and_eq_true, decide_eq_true_eq] at h2
          split <;> simp <;> omega
        · simp; omega
def partsFrom (s : ByteArray) (by' : Int) : Nat → Nat → Nat → List ByteArray
  | 0, _, from' => [s.extract from' s.size]
  | b + 1, pos, from' => if pos < s.size then
      (if ((Utf8.decode s pos).1 : Int) = by' then s.extract from' pos :: partsFrom s by' b (pos + (Utf8.decode s pos).2) (pos + (Utf8.decode s pos).2) else partsFrom s by' b (pos + (Utf8.decode s pos).2) from')
    else [s.extract from' s.size]
def partsF (s : ByteArray) (by' : Int) : List ByteArray := partsFrom s by' s.size 0 0
theorem parts_end (s : ByteArray) (by' : Int) (b pos from' : Nat) (h : ¬ pos < s.size) : partsFrom s by' b pos from' = [s.extract from' s.size] := by
  cases b with
  | zero => rfl
  | succ b => exact if_neg h
theorem parts_cut {s : ByteArray} {by' : Int} {b pos from' : Nat} (h : pos < s.size) (hr : ((Utf8.decode s pos).1 : Int) = by') : partsFrom s by' (b + 1) pos from' = s.extract from' pos :: partsFrom s by' b (pos + (Utf8.decode s pos).2) (pos + (Utf8.decode s pos).2) := (if_pos h).trans (if_pos hr)
theorem parts_on {s : ByteArray} {by' : Int} {b pos from' : Nat} (h : pos < s.size) (hr : ¬ ((Utf8.decode s pos).1 : Int) = by') : partsFrom s by' (b + 1) pos from' = partsFrom s by' b (pos + (Utf8.decode s pos).2) from' := (if_pos h).trans (if_neg hr)
def kStr : Kd ByteArray := Kd.flat 1 (fun s => [.string s]) (fun _ => rfl) (by simp [Value.oneCell'])
theorem info9 : (Try.prog.info? 9).map (fun i => (i.zero, i.size, i.bytes)) = some (some (.string ⟨#[]⟩), kStr.sz, 16) := by kernel_rfl
def PartsPost (l : List ByteArray) (w : World) (e : Ending) (w' : World) : Prop :=
  ∃ A n c, e = .returned (.slice A n c) ∧ Hid (Own kStr 9 w' w.heap.size (fun k => w.heap.size ≤ k) (.slice A n c) l) ∧ Hid (Ext Non w w')
set_option maxRecDepth 100000 in
set_option maxHeartbeats 4000000 in
theorem Parts_calls (w : World) (s : ByteArray) (hs : s.size ≤ 1000000) (by' : Int) : Calls Try.prog 104 #[.string s, .int .i32 by'] w (PartsPost (partsF s by') w) := by
  obtain ⟨g, hg⟩ : ∃ g, g = w.heap.size := ⟨_, rfl⟩
  have HG := Lib.hid hg
  go_enter Try.func104, Try.ntmps104
  go_wp2_with fail
  have B0 : Hid ((w.iter s 0).heap[g]? = some (.stringIter s 0)) := by rw [hg]; exact World.iter_heap w s 0
  have E0 : Hid (Ext Non w (w.iter s 0)) := (Ext.refl Non w).alloc _
  rw [← HG.out]
  clear hg
  go_loopw [5, 6, 7] (fun v fr ct wr => ∃ (pos b fm : Nat) (cut : Bool) (seen : List ByteArray), Hid (wr.heap[g]? = some (.stringIter s pos)) ∧ Hid (Own kStr 9 wr (g + 1) (fun k => g < k) v seen) ∧ fr = .int .i64 (fm : Int) ∧ ct = .bool cut ∧ Hid (partsF s by' = seen ++ partsFrom s by' b pos (if cut then pos else fm)) ∧ seen.length ≤ pos ∧ fm ≤ pos ∧ pos ≤ s.size ∧ s.size ≤ pos + b ∧ Hid (Ext Non w wr)) (fun _ _ _ wr => s.size - wr.iterPos g)
  case atStart => exact ⟨0, s.size, 0, false, [], B0.out, Own.nil _ _ _ _ _, rfl, rfl, rfl, by simp, by omega, by omega, by omega, E0.out⟩
  case round =>
    obtain ⟨pos, b, fm, cut, seen, HB, HO, rfl, rfl, HS, hk, hfm, hps, hb, HE⟩ := hrel
    obtain ⟨Av, cv, rfl, hcv, hmv⟩ := HO.out.slice
    obtain ⟨nv, hnv⟩ : ∃ nv, nv = seen.length := ⟨_, rfl⟩
    have HNV := Lib.hid hnv
    have hgw : w.heap.size = g := HG.out.symm
    have hlg := blk_lt HB.out
    by_cases hpos : pos < s.size
    · have hnx : ∀ ty, (Instr.next (.pointer (some ⟨g, 0, none⟩)) true ty).run Try.prog wr = _ := fun ty => run_next_at wr g s pos ty HB.out hpos
      have hwd := width_pos s pos hpos
      obtain ⟨b', rfl⟩ : ∃ b', b = b' + 1 := ⟨b - 1, by omega⟩
      have hwi := width_in s pos hpos
      obtain ⟨w2, hw2⟩ : ∃ w2, World.setIter wr g s (pos + (Utf8.decode s pos).2) = w2 := ⟨_, rfl⟩
      rw [hw2] at hnx
      have HB2 : Hid (w2.heap[g]? = some (.stringIter s (pos + (Utf8.decode s pos).2))) := by rw [← hw2]; exact setIter_heap HB.out _ _
      have he2 : Ext (Only g) wr w2 := by rw [← hw2]; exact setIter_ext _ _ _ _
      have E2 : Hid (Ext Non w w2) := HE.out.trans he2 (fun i hi e => by have e1 : i = g := e; omega)
      have O2 := Lib.hid (HO.out.ext he2 (fun k hk _ e => by have e1 : k = g := e; omega))
      have hz2 := blk_lt HB2.out
      clear hw2 he2 hnv
      by_cases hrn : ((Utf8.decode s pos).1 : Int) = by'
      · have HR := Lib.hid hrn
        cases cut with
        | true =>
          have HS2 : Hid (partsF s by' = (seen ++ [ByteArray.empty]) ++ partsFrom s by' b' (pos + (Utf8.decode s pos).2) (if true then (pos + (Utf8.decode s pos).2) else pos)) := by
            show partsF s by' = _
            rw [HS.out, if_pos rfl]
            have h := parts_cut (s := s) (b := b') (from' := pos) hpos HR.out
            simp [h]
          go_wp2_with (first
            | (at_builtin
               refine wpList_app kStr (ok := fun k => g < k) (v := .slice Av seen.length cv) (vx := .slice (some ⟨w2.heap.size, 0, none⟩) 1 1) (xs := seen) (ys := [ByteArray.empty]) (g + 1) rfl _ _ 110 9 _ 16 rfl Try.underlying110 info9 rfl (by decide) (by simp [Act.eval]) (by simp [Act.eval]) (O2.out.ext0 ((Ext.refl _ _).alloc _)) (Rd.lit_at (cs := [.string (ByteArray.empty)]) (e := 9) (fr := (0, 0)) (heap_alloc_new w2 _) rfl ⟨by omega, fun e => by have := (O2.out.base_le _ e.symm).2; omega⟩) (fun k hk => by simp at hk; omega) (by simp; omega) (by simp; omega) (by simp; omega) ?_
               intro v' w' hown hext hblk)
            | fail)
          have E3 : Hid (Ext Non w w') := (E2.out.alloc _).trans hext (fun i hi e => by have := (O2.out.base_le i e.symm).1; omega)
          have hb3 : Hid (w'.heap[g]? = some (.stringIter s (pos + (Utf8.decode s pos).2))) := hext.obj (blk_alloc HB2.out _) (fun e => by have := (O2.out.base_le g e.symm).1; omega)
          have O3 := Lib.hid hown
          have hi0 : wr.iterPos g = pos := by simp [World.iterPos, HB.out]
          have hi3 : w'.iterPos g = pos + (Utf8.decode s pos).2 := by simp [World.iterPos, hb3.out]
          go_roundw
          case rel => exact ⟨pos + (Utf8.decode s pos).2, b', pos, true, seen ++ [ByteArray.empty], hb3.out, O3.out, rfl, rfl, HS2.out, by simp; omega, by omega, by omega, by omega, E3.out⟩
          case measure => rw [hi0, hi3]; omega
        | false =>
          have HS2 : Hid (partsF s by' = (seen ++ [s.extract fm pos]) ++ partsFrom s by' b' (pos + (Utf8.decode s pos).2) (if true then (pos + (Utf8.decode s pos).2) else fm)) := by
            show partsF s by' = _
            rw [HS.out, if_pos rfl]
            have h := parts_cut (s := s) (b := b') (from' := fm) hpos HR.out
            simp [h]
          go_wp2_with (first
            | (at_builtin
               refine wpList_app kStr (ok := fun k => g < k) (v := .slice Av seen.length cv) (vx := .slice (some ⟨w2.heap.size, 0, none⟩) 1 1) (xs := seen) (ys := [s.extract fm pos]) (g + 1) rfl _ _ 110 9 _ 16 rfl Try.underlying110 info9 rfl (by decide) (by simp [Act.eval]) (by simp [Act.eval]) (O2.out.ext0 ((Ext.refl _ _).alloc _)) (Rd.lit_at (cs := [.string (s.extract fm pos)]) (e := 9) (fr := (0, 0)) (heap_alloc_new w2 _) rfl ⟨by omega, fun e => by have := (O2.out.base_le _ e.symm).2; omega⟩) (fun k hk => by simp at hk; omega) (by simp; omega) (by simp; omega) (by simp; omega) ?_
               intro v' w' hown hext hblk)
            | fail)
          have E3 : Hid (Ext Non w w') := (E2.out.alloc _).trans hext (fun i hi e => by have := (O2.out.base_le i e.symm).1; omega)
          have hb3 : Hid (w'.heap[g]? = some (.stringIter s (pos + (Utf8.decode s pos).2))) := hext.obj (blk_alloc HB2.out _) (fun e => by have := (O2.out.base_le g e.symm).1; omega)
          have O3 := Lib.hid hown
          have hi0 : wr.iterPos g = pos := by simp [World.iterPos, HB.out]
          have hi3 : w'.iterPos g = pos + (Utf8.decode s pos).2 := by simp [World.iterPos, hb3.out]
          go_roundw
          case rel => exact ⟨pos + (Utf8.decode s pos).2, b', fm, true, seen ++ [s.extract fm pos], hb3.out, O3.out, rfl, rfl, HS2.out, by simp; omega, by omega, by omega, by omega, E3.out⟩
          case measure => rw [hi0, hi3]; omega
      · have HR := Lib.hid hrn
        cases cut with
        | true =>
          have HS2 : Hid (partsF s by' = seen ++ partsFrom s by' b' (pos + (Utf8.decode s pos).2) (if false then (pos + (Utf8.decode s pos).2) else pos)) := by
            show partsF s by' = _
            rw [HS.out]
            have h := parts_on (s := s) (b := b') (from' := pos) hpos HR.out
            simp [h]
          go_wp2_with fail
          have hi0 : wr.iterPos g = pos := by simp [World.iterPos, HB.out]
          have hi3 : w2.iterPos g = pos + (Utf8.decode s pos).2 := by simp [World.iterPos, HB2.out]
          go_roundw
          case rel => exact ⟨pos + (Utf8.decode s pos).2, b', pos, false, seen, HB2.out, O2.out, rfl, rfl, HS2.out, by omega, by omega, by omega, by omega, E2.out⟩
          case measure => rw [hi0, hi3]; omega
        | false =>
          have HS2 : Hid (partsF s by' = seen ++ partsFrom s by' b' (pos + (Utf8.decode s pos).2) (if false then (pos + (Utf8.decode s pos).2) else fm)) := by
            show partsF s by' = _
            rw [HS.out]
            have h := parts_on (s := s) (b := b') (from' := fm) hpos HR.out
            simp [h]
          go_wp2_with fail
          have hi0 : wr.iterPos g = pos := by simp [World.iterPos, HB.out]
          have hi3 : w2.iterPos g = pos + (Utf8.decode s pos).2 := by simp [World.iterPos, HB2.out]
          go_roundw
          case rel => exact ⟨pos + (Utf8.decode s pos).2, b', fm, false, seen, HB2.out, O2.out, rfl, rfl, HS2.out, by omega, by omega, by omega, by omega, E2.out⟩
          case measure => rw [hi0, hi3]; omega
    · have hnx : ∀ ty, (Instr.next (.pointer (some ⟨g, 0, none⟩)) true ty).run Try.prog wr = _ := fun ty => run_next_stop wr g s pos ty HB.out hpos
      have hpe : pos = s.size := by omega
      have E2 := HE
      have O2 := HO
      have hz2 := hlg
      clear hnv
      cases cut with
      | true =>
        have hfin : Hid (partsF s by' = seen ++ [ByteArray.empty]) := by
          show _ = _
          rw [HS.out, parts_end s by' b pos _ hpos, if_pos rfl, hpe]
          simp
        go_wp2_with (first
          | (at_builtin
             refine wpList_app kStr (ok := fun k => g < k) (v := .slice Av seen.length cv) (vx := .slice (some ⟨wr.heap.size, 0, none⟩) 1 1) (xs := seen) (ys := [ByteArray.empty]) (g + 1) rfl _ _ 110 9 _ 16 rfl Try.underlying110 info9 rfl (by decide) (by simp [Act.eval]) (by simp [Act.eval]) (O2.out.ext0 ((Ext.refl _ _).alloc _)) (Rd.lit_at (cs := [.string ByteArray.empty]) (e := 9) (fr := (0, 0)) (heap_alloc_new wr _) rfl ⟨by omega, fun e => by have := (O2.out.base_le _ e.symm).2; omega⟩) (fun k hk => by simp at hk; omega) (by simp; omega) (by simp; omega) (by simp; omega) ?_
             intro v' w' hown hext hblk)
          | fail)
        obtain ⟨A4, c4, rfl, _, _⟩ := hown.slice
        have E3 : Hid (Ext Non w w') := (E2.out.alloc _).trans hext (fun i hi e => by have := (O2.out.base_le i e.symm).1; omega)
        have O3 := Lib.hid hown
        go_ret
        refine ⟨_, _, _, rfl, ?_, E3.out⟩
        show Own _ _ _ _ _ _ _
        rw [hfin.out]
        exact (O3.out.lower (by omega)).mono (fun k hk => by omega)
      | false =>
        have hfin : Hid (partsF s by' = seen ++ [s.extract fm s.size]) := by
          show _ = _
          rw [HS.out, parts_end s by' b pos _ hpos, if_neg (by simp)]
        go_wp2_with (first
          | (at_builtin
             refine wpList_app kStr (ok := fun k => g < k) (v := .slice Av seen.length cv) (vx := .slice (some ⟨wr.heap.size, 0, none⟩) 1 1) (xs := seen) (ys := [s.extract fm s.size]) (g + 1) rfl _ _ 110 9 _ 16 rfl Try.underlying110 info9 rfl (by decide) (by simp [Act.eval]) (by simp [Act.eval]) (O2.out.ext0 ((Ext.refl _ _).alloc _)) (Rd.lit_at (cs := [.string (s.extract fm s.size)]) (e := 9) (fr := (0, 0)) (heap_alloc_new wr _) rfl ⟨by omega, fun e => by have := (O2.out.base_le _ e.symm).2; omega⟩) (fun k hk => by simp at hk; omega) (by simp; omega) (by simp; omega) (by simp; omega) ?_
             intro v' w' hown hext hblk)
          | fail)
        obtain ⟨A4, c4, rfl, _, _⟩ := hown.slice
        have E3 : Hid (Ext Non w w') := (E2.out.alloc _).trans hext (fun i hi e => by have := (O2.out.base_le i e.symm).1; omega)
        have O3 := Lib.hid hown
        go_ret
        refine ⟨_, _, _, rfl, ?_, E3.out⟩
        show Own _ _ _ _ _ _ _
        rw [hfin.out]
        exact (O3.out.lower (by omega)).mono (fun k hk => by omega)
end Go.Proofs.Ytooafilbmjnfmaa
