/- Texts: the document's Parts. -/
import Derived.Test.YtooafilbmjnfmaaM2
namespace Go.Proofs.Ytooafilbmjnfmaa
open Go.RowKit Go.TM
/-- The places of the runes from a place on, and the end. -/
def endsFrom (s : ByteArray) : Nat → Nat → List Int
  | 0, _ => []
  | b + 1, pos => if pos < s.size then (pos : Int) :: endsFrom s b (pos + (Utf8.decode s pos).2) else []
theorem ends_end (s : ByteArray) (b pos : Nat) (h : ¬ pos < s.size) : endsFrom s b pos = [] := by
  cases b with
  | zero => rfl
  | succ b => exact if_neg h
theorem ends_on {s : ByteArray} {b pos : Nat} (h : pos < s.size) : endsFrom s (b + 1) pos = (pos : Int) :: endsFrom s b (pos + (Utf8.decode s pos).2) := if_pos h
def kI64 : Kd Int := Kd.flat 1 (fun n => [.int .i64 n]) (fun _ => rfl) (by simp [Value.oneCell'])
theorem info3 : (Try.prog.info? 3).map (fun i => (i.zero, i.size, i.bytes)) = some (some (.int .i64 0), kI64.sz, 8) := by kernel_rfl
/-- Behind the places of the runes before stands this rune's place, then the next one's (or the end). -/
theorem ends_next {s : ByteArray} {b pos : Nat} (h : pos < s.size) (hb : s.size ≤ pos + (b + 1)) : ∃ t, endsFrom s (b + 1) pos ++ [(s.size : Int)] = (pos : Int) :: ((pos + (Utf8.decode s pos).2 : Nat) : Int) :: t := by
  rw [ends_on h]
  have h1 := width_in s pos h
  have h2 := width_pos s pos h
  by_cases h3 : pos + (Utf8.decode s pos).2 < s.size
  · obtain ⟨b', rfl⟩ : ∃ b', b = b' + 1 := ⟨b - 1, by omega⟩
    rw [ends_on h3]
    exact ⟨_, rfl⟩
  · rw [ends_end s b _ h3, show pos + (Utf8.decode s pos).2 = s.size by omega]
    exact ⟨[], rfl⟩
theorem ends_len (s : ByteArray) : ∀ (b pos : Nat), (endsFrom s b pos).length ≤ b
  | 0, _ => Nat.le_refl _
  | b + 1, pos => by
    by_cases h : pos < s.size
    · rw [ends_on h, List.length_cons]
      have := ends_len s b (pos + (Utf8.decode s pos).2)
      omega
    · rw [ends_end s (b + 1) pos h]
      simp
theorem _root_.Go.TM.Own.of_ok {α : Type} {sz : Nat} {enc : α → List Value} {hl : ∀ x, (enc x).length = sz} {h1 : ∀ x, ∀ u ∈ enc x, u.oneCell' = true} {e : TypeId} {w : World} {base : Nat} {ok ok' : Nat → Prop} {v : Value} {xs : List α} (h : Own (Kd.flat sz enc hl h1) e w base ok v xs) (hok : ∀ k, v.ownBlock = some k → ok' k) : Own (Kd.flat sz enc hl h1) e w base ok' v xs := by
  obtain ⟨_, inner, ho, hr⟩ := h
  exact ⟨hok, inner, ho, hr.1, fun j x hj => hr.2 j x hj⟩
set_option maxRecDepth 100000 in
set_option maxHeartbeats 8000000 in
theorem RParts_calls (w : World) (s : ByteArray) (hs : s.size ≤ 1000000) (by' : Int) : Calls Try.prog 74 #[.string s, .int .i32 by'] w (PartsPost (partsF s by') w) := by
  go_enter Try.func74, Try.ntmps74
  go_wp2_with fail
  obtain ⟨w0, hw0⟩ : ∃ w0, w.alloc (.cells #[] 9) = w0 := ⟨_, rfl⟩
  have OUT0 : Hid (Own kStr 9 w0 w.heap.size (fun k => w.heap.size ≤ k) (.slice (some ⟨w.heap.size, 0, none⟩) 0 0) []) := by
    show Own _ _ _ _ _ _ _
    rw [← hw0]
    exact Own.lit (xs := []) (inner := []) (Reps.nil _ _ _) (Nat.le_refl _) (by simp) (Nat.le_refl _)
  have E0 : Hid (Ext Non w w0) := by
    show Ext Non w w0
    rw [← hw0]
    exact (Ext.refl _ _).alloc _
  obtain ⟨g, hg⟩ : ∃ g, g = w0.heap.size := ⟨_, rfl⟩
  have hz0 : w.heap.size < g := by rw [hg, ← hw0]; simp
  have HG := Lib.hid hg
  have HW0 := Lib.hid hw0
  clear hg hw0
  go_wp2_with fail
  rw [HW0.out]
  have hgw : w0.heap.size = g := HG.out.symm
  have B0 : Hid ((w0.iter s 0).heap[g]? = some (.stringIter s 0)) := by show _ = _; rw [HG.out]; exact World.iter_heap w0 s 0
  have F0 : Hid (Ext Non w0 (w0.iter s 0)) := (Ext.refl Non w0).alloc _
  have hgw' : w.heap.size + 1 = g := by rw [HG.out, ← HW0.out]; simp
  rw [hgw']
  go_loopw [5] (fun v wr => ∃ (pos b : Nat) (seen : List Int), Hid (wr.heap[g]? = some (.stringIter s pos)) ∧ Hid (Own kI64 3 wr (g + 1) (fun k => g < k) v seen) ∧ Hid (endsFrom s s.size 0 = seen ++ endsFrom s b pos) ∧ seen.length ≤ pos ∧ pos ≤ s.size ∧ s.size ≤ pos + b ∧ Hid (Ext Non w0 wr)) (fun _ wr => s.size - wr.iterPos g)
  case atStart => exact ⟨0, s.size, [], B0.out, Own.nil _ _ _ _ _, rfl, by simp, by omega, by omega, F0.out⟩
  case round =>
    obtain ⟨pos, b, seen, HB, HO, HS, hk, hps, hb, HE⟩ := hrel
    obtain ⟨Av, cv, rfl, hcv, hmv⟩ := HO.out.slice
    obtain ⟨nv, hnv⟩ : ∃ nv, nv = seen.length := ⟨_, rfl⟩
    have HNV := Lib.hid hnv
    have hlg := blk_lt HB.out
    by_cases hpos : pos < s.size
    · have hnx : ∀ ty, (Instr.next (.pointer (some ⟨g, 0, none⟩)) true ty).run Try.prog wr = _ := fun ty => run_next_at wr g s pos ty HB.out hpos
      have hwd := width_pos s pos hpos
      have hwi := width_in s pos hpos
      obtain ⟨b', rfl⟩ : ∃ b', b = b' + 1 := ⟨b - 1, by omega⟩
      obtain ⟨w2, hw2⟩ : ∃ w2, World.setIter wr g s (pos + (Utf8.decode s pos).2) = w2 := ⟨_, rfl⟩
      rw [hw2] at hnx
      have HB2 : Hid (w2.heap[g]? = some (.stringIter s (pos + (Utf8.decode s pos).2))) := by rw [← hw2]; exact setIter_heap HB.out _ _
      have he2 : Ext (Only g) wr w2 := by rw [← hw2]; exact setIter_ext _ _ _ _
      have E2 : Hid (Ext Non w0 w2) := HE.out.trans he2 (fun i hi e => by have e1 : i = g := e; omega)
      have O2 := Lib.hid (HO.out.ext he2 (fun k hk _ e => by have e1 : k = g := e; omega))
      have HS2 : Hid (endsFrom s s.size 0 = (seen ++ [(pos : Int)]) ++ endsFrom s b' (pos + (Utf8.decode s pos).2)) := by
        show endsFrom s s.size 0 = _
        rw [HS.out, ends_on hpos]
        simp
      have hz2 := blk_lt HB2.out
      clear hw2 he2 hnv
      go_wp2_with (first
        | (at_builtin
           refine wpList_app kI64 (ok := fun k => g < k) (v := .slice Av seen.length cv) (vx := .slice (some ⟨w2.heap.size, 0, none⟩) 1 1) (xs := seen) (ys := [(pos : Int)]) (g + 1) rfl _ _ 115 3 _ 8 rfl Try.underlying115 info3 rfl (by decide) (by simp [Act.eval]) (by simp [Act.eval]) (O2.out.ext0 ((Ext.refl _ _).alloc _)) (Rd.lit_at (cs := [.int .i64 (pos : Int)]) (e := 3) (fr := (0, 0)) (heap_alloc_new w2 _) rfl ⟨by omega, fun e => by have := (O2.out.base_le _ e.symm).2; omega⟩) (fun k hk => by simp at hk; omega) (by simp; omega) (by simp; omega) (by simp; omega) ?_
           intro v' w' hown hext hblk)
        | fail)
      have E3 : Hid (Ext Non w0 w') := (E2.out.alloc _).trans hext (fun i hi e => by have := (O2.out.base_le i e.symm).1; omega)
      have hb3 : Hid (w'.heap[g]? = some (.stringIter s (pos + (Utf8.decode s pos).2))) := hext.obj (blk_alloc HB2.out _) (fun e => by have := (O2.out.base_le g e.symm).1; omega)
      have O3 := Lib.hid hown
      have hi0 : wr.iterPos g = pos := by simp [World.iterPos, HB.out]
      have hi3 : w'.iterPos g = pos + (Utf8.decode s pos).2 := by simp [World.iterPos, hb3.out]
      go_roundw
      case rel => exact ⟨pos + (Utf8.decode s pos).2, b', seen ++ [(pos : Int)], hb3.out, O3.out, HS2.out, by simp; omega, by omega, by omega, E3.out⟩
      case measure => rw [hi0, hi3]; omega
    · have hnx : ∀ ty, (Instr.next (.pointer (some ⟨g, 0, none⟩)) true ty).run Try.prog wr = _ := fun ty => run_next_stop wr g s pos ty HB.out hpos
      have hr : Hid (endsFrom s s.size 0 = seen) := by
        show endsFrom s s.size 0 = seen
        rw [HS.out, ends_end s b pos hpos, List.append_nil]
      have O2 := HO
      have hz2 := hlg
      clear hnv
      go_wp2_with (first
        | (at_builtin
           refine wpList_app kI64 (ok := fun k => g < k) (v := .slice Av seen.length cv) (vx := .slice (some ⟨wr.heap.size, 0, none⟩) 1 1) (xs := seen) (ys := [(s.size : Int)]) (g + 1) rfl _ _ 115 3 _ 8 rfl Try.underlying115 info3 rfl (by decide) (by simp [Act.eval]) (by simp [Act.eval]) (O2.out.ext0 ((Ext.refl _ _).alloc _)) (Rd.lit_at (cs := [.int .i64 (s.size : Int)]) (e := 3) (fr := (0, 0)) (heap_alloc_new wr _) rfl ⟨by omega, fun e => by have := (O2.out.base_le _ e.symm).2; omega⟩) (fun k hk => by simp at hk; omega) (by simp; omega) (by simp; omega) (by simp; omega) ?_
           intro v' w' hown hext hblk)
        | fail)
      have E3 : Hid (Ext Non w0 w') := (HE.out.alloc _).trans hext (fun i hi e => by have := (O2.out.base_le i e.symm).1; omega)
      obtain ⟨A5, n5, c5, rfl⟩ : ∃ A n c, v' = .slice A n c := by obtain ⟨A5, c5, h5, _, _⟩ := hown.slice; exact ⟨_, _, _, h5⟩
      obtain ⟨EN, hEN⟩ : ∃ EN, seen ++ [(s.size : Int)] = EN := ⟨_, rfl⟩
      have HEN : Hid (EN = endsFrom s s.size 0 ++ [(s.size : Int)]) := by show _ = _; rw [hr.out, hEN]
      rw [hEN] at hown
      have RE := Lib.hid hown.rd.bound
      have OUT3 := Lib.hid (OUT0.out.ext0 E3.out)
      have hlen5 : n5 = EN.length := by
        obtain ⟨_, _, h5, _, _⟩ := hown.slice
        simp only [Value.slice.injEq] at h5
        exact h5.2.1
      have hl5 : EN.length ≤ s.size + 1 := by
        rw [← hEN, ← hr.out]
        have := ends_len s s.size 0
        simp
        omega
      have HL5 := Lib.hid hlen5
      have hn5i : (n5 : Int) ≤ 1000001 := by omega
      have hz3 := E3.out.size
      have hgl3 : g < w'.heap.size := blk_lt (hext.obj (blk_alloc HB.out _) (fun e => by have := (O2.out.base_le g e.symm).1; omega))
      clear hown hext hblk hEN hlen5 hl5
      obtain ⟨w3, hw3⟩ : ∃ w3, w3 = w' := ⟨_, rfl⟩
      subst hw3
      obtain ⟨g2, hg2⟩ : ∃ g2, g2 = w3.heap.size := ⟨_, rfl⟩
      have hgg : g < g2 := by rw [hg2]; omega
      have HG2 := Lib.hid hg2
      go_wp2_with fail
      have B2 : Hid ((w3.iter s 0).heap[g2]? = some (.stringIter s 0)) := by show _ = _; rw [HG2.out]; exact World.iter_heap w3 s 0
      have F2 : Hid (Ext Non w3 (w3.iter s 0)) := (Ext.refl Non w3).alloc _
      have hgw2 : w3.heap.size = g2 := HG2.out.symm
      rw [hgw2]
      clear hg2
      go_loopw [6, 7, 9] (fun fr v kk wr => ∃ (pos b fm k : Nat) (done : List ByteArray), fr = .int .i64 (fm : Int) ∧ kk = .int .i64 (k : Int) ∧ Hid (wr.heap[g2]? = some (.stringIter s pos)) ∧ Hid (Own kStr 9 wr w.heap.size (fun k => k = w.heap.size ∨ g2 < k) v done) ∧ Hid (Rd kI64 wr (fun k => g < k ∧ k < g2) (.slice A5 n5 c5) EN) ∧ Hid (EN.drop k = endsFrom s b pos ++ [(s.size : Int)]) ∧ Hid (partsF s by' = done ++ partsFrom s by' b pos fm) ∧ done.length ≤ pos ∧ k ≤ pos ∧ fm ≤ pos ∧ pos ≤ s.size ∧ s.size ≤ pos + b ∧ Hid (Ext Non w wr)) (fun _ _ _ wr => s.size - wr.iterPos g2)
      case atStart => exact ⟨0, s.size, 0, 0, [], rfl, rfl, B2.out, (OUT3.out.ext0 F2.out).of_ok (fun k hk => by simp [Value.ownBlock] at hk; exact .inl hk.symm), (RE.out.ext0 F2.out).mono (fun k hk => ⟨hk.1, by have := hk.2; omega⟩), by show _ = _; rw [List.drop_zero, HEN.out], rfl, by simp, by omega, by omega, by omega, by omega, (E0.out.trans0 E3.out).trans0 F2.out⟩
      case round =>
        obtain ⟨pos, b, fm, k, done, rfl, rfl, HB, HO, HR, HD, HS, hk, hkp, hfm, hps, hb, HE⟩ := hrel
        obtain ⟨Av, cv, rfl, hcv, hmv⟩ := HO.out.slice
        have HBL := Lib.hid HO.out.1
        have HBL2 := Lib.hid HO.out.base_le
        have hlg := blk_lt HB.out
        by_cases hpos : pos < s.size
        · have hnx : ∀ ty, (Instr.next (.pointer (some ⟨g2, 0, none⟩)) true ty).run Try.prog wr = _ := fun ty => run_next_at wr g2 s pos ty HB.out hpos
          have hwd := width_pos s pos hpos
          have hwi := width_in s pos hpos
          obtain ⟨b', rfl⟩ : ∃ b', b = b' + 1 := ⟨b - 1, by omega⟩
          obtain ⟨w4, hw4⟩ : ∃ w4, World.setIter wr g2 s (pos + (Utf8.decode s pos).2) = w4 := ⟨_, rfl⟩
          rw [hw4] at hnx
          have HB2 : Hid (w4.heap[g2]? = some (.stringIter s (pos + (Utf8.decode s pos).2))) := by rw [← hw4]; exact setIter_heap HB.out _ _
          have he2 : Ext (Only g2) wr w4 := by rw [← hw4]; exact setIter_ext _ _ _ _
          have E2 : Hid (Ext Non w w4) := HE.out.trans he2 (fun i hi e => by have e1 : i = g2 := e; omega)
          have O2 := Lib.hid (HO.out.ext he2 (fun k hk _ e => by have e1 : k = g2 := e; omega))
          have R2 := Lib.hid (HR.out.ext he2 (fun k hk _ e => by have e1 : k = g2 := e; have := hk.2; omega))
          have hz2 := blk_lt HB2.out
          obtain ⟨tl, htl⟩ := ends_next hpos hb
          have hdr := HD.out.trans htl
          have e0 : EN[k]? = some (pos : Int) := by
            have h := congrArg List.head? hdr
            rw [List.head?_drop] at h
            simpa using h
          have e1 : EN[k + 1]? = some ((pos + (Utf8.decode s pos).2 : Nat) : Int) := by
            have h := congrArg (fun l => l[1]?) hdr
            simp only [List.getElem?_drop] at h
            simpa using h
          have hD2 : Hid (EN.drop (k + 1) = endsFrom s b' (pos + (Utf8.decode s pos).2) ++ [(s.size : Int)]) := by
            show _ = _
            have h := congrArg List.tail HD.out
            rw [ends_on hpos, List.tail_drop] at h
            simpa using h
          obtain ⟨gl, off, rfl, hokl, hgl, hcc⟩ := R2.out.flat_at e0
          have hokl1 := hokl.1
          have hokl2 := hokl.2
          have d0 := hcc 0 _ rfl
          simp only [Nat.add_zero, Nat.mul_one] at d0
          obtain ⟨gl', off', hA', _, _, hcc'⟩ := R2.out.flat_at e1
          cases hA'
          have d1 := hcc' 0 _ rfl
          simp only [Nat.add_zero, Nat.mul_one] at d1
          have hkl : k + 1 < n5 := by rw [HL5.out]; exact (List.getElem?_eq_some_iff.1 e1).1
          obtain ⟨np, hnp⟩ : ∃ np, pos + (Utf8.decode s pos).2 = np := ⟨_, rfl⟩
          rw [hnp] at d1 HB2 hD2 hwi
          have hnp1 : pos < np := by omega
          have HNP := Lib.hid hnp
          clear hw4 he2 hcc hcc' hdr htl e0 e1 hnp
          by_cases hrn : ((Utf8.decode s pos).1 : Int) = by'
          · have hS2 : Hid (partsF s by' = (done ++ [s.extract fm pos]) ++ partsFrom s by' b' np np) := by
              show partsF s by' = _
              rw [HS.out, parts_cut hpos hrn, HNP.out]
              simp
            have hne : ∀ i, some i = (Value.slice Av done.length cv).ownBlock → (i = w.heap.size ∨ g2 < i) := fun i h => HBL.out i h.symm
            go_wp2_with (first
              | (at_builtin
                 refine wpList_app kStr (ok := fun k => k = w.heap.size ∨ g2 < k) (v := .slice Av done.length cv) (vx := .slice (some ⟨w4.heap.size, 0, none⟩) 1 1) (xs := done) (ys := [s.extract fm pos]) w.heap.size rfl _ _ 110 9 _ 16 rfl Try.underlying110 info9 rfl (by decide) (by simp [Act.eval]) (by simp [Act.eval]) (O2.out.ext0 ((Ext.refl _ _).alloc _)) (Rd.lit_at (cs := [.string (s.extract fm pos)]) (e := 9) (fr := (0, 0)) (heap_alloc_new w4 _) rfl ⟨.inr (by omega), fun e => by have := (O2.out.base_le _ e.symm).2; omega⟩) (fun k hk => .inr (by simp at hk; omega)) (by simp; omega) (by simp; omega) (by simp; omega) ?_
                 intro v' w' hown hext hblk
                 have d1' := hext.cell (((Ext.refl Non w4).alloc (.cells #[.string (s.extract fm pos)] 9)).cell d1 (fun h => h)) (fun e => by have e2 : some gl = (Value.slice Av done.length cv).ownBlock := e; have := hne gl e2; omega)
                 have hglw := Nat.le_trans ((Ext.refl Non w4).alloc (.cells #[.string (s.extract fm pos)] 9)).size hext.size)
              | fail)
            have EA := (Ext.refl Non w4).alloc (.cells #[.string (s.extract fm pos)] 9)
            have E3 : Hid (Ext Non w w') := (E2.out.trans0 EA).trans hext (fun i hi e => by have := (HBL2.out i e.symm).1; omega)
            have hb3 : Hid (w'.heap[g2]? = some (.stringIter s np)) := hext.obj (EA.obj HB2.out (fun h => h)) (fun e => by have := hne g2 e; omega)
            have R3 := Lib.hid ((R2.out.ext0 EA).ext hext (fun k hk _ e => by have := hne k e; have := hk.1; have := hk.2; omega))
            have O3 := Lib.hid hown
            obtain ⟨A6, n6, c6, rfl⟩ : ∃ A n c, v' = .slice A n c := by obtain ⟨A6, c6, h6, _, _⟩ := hown.slice; exact ⟨_, _, _, h6⟩
            have hi0 : wr.iterPos g2 = pos := by simp [World.iterPos, HB.out]
            have hi3 : w'.iterPos g2 = np := by simp [World.iterPos, hb3.out]
            go_roundw
            case rel => exact ⟨np, b', np, k + 1, done ++ [s.extract fm pos], rfl, by go_num, hb3.out, O3.out, R3.out, hD2.out, hS2.out, by simp; omega, by omega, by omega, by omega, by have := HNP.out; omega, E3.out⟩
            case measure => rw [hi0, hi3]; omega
          · have hS2 : Hid (partsF s by' = done ++ partsFrom s by' b' np fm) := by
              show partsF s by' = _
              rw [HS.out, parts_on hpos hrn, HNP.out]
            have HRN := Lib.hid hrn
            go_wp2_with fail
            have hi0 : wr.iterPos g2 = pos := by simp [World.iterPos, HB.out]
            have hi3 : w4.iterPos g2 = np := by simp [World.iterPos, HB2.out]
            go_roundw
            case rel => exact ⟨np, b', fm, k + 1, done, rfl, by go_num, HB2.out, O2.out, R2.out, hD2.out, hS2.out, by omega, by omega, by omega, by omega, by have := HNP.out; omega, E2.out⟩
            case measure => rw [hi0, hi3]; omega
        · have hnx : ∀ ty, (Instr.next (.pointer (some ⟨g2, 0, none⟩)) true ty).run Try.prog wr = _ := fun ty => run_next_stop wr g2 s pos ty HB.out hpos
          have hfin : Hid (partsF s by' = done ++ [s.extract fm s.size]) := by
            show _ = _
            rw [HS.out, parts_end s by' b pos _ hpos]
          have hfs : fm ≤ s.size := by omega
          go_wp2_with (first
            | (at_builtin
               refine wpList_app kStr (ok := fun k => k = w.heap.size ∨ g2 < k) (v := .slice Av done.length cv) (vx := .slice (some ⟨wr.heap.size, 0, none⟩) 1 1) (xs := done) (ys := [s.extract fm s.size]) w.heap.size rfl _ _ 110 9 _ 16 rfl Try.underlying110 info9 rfl (by decide) (by simp [Act.eval]) (by simp [Act.eval]) (HO.out.ext0 ((Ext.refl _ _).alloc _)) (Rd.lit_at (cs := [.string (s.extract fm s.size)]) (e := 9) (fr := (0, 0)) (heap_alloc_new wr _) rfl ⟨.inr (by omega), fun e => by have := (HBL2.out _ e.symm).2; omega⟩) (fun k hk => .inr (by simp at hk; omega)) (by simp; omega) (by simp; omega) (by simp; omega) ?_
               intro v' w' hown hext hblk)
            | fail)
          obtain ⟨A4, c4, rfl, _, _⟩ := hown.slice
          have E3 : Hid (Ext Non w w') := (HE.out.alloc _).trans hext (fun i hi e => by have := (HBL2.out i e.symm).1; omega)
          have O3 := Lib.hid hown
          go_ret
          refine ⟨_, _, _, rfl, ?_, E3.out⟩
          show Own _ _ _ _ _ _ _
          rw [hfin.out]
          exact O3.out.mono (fun k hk => by omega)
end Go.Proofs.Ytooafilbmjnfmaa
