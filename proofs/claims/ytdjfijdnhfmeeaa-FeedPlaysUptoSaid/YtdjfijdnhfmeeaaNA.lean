/- Texts: the document's Parts. Texts: the document's Field. PLAIN LAW: what may be deeper and later may be higher and sooner. -/
import Derived.Test.YtdjfijdnhfmeeaaMA
import Derived.Test.YtdjfijdnhfmeeaaSA
import Derived.Test.YtdjfijdnhfmeeaaHB
namespace Go.Proofs.Ytdjfijdnhfmeeaa
open Go.RowKit Go.TM
/-- The places of the runes from a place on, and the end. -/
def endsFrom (s : ByteArray) : Nat → Nat → List Int
  | 0, _ => []
  | b + 1, pos => if pos < s.size then (pos : Int) :: endsFrom s b (pos + (Utf8.decode s pos).2) else []
theorem ends_end (s : ByteArray) (b pos : Nat) (h : ¬ pos < s.size) : endsFrom s b pos = [] := by
  cases b with
  | zero => rfl
  | succ b => exact if_neg h
theorem ends_on {s : ByteArray} {b pos : Nat} (h : pos < s.size) : endsFrom s (b + 1) pos = (pos : Int) :: endsFrom s b (pos + (Utf8.decode s pos).2) := if_pos h
def kI64 : Kd Int := Kd.flat 1 (fun n => [.int .i64 n]) (fun _ => rfl) (by simp [Value.oneCell'])
theorem info3 : (Try.prog.info? 3).map (fun i => (i.zero, i.size, i.bytes)) = some (some (.int .i64 0), kI64.sz, 8) := by kernel_rfl
/-- Behind the places of the runes before stands this rune's place, then the next one's (or the end). -/
theorem ends_next {s : ByteArray} {b pos : Nat} (h : pos < s.size) (hb : s.size ≤ pos + (b + 1)) : ∃ t, endsFrom s (b + 1) pos ++ [(s.size : Int)] = (pos : Int) :: ((pos + (Utf8.decode s pos).2 : Nat) : Int) :: t := by
  rw [ends_on h]
  have h1 := width_in s pos h
  have h2 := width_pos s pos h
  by_cases h3 : pos + (Utf8.decode s pos).2 < s.size
  · obtain ⟨b', rfl⟩ : ∃ b', b = b' + 1 := ⟨b - 1, by omega⟩
    rw [ends_on h3]
    exact ⟨_, rfl⟩
  · rw [ends_end s b _ h3, show pos + (Utf8.decode s pos).2 = s.size by omega]
    exact ⟨[], rfl⟩
theorem ends_len (s : ByteArray) : ∀ (b pos : Nat), (endsFrom s b pos).length ≤ b
  | 0, _ => Nat.le_refl _
  | b + 1, pos => by
    by_cases h : pos < s.size
    · rw [ends_on h, List.length_cons]
      have := ends_len s b (pos + (Utf8.decode s pos).2)
      omega
    · rw [ends_end s (b + 1) pos h]
      simp
theorem _root_.Go.TM.Own.of_ok {α : Type} {sz : Nat} {enc : α → List Value} {hl : ∀ x, (enc x).length = sz} {h1 : ∀ x, ∀ u ∈ enc x, u.oneCell' = true} {e : TypeId} {w : World} {base : Nat} {ok ok' : Nat → Prop} {v : Value} {xs : List α} (h : Own (Kd.flat sz enc hl h1) e w base ok v xs) (hok : ∀ k, v.ownBlock = some k → ok' k) : Own (Kd.flat sz enc hl h1) e w base ok' v xs := by
  obtain ⟨_, inner, ho, hr⟩ := h
  exact ⟨hok, inner, ho, hr.1, fun j x hj => hr.2 j x hj⟩
set_option maxRecDepth 100000 in
set_option maxHeartbeats 8000000 in
theorem RParts_calls (w : World) (s : ByteArray) (hs : s.size ≤ 1048576) (by' : Int) : Calls Try.prog 106 #[.string s, .int .i32 by'] w (PartsPost (partsF s by') w) := by
  go_enter Try.func106, Try.ntmps106
  go_wp2_with fail
  obtain ⟨w0, hw0⟩ : ∃ w0, w.alloc (.cells #[] 9) = w0 := ⟨_, rfl⟩
  have OUT0 : Hid (Own kStr 9 w0 w.heap.size (fun k => w.heap.size ≤ k) (.slice (some ⟨w.heap.size, 0, none⟩) 0 0) []) := by
    show Own _ _ _ _ _ _ _
    rw [← hw0]
    exact Own.lit (xs := []) (inner := []) (Reps.nil _ _ _) (Nat.le_refl _) (by simp) (Nat.le_refl _)
  have E0 : Hid (Ext Non w w0) := by
    show Ext Non w w0
    rw [← hw0]
    exact (Ext.refl _ _).alloc _
  obtain ⟨g, hg⟩ : ∃ g, g = w0.heap.size := ⟨_, rfl⟩
  have hz0 : w.heap.size < g := by rw [hg, ← hw0]; simp
  have HG := Lib.hid hg
  have HW0 := Lib.hid hw0
  clear hg hw0
  go_wp2_with fail
  rw [HW0.out]
  have hgw : w0.heap.size = g := HG.out.symm
  have B0 : Hid ((w0.iter s 0).heap[g]? = some (.stringIter s 0)) := by show _ = _; rw [HG.out]; exact World.iter_heap w0 s 0
  have F0 : Hid (Ext Non w0 (w0.iter s 0)) := (Ext.refl Non w0).alloc _
  have hgw' : w.heap.size + 1 = g := by rw [HG.out, ← HW0.out]; simp
  rw [hgw']
  go_loopw [5] (fun v wr => ∃ (pos b : Nat) (seen : List Int), Hid (wr.heap[g]? = some (.stringIter s pos)) ∧ Hid (Own kI64 3 wr (g + 1) (fun k => g < k) v seen) ∧ Hid (endsFrom s s.size 0 = seen ++ endsFrom s b pos) ∧ seen.length ≤ pos ∧ pos ≤ s.size ∧ s.size ≤ pos + b ∧ Hid (Ext Non w0 wr)) (fun _ wr => s.size - wr.iterPos g)
  case atStart => exact ⟨0, s.size, [], B0.out, Own.nil _ _ _ _ _, rfl, by simp, by omega, by omega, F0.out⟩
  case round =>
    obtain ⟨pos, b, seen, HB, HO, HS, hk, hps, hb, HE⟩ := hrel
    obtain ⟨Av, cv, rfl, hcv, hmv⟩ := HO.out.slice
    obtain ⟨nv, hnv⟩ : ∃ nv, nv = seen.length := ⟨_, rfl⟩
    have HNV := Lib.hid hnv
    have hlg := blk_lt HB.out
    by_cases hpos : pos < s.size
    · have hnx : ∀ ty, (Instr.next (.pointer (some ⟨g, 0, none⟩)) true ty).run Try.prog wr = _ := fun ty => run_next_at wr g s pos ty HB.out hpos
      have hwd := width_pos s pos hpos
      have hwi := width_in s pos hpos
      obtain ⟨b', rfl⟩ : ∃ b', b = b' + 1 := ⟨b - 1, by omega⟩
      obtain ⟨w2, hw2⟩ : ∃ w2, World.setIter wr g s (pos + (Utf8.decode s pos).2) = w2 := ⟨_, rfl⟩
      rw [hw2] at hnx
      have HB2 : Hid (w2.heap[g]? = some (.stringIter s (pos + (Utf8.decode s pos).2))) := by rw [← hw2]; exact setIter_heap HB.out _ _
      have he2 : Ext (Only g) wr w2 := by rw [← hw2]; exact setIter_ext _ _ _ _
      have E2 : Hid (Ext Non w0 w2) := HE.out.trans he2 (fun i hi e => by have e1 : i = g := e; omega)
      have O2 := Lib.hid (HO.out.ext he2 (fun k hk _ e => by have e1 : k = g := e; omega))
      have HS2 : Hid (endsFrom s s.size 0 = (seen ++ [(pos : Int)]) ++ endsFrom s b' (pos + (Utf8.decode s pos).2)) := by
        show endsFrom s s.size 0 = _
        rw [HS.out, ends_on hpos]
        simp
      have hz2 := blk_lt HB2.out
      clear hw2 he2 hnv
      go_wp2_with (first
        | (at_builtin
           refine wpList_app kI64 (ok := fun k => g < k) (v := .slice Av seen.length cv) (vx := .slice (some ⟨w2.heap.size, 0, none⟩) 1 1) (xs := seen) (ys := [(pos : Int)]) (g + 1) rfl _ _ 59 3 _ 8 rfl Try.underlying59 info3 rfl (by decide) (by simp [Act.eval]) (by simp [Act.eval]) (O2.out.ext0 ((Ext.refl _ _).alloc _)) (Rd.lit_at (cs := [.int .i64 (pos : Int)]) (e := 3) (fr := (0, 0)) (heap_alloc_new w2 _) rfl ⟨by omega, fun e => by have := (O2.out.base_le _ e.symm).2; omega⟩) (fun k hk => by simp at hk; omega) (by simp; omega) (by simp; omega) (by simp; omega) ?_
           intro v' w' hown hext hblk)
        | fail)
      have E3 : Hid (Ext Non w0 w') := (E2.out.alloc _).trans hext (fun i hi e => by have := (O2.out.base_le i e.symm).1; omega)
      have hb3 : Hid (w'.heap[g]? = some (.stringIter s (pos + (Utf8.decode s pos).2))) := hext.obj (blk_alloc HB2.out _) (fun e => by have := (O2.out.base_le g e.symm).1; omega)
      have O3 := Lib.hid hown
      have hi0 : wr.iterPos g = pos := by simp [World.iterPos, HB.out]
      have hi3 : w'.iterPos g = pos + (Utf8.decode s pos).2 := by simp [World.iterPos, hb3.out]
      go_roundw
      case rel => exact ⟨pos + (Utf8.decode s pos).2, b', seen ++ [(pos : Int)], hb3.out, O3.out, HS2.out, by simp; omega, by omega, by omega, E3.out⟩
      case measure => rw [hi0, hi3]; omega
    · have hnx : ∀ ty, (Instr.next (.pointer (some ⟨g, 0, none⟩)) true ty).run Try.prog wr = _ := fun ty => run_next_stop wr g s pos ty HB.out hpos
      have hr : Hid (endsFrom s s.size 0 = seen) := by
        show endsFrom s s.size 0 = seen
        rw [HS.out, ends_end s b pos hpos, List.append_nil]
      have O2 := HO
      have hz2 := hlg
      clear hnv
      go_wp2_with (first
        | (at_builtin
           refine wpList_app kI64 (ok := fun k => g < k) (v := .slice Av seen.length cv) (vx := .slice (some ⟨wr.heap.size, 0, none⟩) 1 1) (xs := seen) (ys := [(s.size : Int)]) (g + 1) rfl _ _ 59 3 _ 8 rfl Try.underlying59 info3 rfl (by decide) (by simp [Act.eval]) (by simp [Act.eval]) (O2.out.ext0 ((Ext.refl _ _).alloc _)) (Rd.lit_at (cs := [.int .i64 (s.size : Int)]) (e := 3) (fr := (0, 0)) (heap_alloc_new wr _) rfl ⟨by omega, fun e => by have := (O2.out.base_le _ e.symm).2; omega⟩) (fun k hk => by simp at hk; omega) (by simp; omega) (by simp; omega) (by simp; omega) ?_
           intro v' w' hown hext hblk)
        | fail)
      have E3 : Hid (Ext Non w0 w') := (HE.out.alloc _).trans hext (fun i hi e => by have := (O2.out.base_le i e.symm).1; omega)
      obtain ⟨A5, n5, c5, rfl⟩ : ∃ A n c, v' = .slice A n c := by obtain ⟨A5, c5, h5, _, _⟩ := hown.slice; exact ⟨_, _, _, h5⟩
      obtain ⟨EN, hEN⟩ : ∃ EN, seen ++ [(s.size : Int)] = EN := ⟨_, rfl⟩
      have HEN : Hid (EN = endsFrom s s.size 0 ++ [(s.size : Int)]) := by show _ = _; rw [hr.out, hEN]
      rw [hEN] at hown
      have RE := Lib.hid hown.rd.bound
      have OUT3 := Lib.hid (OUT0.out.ext0 E3.out)
      have hlen5 : n5 = EN.length := by
        obtain ⟨_, _, h5, _, _⟩ := hown.slice
        simp only [Value.slice.injEq] at h5
        exact h5.2.1
      have hl5 : EN.length ≤ s.size + 1 := by
        rw [← hEN, ← hr.out]
        have := ends_len s s.size 0
        simp
        omega
      have HL5 := Lib.hid hlen5
      have hn5i : (n5 : Int) ≤ 1048577 := by omega
      have hz3 := E3.out.size
      have hgl3 : g < w'.heap.size := blk_lt (hext.obj (blk_alloc HB.out _) (fun e => by have := (O2.out.base_le g e.symm).1; omega))
      clear hown hext hblk hEN hlen5 hl5
      obtain ⟨w3, hw3⟩ : ∃ w3, w3 = w' := ⟨_, rfl⟩
      subst hw3
      obtain ⟨g2, hg2⟩ : ∃ g2, g2 = w3.heap.size := ⟨_, rfl⟩
      have hgg : g < g2 := by rw [hg2]; omega
      have HG2 := Lib.hid hg2
      go_wp2_with fail
      have B2 : Hid ((w3.iter s 0).heap[g2]? = some (.stringIter s 0)) := by show _ = _; rw [HG2.out]; exact World.iter_heap w3 s 0
      have F2 : Hid (Ext Non w3 (w3.iter s 0)) := (Ext.refl Non w3).alloc _
      have hgw2 : w3.heap.size = g2 := HG2.out.symm
      rw [hgw2]
      clear hg2
      go_loopw [6, 7, 9] (fun fr v kk wr => ∃ (pos b fm k : Nat) (done : List ByteArray), fr = .int .i64 (fm : Int) ∧ kk = .int .i64 (k : Int) ∧ Hid (wr.heap[g2]? = some (.stringIter s pos)) ∧ Hid (Own kStr 9 wr w.heap.size (fun k => k = w.heap.size ∨ g2 < k) v done) ∧ Hid (Rd kI64 wr (fun k => g < k ∧ k < g2) (.slice A5 n5 c5) EN) ∧ Hid (EN.drop k = endsFrom s b pos ++ [(s.size : Int)]) ∧ Hid (partsF s by' = done ++ partsFrom s by' b pos fm) ∧ done.length ≤ pos ∧ k ≤ pos ∧ fm ≤ pos ∧ pos ≤ s.size ∧ s.size ≤ pos + b ∧ Hid (Ext Non w wr)) (fun _ _ _ wr => s.size - wr.iterPos g2)
      case atStart => exact ⟨0, s.size, 0, 0, [], rfl, rfl, B2.out, (OUT3.out.ext0 F2.out).of_ok (fun k hk => by simp [Value.ownBlock] at hk; exact .inl hk.symm), (RE.out.ext0 F2.out).mono (fun k hk => ⟨hk.1, by have := hk.2; omega⟩), by show _ = _; rw [List.drop_zero, HEN.out], rfl, by simp, by omega, by omega, by omega, by omega, (E0.out.trans0 E3.out).trans0 F2.out⟩
      case round =>
        obtain ⟨pos, b, fm, k, done, rfl, rfl, HB, HO, HR, HD, HS, hk, hkp, hfm, hps, hb, HE⟩ := hrel
        obtain ⟨Av, cv, rfl, hcv, hmv⟩ := HO.out.slice
        have HBL := Lib.hid HO.out.1
        have HBL2 := Lib.hid HO.out.base_le
        have hlg := blk_lt HB.out
        by_cases hpos : pos < s.size
        · have hnx : ∀ ty, (Instr.next (.pointer (some ⟨g2, 0, none⟩)) true ty).run Try.prog wr = _ := fun ty => run_next_at wr g2 s pos ty HB.out hpos
          have hwd := width_pos s pos hpos
          have hwi := width_in s pos hpos
          obtain ⟨b', rfl⟩ : ∃ b', b = b' + 1 := ⟨b - 1, by omega⟩
          obtain ⟨w4, hw4⟩ : ∃ w4, World.setIter wr g2 s (pos + (Utf8.decode s pos).2) = w4 := ⟨_, rfl⟩
          rw [hw4] at hnx
          have HB2 : Hid (w4.heap[g2]? = some (.stringIter s (pos + (Utf8.decode s pos).2))) := by rw [← hw4]; exact setIter_heap HB.out _ _
          have he2 : Ext (Only g2) wr w4 := by rw [← hw4]; exact setIter_ext _ _ _ _
          have E2 : Hid (Ext Non w w4) := HE.out.trans he2 (fun i hi e => by have e1 : i = g2 := e; omega)
          have O2 := Lib.hid (HO.out.ext he2 (fun k hk _ e => by have e1 : k = g2 := e; omega))
          have R2 := Lib.hid (HR.out.ext he2 (fun k hk _ e => by have e1 : k = g2 := e; have := hk.2; omega))
          have hz2 := blk_lt HB2.out
          obtain ⟨tl, htl⟩ := ends_next hpos hb
          have hdr := HD.out.trans htl
          have e0 : EN[k]? = some (pos : Int) := by
            have h := congrArg List.head? hdr
            rw [List.head?_drop] at h
            simpa using h
          have e1 : EN[k + 1]? = some ((pos + (Utf8.decode s pos).2 : Nat) : Int) := by
            have h := congrArg (fun l => l[1]?) hdr
            simp only [List.getElem?_drop] at h
            simpa using h
          have hD2 : Hid (EN.drop (k + 1) = endsFrom s b' (pos + (Utf8.decode s pos).2) ++ [(s.size : Int)]) := by
            show _ = _
            have h := congrArg List.tail HD.out
            rw [ends_on hpos, List.tail_drop] at h
            simpa using h
          obtain ⟨gl, off, rfl, hokl, hgl, hcc⟩ := R2.out.flat_at e0
          have hokl1 := hokl.1
          have hokl2 := hokl.2
          have d0 := hcc 0 _ rfl
          simp only [Nat.add_zero, Nat.mul_one] at d0
          obtain ⟨gl', off', hA', _, _, hcc'⟩ := R2.out.flat_at e1
          cases hA'
          have d1 := hcc' 0 _ rfl
          simp only [Nat.add_zero, Nat.mul_one] at d1
          have hkl : k + 1 < n5 := by rw [HL5.out]; exact (List.getElem?_eq_some_iff.1 e1).1
          obtain ⟨np, hnp⟩ : ∃ np, pos + (Utf8.decode s pos).2 = np := ⟨_, rfl⟩
          rw [hnp] at d1 HB2 hD2 hwi
          have hnp1 : pos < np := by omega
          have HNP := Lib.hid hnp
          clear hw4 he2 hcc hcc' hdr htl e0 e1 hnp
          by_cases hrn : ((Utf8.decode s pos).1 : Int) = by'
          · have hS2 : Hid (partsF s by' = (done ++ [s.extract fm pos]) ++ partsFrom s by' b' np np) := by
              show partsF s by' = _
              rw [HS.out, parts_cut hpos hrn, HNP.out]
              simp
            have hne : ∀ i, some i = (Value.slice Av done.length cv).ownBlock → (i = w.heap.size ∨ g2 < i) := fun i h => HBL.out i h.symm
            go_wp2_with (first
              | (at_builtin
                 refine wpList_app kStr (ok := fun k => k = w.heap.size ∨ g2 < k) (v := .slice Av done.length cv) (vx := .slice (some ⟨w4.heap.size, 0, none⟩) 1 1) (xs := done) (ys := [s.extract fm pos]) w.heap.size rfl _ _ 142 9 _ 16 rfl Try.underlying142 info9 rfl (by decide) (by simp [Act.eval]) (by simp [Act.eval]) (O2.out.ext0 ((Ext.refl _ _).alloc _)) (Rd.lit_at (cs := [.string (s.extract fm pos)]) (e := 9) (fr := (0, 0)) (heap_alloc_new w4 _) rfl ⟨.inr (by omega), fun e => by have := (O2.out.base_le _ e.symm).2; omega⟩) (fun k hk => .inr (by simp at hk; omega)) (by simp; omega) (by simp; omega) (by simp; omega) ?_
                 intro v' w' hown hext hblk
                 have d1' := hext.cell (((Ext.refl Non w4).alloc (.cells #[.string (s.extract fm pos)] 9)).cell d1 (fun h => h)) (fun e => by have e2 : some gl = (Value.slice Av done.length cv).ownBlock := e; have := hne gl e2; omega)
                 have hglw := Nat.le_trans ((Ext.refl Non w4).alloc (.cells #[.string (s.extract fm pos)] 9)).size hext.size)
              | fail)
            have EA := (Ext.refl Non w4).alloc (.cells #[.string (s.extract fm pos)] 9)
            have E3 : Hid (Ext Non w w') := (E2.out.trans0 EA).trans hext (fun i hi e => by have := (HBL2.out i e.symm).1; omega)
            have hb3 : Hid (w'.heap[g2]? = some (.stringIter s np)) := hext.obj (EA.obj HB2.out (fun h => h)) (fun e => by have := hne g2 e; omega)
            have R3 := Lib.hid ((R2.out.ext0 EA).ext hext (fun k hk _ e => by have := hne k e; have := hk.1; have := hk.2; omega))
            have O3 := Lib.hid hown
            obtain ⟨A6, n6, c6, rfl⟩ : ∃ A n c, v' = .slice A n c := by obtain ⟨A6, c6, h6, _, _⟩ := hown.slice; exact ⟨_, _, _, h6⟩
            have hi0 : wr.iterPos g2 = pos := by simp [World.iterPos, HB.out]
            have hi3 : w'.iterPos g2 = np := by simp [World.iterPos, hb3.out]
            go_roundw
            case rel => exact ⟨np, b', np, k + 1, done ++ [s.extract fm pos], rfl, by go_num, hb3.out, O3.out, R3.out, hD2.out, hS2.out, by simp; omega, by omega, by omega, by omega, by have := HNP.out; omega, E3.out⟩
            case measure => rw [hi0, hi3]; omega
          · have hS2 : Hid (partsF s by' = done ++ partsFrom s by' b' np fm) := by
              show partsF s by' = _
              rw [HS.out, parts_on hpos hrn, HNP.out]
            have HRN := Lib.hid hrn
            go_wp2_with fail
            have hi0 : wr.iterPos g2 = pos := by simp [World.iterPos, HB.out]
            have hi3 : w4.iterPos g2 = np := by simp [World.iterPos, HB2.out]
            go_roundw
            case rel => exact ⟨np, b', fm, k + 1, done, rfl, by go_num, HB2.out, O2.out, R2.out, hD2.out, hS2.out, by omega, by omega, by omega, by omega, by have := HNP.out; omega, E2.out⟩
            case measure => rw [hi0, hi3]; omega
        · have hnx : ∀ ty, (Instr.next (.pointer (some ⟨g2, 0, none⟩)) true ty).run Try.prog wr = _ := fun ty => run_next_stop wr g2 s pos ty HB.out hpos
          have hfin : Hid (partsF s by' = done ++ [s.extract fm s.size]) := by
            show _ = _
            rw [HS.out, parts_end s by' b pos _ hpos]
          have hfs : fm ≤ s.size := by omega
          go_wp2_with (first
            | (at_builtin
               refine wpList_app kStr (ok := fun k => k = w.heap.size ∨ g2 < k) (v := .slice Av done.length cv) (vx := .slice (some ⟨wr.heap.size, 0, none⟩) 1 1) (xs := done) (ys := [s.extract fm s.size]) w.heap.size rfl _ _ 142 9 _ 16 rfl Try.underlying142 info9 rfl (by decide) (by simp [Act.eval]) (by simp [Act.eval]) (HO.out.ext0 ((Ext.refl _ _).alloc _)) (Rd.lit_at (cs := [.string (s.extract fm s.size)]) (e := 9) (fr := (0, 0)) (heap_alloc_new wr _) rfl ⟨.inr (by omega), fun e => by have := (HBL2.out _ e.symm).2; omega⟩) (fun k hk => .inr (by simp at hk; omega)) (by simp; omega) (by simp; omega) (by simp; omega) ?_
               intro v' w' hown hext hblk)
            | fail)
          obtain ⟨A4, c4, rfl, _, _⟩ := hown.slice
          have E3 : Hid (Ext Non w w') := (HE.out.alloc _).trans hext (fun i hi e => by have := (HBL2.out i e.symm).1; omega)
          have O3 := Lib.hid hown
          go_ret
          refine ⟨_, _, _, rfl, ?_, E3.out⟩
          show Own _ _ _ _ _ _ _
          rw [hfin.out]
          exact O3.out.mono (fun k hk => by omega)
end Go.Proofs.Ytdjfijdnhfmeeaa

namespace Go.Proofs.Ytdjfijdnhfmeeaa
open Go.RowKit Go.TM
theorem colon_parts {p : ByteArray} (fm : Nat) : ∀ (b pos i : Nat), colonFrom p b pos = some i → i < p.size ∧ ∃ x t, partsFrom p 58 b pos fm = p.extract fm i :: x :: t
  | 0, _, _, h => by cases h
  | b + 1, pos, i, h => by
    by_cases h1 : pos < p.size
    · by_cases h2 : ((Utf8.decode p pos).1 : Int) = 58
      · rw [colon_at h1 h2] at h
        cases h
        refine ⟨h1, ?_⟩
        rw [parts_cut h1 h2]
        cases b with
        | zero => exact ⟨_, [], rfl⟩
        | succ b =>
          by_cases h3 : pos + (Utf8.decode p pos).2 < p.size
          · by_cases h4 : ((Utf8.decode p (pos + (Utf8.decode p pos).2)).1 : Int) = 58
            · rw [parts_cut h3 h4]
              exact ⟨_, _, rfl⟩
            · obtain ⟨x, t, hx⟩ : ∃ x t, partsFrom p 58 (b + 1) (pos + (Utf8.decode p pos).2) (pos + (Utf8.decode p pos).2) = x :: t := parts_some p 58 _ _ _
              rw [hx]
              exact ⟨x, t, rfl⟩
          · rw [parts_end p 58 (b + 1) _ _ h3]
            exact ⟨_, [], rfl⟩
      · rw [colon_on h1 h2] at h
        rw [parts_on h1 h2]
        exact colon_parts fm b _ i h
    · rw [colon_end h1] at h
      cases h
where
  parts_some (s : ByteArray) (by' : Int) : ∀ (b pos fm : Nat), ∃ x t, partsFrom s by' b pos fm = x :: t
    | 0, _, _ => ⟨_, [], rfl⟩
    | b + 1, pos, fm => by
      by_cases h1 : pos < s.size
      · by_cases h2 : ((Utf8.decode s pos).1 : Int) = by'
        · rw [parts_cut h1 h2]
          exact ⟨_, _, rfl⟩
        · rw [parts_on h1 h2]
          exact parts_some s by' b _ fm
      · rw [parts_end s by' (b + 1) pos fm h1]
        exact ⟨_, [], rfl⟩
theorem colon_none {p : ByteArray} (fm : Nat) : ∀ (b pos : Nat), p.size ≤ pos + b → colonFrom p b pos = none → partsFrom p 58 b pos fm = [p.extract fm p.size]
  | 0, _, _, _ => rfl
  | b + 1, pos, hb, h => by
    by_cases h1 : pos < p.size
    · by_cases h2 : ((Utf8.decode p pos).1 : Int) = 58
      · rw [colon_at h1 h2] at h
        cases h
      · rw [colon_on h1 h2] at h
        have := width_pos p pos h1
        rw [parts_on h1 h2]
        exact colon_none fm b _ (by omega) h
    · exact parts_end p 58 (b + 1) pos fm h1
set_option maxRecDepth 100000 in
set_option maxHeartbeats 8000000 in
theorem RField_calls (w : World) (s name : ByteArray) (hs : s.size ≤ 1048576) : Calls Try.prog 100 #[.string s, .string name] w fun e w' => e = .returned (.tuple #[.string (fieldF s name).1, .bool (fieldF s name).2]) ∧ Ext Non w w' := by
  obtain ⟨l, hl⟩ : ∃ l, partsF s 32 = l := ⟨_, rfl⟩
  have HP : Hid (∀ p ∈ l, p.size ≤ 1048576) := by
    intro p hp
    rw [← hl] at hp
    have := parts_size s 32 s.size 0 0 p hp
    omega
  have hll : l.length ≤ 1048577 := by
    rw [← hl]
    have := parts_len s 32 s.size 0 0
    unfold partsF
    omega
  have HL := Lib.hid hl
  have hff : Hid (fieldF s name = fieldL name l) := by show fieldL name (partsF s 32) = _; rw [hl]
  clear hl
  go_enter Try.func100, Try.ntmps100
  go_wp2_with fail
  refine (RParts_calls w s hs 32).mono ?_
  rw [HL.out]
  rintro e w1 ⟨A, n, c, rfl, HO, HE⟩
  obtain ⟨_, c', he, hc, hm⟩ := HO.out.slice
  simp only [Value.slice.injEq] at he
  obtain ⟨-, rfl, rfl⟩ := he
  have R1 := Lib.hid HO.out.rd
  clear HO hc hm
  go_wp2_with fail
  go_loopw [12] (fun i wr => ∃ j : Nat, i = .int .i64 (j : Int) ∧ j ≤ l.length ∧ Hid (Ext Non w1 wr) ∧ Hid (fieldL name l = fieldL name (l.drop j))) (fun i _ => l.length - (intOf i).toNat)
  case atStart => exact ⟨0, rfl, by omega, Ext.refl _ _, rfl⟩
  case round =>
    obtain ⟨j, rfl, hj, HE2, HF⟩ := hrel
    by_cases hlt : j < l.length
    · obtain ⟨p, hx⟩ : ∃ p, l[j]? = some p := ⟨_, List.getElem?_eq_getElem hlt⟩
      obtain ⟨gl, off, rfl, _, hgl, hcc⟩ := (R1.out.ext0 HE2.out).flat_at hx
      have d0 := hcc 0 _ rfl
      simp only [Nat.add_zero, Nat.mul_one] at d0
      have hdrop : l.drop j = p :: l.drop (j + 1) := by
        rw [List.drop_eq_getElem_cons hlt]
        congr 1
        exact (List.getElem?_eq_some_iff.1 hx).2
      have HD := Lib.hid hdrop
      have hpz : p.size ≤ 1048576 := HP.out p (List.mem_of_getElem? hx)
      clear hcc hx hdrop
      go_wp2_with fail
      refine (RParts_calls _ p hpz 58).mono ?_
      cases hco : colonFrom p p.size 0 with
      | none =>
        rw [show partsF p 58 = [p.extract 0 p.size] from colon_none 0 p.size 0 (by omega) hco]
        rintro e w3 ⟨A3, n3, c3, rfl, HO3, HE3⟩
        obtain ⟨_, _, h3, _, _⟩ := HO3.out.slice
        simp only [Value.slice.injEq, List.length_cons, List.length_nil] at h3
        obtain ⟨-, rfl, -⟩ := h3
        have hone : Hid (fieldL name l = fieldL name (l.drop (j + 1))) := by
          show _ = _
          rw [HF.out, HD.out]
          refine fieldL_no ?_
          unfold fieldOne
          rw [hco]
        go_wp2_with fail
        go_roundw
        case rel => exact ⟨j + 1, by go_num, by omega, HE2.out.trans0 HE3.out, hone.out⟩
        case measure => simp [intOf]; omega
      | some i =>
        obtain ⟨hip, x, t, hpt⟩ := colon_parts 0 p.size 0 i hco
        rw [show partsF p 58 = p.extract 0 i :: x :: t from hpt]
        rintro e w3 ⟨A3, n3, c3, rfl, HO3, HE3⟩
        obtain ⟨_, _, h3, _, hm3⟩ := HO3.out.slice
        simp only [Value.slice.injEq, List.length_cons] at h3
        obtain ⟨-, hn3, -⟩ := h3
        have hn3' : (1 : Int) < (n3 : Int) := by omega
        obtain ⟨g3, off3, rfl, _, hgl3, hcc3⟩ := HO3.out.rd.flat_at (k := 0) rfl
        have e0 := hcc3 0 _ rfl
        simp only [Nat.add_zero, Nat.zero_mul] at e0
        obtain ⟨bq, hbq⟩ : ∃ bq, ((p.extract 0 i).toList == name.toList) = bq := ⟨_, rfl⟩
        have HBQ := Lib.hid hbq
        have HCO := Lib.hid hco
        have HIP := Lib.hid hip
        clear HO3 hcc3 hn3 hm3 hco hpt
        cases bq with
        | true =>
          have hsz : name.size = i := by
            have h := congrArg List.length (eq_of_beq HBQ.out)
            have e1 : (p.extract 0 i).toList.length = (p.extract 0 i).size := by rw [← size_list]; congr 1; exact ByteArray.toList_eq _
            have e2 : name.toList.length = name.size := by rw [← size_list]; congr 1; exact ByteArray.toList_eq name
            rw [e1, e2] at h
            have e3 : (p.extract 0 i).size = i := by simp; omega
            omega
          have hone : Hid (fieldF s name = (p.extract (name.size + 1) p.size, true)) := by
            show _ = _
            rw [hff.out, HF.out, HD.out, hsz]
            refine fieldL_yes ?_
            unfold fieldOne
            rw [HCO.out]
            exact if_pos HBQ.out
          have hns : (name.size : Int) + 1 ≤ (p.size : Int) := by omega
          clear hsz hip
          go_wp2_with fail
          go_ret2
          exact ⟨by rw [hone.out]; rfl, HE.out.trans0 (HE2.out.trans0 HE3.out)⟩
        | false =>
          have hone : Hid (fieldL name l = fieldL name (l.drop (j + 1))) := by
            show _ = _
            rw [HF.out, HD.out]
            refine fieldL_no ?_
            unfold fieldOne
            rw [HCO.out]
            exact if_neg (by rw [HBQ.out]; simp)
          go_wp2_with fail
          go_roundw
          case rel => exact ⟨j + 1, by go_num, by omega, HE2.out.trans0 HE3.out, hone.out⟩
          case measure => simp [intOf]; omega
    · obtain rfl : j = l.length := by omega
      have hfin : Hid (fieldF s name = (⟨#[]⟩, false)) := by
        show _ = _
        rw [hff.out, HF.out, List.drop_length]
        rfl
      go_wp2_with fail
      go_ret2
      exact ⟨by rw [hfin.out]; rfl, HE.out.trans0 HE2.out⟩
end Go.Proofs.Ytdjfijdnhfmeeaa

namespace Go.Proofs.Ytdjfijdnhfmeeaa
open Go.RowKit Go.TM
theorem foldE_len2 {F : Flt → Int → Int × Int} : ∀ (l : List Flt) (c : Int), (∀ k ∈ l, ∀ c, (F k c).1 = 0 → c + 1 ≤ (F k c).2) → (foldE F l c).1 = 0 → c + (l.length : Int) ≤ (foldE F l c).2 ∧ ∀ k ∈ l, ∃ c', c ≤ c' ∧ (F k c').1 = 0
  | [], c, _, _ => ⟨by simp [foldE], fun k hk => by cases hk⟩
  | k :: ks, c, h, hb => by
    by_cases hk : (F k c).1 = 0
    · have hf : foldE F (k :: ks) c = foldE F ks (F k c).2 := foldE_yes (by rw [← hk])
      rw [hf] at hb ⊢
      obtain ⟨h1, h2⟩ := foldE_len2 ks (F k c).2 (fun k' hk' => h k' (List.mem_cons_of_mem _ hk')) hb
      have h3 := h k List.mem_cons_self c hk
      refine ⟨by rw [List.length_cons]; omega, fun k' hk' => ?_⟩
      rcases List.mem_cons.1 hk' with rfl | hk'
      · exact ⟨c, Int.le_refl _, hk⟩
      · obtain ⟨c', hc', h4⟩ := h2 k' hk'
        exact ⟨c', by omega, h4⟩
    · rw [foldE_no hk] at hb
      exact absurd hb hk
theorem chk_kids {n : Nat} {f : Flt} {d c : Int} (h0 : 0 ≤ c) (h1 : c ≤ 24) (h : (chk (n + 1) f d c).1 = 0) (ho : okL (n + 1) f) : d ≤ 6 ∧ mayF f = true ∧ f.kids.length ≤ 24 ∧ ∀ k ∈ f.kids, ∃ c', 0 ≤ c' ∧ c' ≤ 24 ∧ (chk n k (d + 1) c').1 = 0 := by
  by_cases c1 : 6 < d ∨ 24 ≤ c
  · rw [chk_deep c1] at h
    cases h
  · cases c2 : mayF f with
    | false =>
      rw [chk_bad c1 c2] at h
      cases h
    | true =>
      have h2 := (chk_le (n + 1) f d c h0 h1 h).2
      rw [chk_go c1 c2] at h h2
      have hup : ∀ k ∈ f.kids, ∀ c, (chk n k (d + 1) c).1 = 0 → c + 1 ≤ (chk n k (d + 1) c).2 := by
        intro k hk c hc
        cases n with
        | zero => exact (ho.2.2.2.2 k hk).elim
        | succ n => exact chk_up hc
      obtain ⟨h3, h4⟩ := foldE_len2 (F := fun k c => chk n k (d + 1) c) f.kids (c + 1) hup h
      refine ⟨by omega, rfl, by omega, fun k hk => ?_⟩
      obtain ⟨c', hc', h5⟩ := h4 k hk
      refine ⟨c', by omega, ?_, h5⟩
      cases n with
      | zero => exact (ho.2.2.2.2 k hk).elim
      | succ n =>
        by_cases h6 : 24 ≤ c'
        · rw [chk_deep (.inr h6)] at h5
          cases h5
        · omega
theorem foldE_mono {F G : Flt → Int → Int × Int} : ∀ (l : List Flt) (c c' : Int), (∀ k ∈ l, ∀ c c', c' ≤ c → (F k c).1 = 0 → G k c' = (0, (F k c).2 - c + c')) → c' ≤ c → (foldE F l c).1 = 0 → foldE G l c' = (0, (foldE F l c).2 - c + c')
  | [], c, c', _, _, _ => by simp [foldE]
  | k :: ks, c, c', h, hc, hb => by
    by_cases hk : (F k c).1 = 0
    · have hf : foldE F (k :: ks) c = foldE F ks (F k c).2 := foldE_yes (by rw [← hk])
      rw [hf] at hb ⊢
      have h1 := h k List.mem_cons_self c c' hc hk
      rw [foldE_yes h1, foldE_mono ks (F k c).2 _ (fun k' hk' => h k' (List.mem_cons_of_mem _ hk')) (by omega) hb]
      congr 1
      omega
    · rw [foldE_no hk] at hb
      exact absurd hb hk
theorem chk_mono : ∀ (n : Nat) (f : Flt) (d c d' c' : Int), d' ≤ d → c' ≤ c → (chk n f d c).1 = 0 → chk n f d' c' = (0, (chk n f d c).2 - c + c')
  | 0, _, _, _, _, _, _, _, _ => by simp [chk]
  | n + 1, f, d, c, d', c', hd, hc, h => by
    by_cases c1 : 6 < d ∨ 24 ≤ c
    · rw [chk_deep c1] at h
      cases h
    · cases c2 : mayF f with
      | false =>
        rw [chk_bad c1 c2] at h
        cases h
      | true =>
        rw [chk_go c1 c2] at h ⊢
        rw [chk_go (by omega) c2, foldE_mono (F := fun k c => chk n k (d + 1) c) (G := fun k c => chk n k (d' + 1) c) f.kids (c + 1) (c' + 1) (fun k _ c c' hc hb => chk_mono n k (d + 1) c (d' + 1) c' (by omega) hc hb) (by omega) h]
        congr 1
        omega
theorem kid_check {n : Nat} {f : Flt} (ho : okL (n + 1) f) (h : checkE (n + 1) f = 0) : ∀ k ∈ f.kids, checkE n k = 0 := by
  intro k hk
  obtain ⟨-, -, -, h4⟩ := chk_kids (by omega) (by omega) h ho
  obtain ⟨c', h0, h1, h2⟩ := h4 k hk
  unfold checkE
  rw [chk_mono n k (1 + 1) c' 1 0 (by omega) h0 h2]
end Go.Proofs.Ytdjfijdnhfmeeaa

