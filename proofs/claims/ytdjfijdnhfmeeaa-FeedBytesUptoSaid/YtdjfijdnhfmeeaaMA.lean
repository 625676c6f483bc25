/- What the laws' arguments read as: filters as values. Texts: stretches between runes of a kind: the program's Parts. Texts: what a value has under a name: the program's Field. Lists of events; the verifier's few. -/
import Derived.Test.YtdjfijdnhfmeeaaGA
import Derived.Test.YtdjfijdnhfmeeaaHB
namespace Go.Proofs.Ytdjfijdnhfmeeaa
open Go.RowKit Go.TM Go.ChangeShapes Go.WideShapes Go.ChangeAt Go.Deep
section
variable {H : Type} {enc : TypeId × Value → H} {w : World} {base b0 : Nat} {spare : Nat → Bool} {held : Bool} {r : Reach}
set_option maxRecDepth 100000 in
theorem open_fv {v : Value} {d : DataW H} {p : List MemPlace} (hv : Value.okWide Try.prog w r b0 24 v) (h : DataW.Trod enc Try.prog w base spare held 24 v d p) :
    ∃ (n : Nat) (f : Flt), FV n w (fun k => k < w.heap.size) v f ∧ okF (n + 1) f := by
  obtain ⟨n, f, hk, ho⟩ := open_flt h
  obtain ⟨cs, rfl, _⟩ := okWide_struct Try.underlying24 hv
  cases n with
  | zero => exact hk.elim
  | succ n =>
    obtain ⟨u, hu, hr⟩ := hk
    refine ⟨n, f, ⟨u, ?_, hr⟩, ho⟩
    have hu' : cs.toList = [.int .i64 f.op, .string f.key, .string f.val, u] := hu
    rw [show cs = #[.int .i64 f.op, .string f.key, .string f.val, u] from by rw [← hu']]
end
end Go.Proofs.Ytdjfijdnhfmeeaa

namespace Go.Proofs.Ytdjfijdnhfmeeaa
open Go.RowKit Go.TM
theorem width_in (s : ByteArray) (pos : Nat) (h : pos < s.size) : pos + (Utf8.decode s pos).2 ≤ s.size := by
  unfold Utf8.decode
  simp only
  split
  · simp; omega
  · split
    · rename_i h2
      simp only [Bool.and_eq_true, decide_eq_true_eq] at h2
      split <;> simp <;> omega
    · split
      · rename_i h2
        simp only [Bool.and_eq_true, decide_eq_true_eq] at h2
        split <;> simp <;> omega
      · split
        · rename_i h2
          simp only [Bool.and_eq_true, decide_eq_true_eq] at h2
          split <;> simp <;> omega
        · simp; omega
def partsFrom (s : ByteArray) (by' : Int) : Nat → Nat → Nat → List ByteArray
  | 0, _, from' => [s.extract from' s.size]
  | b + 1, pos, from' => if pos < s.size then
      (if ((Utf8.decode s pos).1 : Int) = by' then s.extract from' pos :: partsFrom s by' b (pos + (Utf8.decode s pos).2) (pos + (Utf8.decode s pos).2) else partsFrom s by' b (pos + (Utf8.decode s pos).2) from')
    else [s.extract from' s.size]
def partsF (s : ByteArray) (by' : Int) : List ByteArray := partsFrom s by' s.size 0 0
theorem parts_end (s : ByteArray) (by' : Int) (b pos from' : Nat) (h : ¬ pos < s.size) : partsFrom s by' b pos from' = [s.extract from' s.size] := by
  cases b with
  | zero => rfl
  | succ b => exact if_neg h
theorem parts_cut {s : ByteArray} {by' : Int} {b pos from' : Nat} (h : pos < s.size) (hr : ((Utf8.decode s pos).1 : Int) = by') : partsFrom s by' (b + 1) pos from' = s.extract from' pos :: partsFrom s by' b (pos + (Utf8.decode s pos).2) (pos + (Utf8.decode s pos).2) := (if_pos h).trans (if_pos hr)
theorem parts_on {s : ByteArray} {by' : Int} {b pos from' : Nat} (h : pos < s.size) (hr : ¬ ((Utf8.decode s pos).1 : Int) = by') : partsFrom s by' (b + 1) pos from' = partsFrom s by' b (pos + (Utf8.decode s pos).2) from' := (if_pos h).trans (if_neg hr)
def kStr : Kd ByteArray := Kd.flat 1 (fun s => [.string s]) (fun _ => rfl) (by simp [Value.oneCell'])
theorem info9 : (Try.prog.info? 9).map (fun i => (i.zero, i.size, i.bytes)) = some (some (.string ⟨#[]⟩), kStr.sz, 16) := by kernel_rfl
def PartsPost (l : List ByteArray) (w : World) (e : Ending) (w' : World) : Prop :=
  ∃ A n c, e = .returned (.slice A n c) ∧ Hid (Own kStr 9 w' w.heap.size (fun k => w.heap.size ≤ k) (.slice A n c) l) ∧ Hid (Ext Non w w')
set_option maxRecDepth 100000 in
set_option maxHeartbeats 4000000 in
theorem Parts_calls (w : World) (s : ByteArray) (hs : s.size ≤ 1048576) (by' : Int) : Calls Try.prog 128 #[.string s, .int .i32 by'] w (PartsPost (partsF s by') w) := by
  obtain ⟨g, hg⟩ : ∃ g, g = w.heap.size := ⟨_, rfl⟩
  have HG := Lib.hid hg
  go_enter Try.func128, Try.ntmps128
  go_wp2_with fail
  have B0 : Hid ((w.iter s 0).heap[g]? = some (.stringIter s 0)) := by rw [hg]; exact World.iter_heap w s 0
  have E0 : Hid (Ext Non w (w.iter s 0)) := (Ext.refl Non w).alloc _
  rw [← HG.out]
  clear hg
  go_loopw [5, 6, 7] (fun v fr ct wr => ∃ (pos b fm : Nat) (cut : Bool) (seen : List ByteArray), Hid (wr.heap[g]? = some (.stringIter s pos)) ∧ Hid (Own kStr 9 wr (g + 1) (fun k => g < k) v seen) ∧ fr = .int .i64 (fm : Int) ∧ ct = .bool cut ∧ Hid (partsF s by' = seen ++ partsFrom s by' b pos (if cut then pos else fm)) ∧ seen.length ≤ pos ∧ fm ≤ pos ∧ pos ≤ s.size ∧ s.size ≤ pos + b ∧ Hid (Ext Non w wr)) (fun _ _ _ wr => s.size - wr.iterPos g)
  case atStart => exact ⟨0, s.size, 0, false, [], B0.out, Own.nil _ _ _ _ _, rfl, rfl, rfl, by simp, by omega, by omega, by omega, E0.out⟩
  case round =>
    obtain ⟨pos, b, fm, cut, seen, HB, HO, rfl, rfl, HS, hk, hfm, hps, hb, HE⟩ := hrel
    obtain ⟨Av, cv, rfl, hcv, hmv⟩ := HO.out.slice
    obtain ⟨nv, hnv⟩ : ∃ nv, nv = seen.length := ⟨_, rfl⟩
    have HNV := Lib.hid hnv
    have hgw : w.heap.size = g := HG.out.symm
    have hlg := blk_lt HB.out
    by_cases hpos : pos < s.size
    · have hnx : ∀ ty, (Instr.next (.pointer (some ⟨g, 0, none⟩)) true ty).run Try.prog wr = _ := fun ty => run_next_at wr g s pos ty HB.out hpos
      have hwd := width_pos s pos hpos
      obtain ⟨b', rfl⟩ : ∃ b', b = b' + 1 := ⟨b - 1, by omega⟩
      have hwi := width_in s pos hpos
      obtain ⟨w2, hw2⟩ : ∃ w2, World.setIter wr g s (pos + (Utf8.decode s pos).2) = w2 := ⟨_, rfl⟩
      rw [hw2] at hnx
      have HB2 : Hid (w2.heap[g]? = some (.stringIter s (pos + (Utf8.decode s pos).2))) := by rw [← hw2]; exact setIter_heap HB.out _ _
      have he2 : Ext (Only g) wr w2 := by rw [← hw2]; exact setIter_ext _ _ _ _
      have E2 : Hid (Ext Non w w2) := HE.out.trans he2 (fun i hi e => by have e1 : i = g := e; omega)
      have O2 := Lib.hid (HO.out.ext he2 (fun k hk _ e => by have e1 : k = g := e; omega))
      have hz2 := blk_lt HB2.out
      clear hw2 he2 hnv
      by_cases hrn : ((Utf8.decode s pos).1 : Int) = by'
      · have HR := Lib.hid hrn
        cases cut with
        | true =>
          have HS2 : Hid (partsF s by' = (seen ++ [ByteArray.empty]) ++ partsFrom s by' b' (pos + (Utf8.decode s pos).2) (if true then (pos + (Utf8.decode s pos).2) else pos)) := by
            show partsF s by' = _
            rw [HS.out, if_pos rfl]
            have h := parts_cut (s := s) (b := b') (from' := pos) hpos HR.out
            simp [h]
          go_wp2_with (first
            | (at_builtin
               refine wpList_app kStr (ok := fun k => g < k) (v := .slice Av seen.length cv) (vx := .slice (some ⟨w2.heap.size, 0, none⟩) 1 1) (xs := seen) (ys := [ByteArray.empty]) (g + 1) rfl _ _ 142 9 _ 16 rfl Try.underlying142 info9 rfl (by decide) (by simp [Act.eval]) (by simp [Act.eval]) (O2.out.ext0 ((Ext.refl _ _).alloc _)) (Rd.lit_at (cs := [.string (ByteArray.empty)]) (e := 9) (fr := (0, 0)) (heap_alloc_new w2 _) rfl ⟨by omega, fun e => by have := (O2.out.base_le _ e.symm).2; omega⟩) (fun k hk => by simp at hk; omega) (by simp; omega) (by simp; omega) (by simp; omega) ?_
               intro v' w' hown hext hblk)
            | fail)
          have E3 : Hid (Ext Non w w') := (E2.out.alloc _).trans hext (fun i hi e => by have := (O2.out.base_le i e.symm).1; omega)
          have hb3 : Hid (w'.heap[g]? = some (.stringIter s (pos + (Utf8.decode s pos).2))) := hext.obj (blk_alloc HB2.out _) (fun e => by have := (O2.out.base_le g e.symm).1; omega)
          have O3 := Lib.hid hown
          have hi0 : wr.iterPos g = pos := by simp [World.iterPos, HB.out]
          have hi3 : w'.iterPos g = pos + (Utf8.decode s pos).2 := by simp [World.iterPos, hb3.out]
          go_roundw
          case rel => exact ⟨pos + (Utf8.decode s pos).2, b', pos, true, seen ++ [ByteArray.empty], hb3.out, O3.out, rfl, rfl, HS2.out, by simp; omega, by omega, by omega, by omega, E3.out⟩
          case measure => rw [hi0, hi3]; omega
        | false =>
          have HS2 : Hid (partsF s by' = (seen ++ [s.extract fm pos]) ++ partsFrom s by' b' (pos + (Utf8.decode s pos).2) (if true then (pos + (Utf8.decode s pos).2) else fm)) := by
            show partsF s by' = _
            rw [HS.out, if_pos rfl]
            have h := parts_cut (s := s) (b := b') (from' := fm) hpos HR.out
            simp [h]
          go_wp2_with (first
            | (at_builtin
               refine wpList_app kStr (ok := fun k => g < k) (v := .slice Av seen.length cv) (vx := .slice (some ⟨w2.heap.size, 0, none⟩) 1 1) (xs := seen) (ys := [s.extract fm pos]) (g + 1) rfl _ _ 142 9 _ 16 rfl Try.underlying142 info9 rfl (by decide) (by simp [Act.eval]) (by simp [Act.eval]) (O2.out.ext0 ((Ext.refl _ _).alloc _)) (Rd.lit_at (cs := [.string (s.extract fm pos)]) (e := 9) (fr := (0, 0)) (heap_alloc_new w2 _) rfl ⟨by omega, fun e => by have := (O2.out.base_le _ e.symm).2; omega⟩) (fun k hk => by simp at hk; omega) (by simp; omega) (by simp; omega) (by simp; omega) ?_
               intro v' w' hown hext hblk)
            | fail)
          have E3 : Hid (Ext Non w w') := (E2.out.alloc _).trans hext (fun i hi e => by have := (O2.out.base_le i e.symm).1; omega)
          have hb3 : Hid (w'.heap[g]? = some (.stringIter s (pos + (Utf8.decode s pos).2))) := hext.obj (blk_alloc HB2.out _) (fun e => by have := (O2.out.base_le g e.symm).1; omega)
          have O3 := Lib.hid hown
          have hi0 : wr.iterPos g = pos := by simp [World.iterPos, HB.out]
          have hi3 : w'.iterPos g = pos + (Utf8.decode s pos).2 := by simp [World.iterPos, hb3.out]
          go_roundw
          case rel => exact ⟨pos + (Utf8.decode s pos).2, b', fm, true, seen ++ [s.extract fm pos], hb3.out, O3.out, rfl, rfl, HS2.out, by simp; omega, by omega, by omega, by omega, E3.out⟩
          case measure => rw [hi0, hi3]; omega
      · have HR := Lib.hid hrn
        cases cut with
        | true =>
          have HS2 : Hid (partsF s by' = seen ++ partsFrom s by' b' (pos + (Utf8.decode s pos).2) (if false then (pos + (Utf8.decode s pos).2) else pos)) := by
            show partsF s by' = _
            rw [HS.out]
            have h := parts_on (s := s) (b := b') (from' := pos) hpos HR.out
            simp [h]
          go_wp2_with fail
          have hi0 : wr.iterPos g = pos := by simp [World.iterPos, HB.out]
          have hi3 : w2.iterPos g = pos + (Utf8.decode s pos).2 := by simp [World.iterPos, HB2.out]
          go_roundw
          case rel => exact ⟨pos + (Utf8.decode s pos).2, b', pos, false, seen, HB2.out, O2.out, rfl, rfl, HS2.out, by omega, by omega, by omega, by omega, E2.out⟩
          case measure => rw [hi0, hi3]; omega
        | false =>
          have HS2 : Hid (partsF s by' = seen ++ partsFrom s by' b' (pos + (Utf8.decode s pos).2) (if false then (pos + (Utf8.decode s pos).2) else fm)) := by
            show partsF s by' = _
            rw [HS.out]
            have h := parts_on (s := s) (b := b') (from' := fm) hpos HR.out
            simp [h]
          go_wp2_with fail
          have hi0 : wr.iterPos g = pos := by simp [World.iterPos, HB.out]
          have hi3 : w2.iterPos g = pos + (Utf8.decode s pos).2 := by simp [World.iterPos, HB2.out]
          go_roundw
          case rel => exact ⟨pos + (Utf8.decode s pos).2, b', fm, false, seen, HB2.out, O2.out, rfl, rfl, HS2.out, by omega, by omega, by omega, by omega, E2.out⟩
          case measure => rw [hi0, hi3]; omega
    · have hnx : ∀ ty, (Instr.next (.pointer (some ⟨g, 0, none⟩)) true ty).run Try.prog wr = _ := fun ty => run_next_stop wr g s pos ty HB.out hpos
      have hpe : pos = s.size := by omega
      have E2 := HE
      have O2 := HO
      have hz2 := hlg
      clear hnv
      cases cut with
      | true =>
        have hfin : Hid (partsF s by' = seen ++ [ByteArray.empty]) := by
          show _ = _
          rw [HS.out, parts_end s by' b pos _ hpos, if_pos rfl, hpe]
          simp
        go_wp2_with (first
          | (at_builtin
             refine wpList_app kStr (ok := fun k => g < k) (v := .slice Av seen.length cv) (vx := .slice (some ⟨wr.heap.size, 0, none⟩) 1 1) (xs := seen) (ys := [ByteArray.empty]) (g + 1) rfl _ _ 142 9 _ 16 rfl Try.underlying142 info9 rfl (by decide) (by simp [Act.eval]) (by simp [Act.eval]) (O2.out.ext0 ((Ext.refl _ _).alloc _)) (Rd.lit_at (cs := [.string ByteArray.empty]) (e := 9) (fr := (0, 0)) (heap_alloc_new wr _) rfl ⟨by omega, fun e => by have := (O2.out.base_le _ e.symm).2; omega⟩) (fun k hk => by simp at hk; omega) (by simp; omega) (by simp; omega) (by simp; omega) ?_
             intro v' w' hown hext hblk)
          | fail)
        obtain ⟨A4, c4, rfl, _, _⟩ := hown.slice
        have E3 : Hid (Ext Non w w') := (E2.out.alloc _).trans hext (fun i hi e => by have := (O2.out.base_le i e.symm).1; omega)
        have O3 := Lib.hid hown
        go_ret
        refine ⟨_, _, _, rfl, ?_, E3.out⟩
        show Own _ _ _ _ _ _ _
        rw [hfin.out]
        exact (O3.out.lower (by omega)).mono (fun k hk => by omega)
      | false =>
        have hfin : Hid (partsF s by' = seen ++ [s.extract fm s.size]) := by
          show _ = _
          rw [HS.out, parts_end s by' b pos _ hpos, if_neg (by simp)]
        go_wp2_with (first
          | (at_builtin
             refine wpList_app kStr (ok := fun k => g < k) (v := .slice Av seen.length cv) (vx := .slice (some ⟨wr.heap.size, 0, none⟩) 1 1) (xs := seen) (ys := [s.extract fm s.size]) (g + 1) rfl _ _ 142 9 _ 16 rfl Try.underlying142 info9 rfl (by decide) (by simp [Act.eval]) (by simp [Act.eval]) (O2.out.ext0 ((Ext.refl _ _).alloc _)) (Rd.lit_at (cs := [.string (s.extract fm s.size)]) (e := 9) (fr := (0, 0)) (heap_alloc_new wr _) rfl ⟨by omega, fun e => by have := (O2.out.base_le _ e.symm).2; omega⟩) (fun k hk => by simp at hk; omega) (by simp; omega) (by simp; omega) (by simp; omega) ?_
             intro v' w' hown hext hblk)
          | fail)
        obtain ⟨A4, c4, rfl, _, _⟩ := hown.slice
        have E3 : Hid (Ext Non w w') := (E2.out.alloc _).trans hext (fun i hi e => by have := (O2.out.base_le i e.symm).1; omega)
        have O3 := Lib.hid hown
        go_ret
        refine ⟨_, _, _, rfl, ?_, E3.out⟩
        show Own _ _ _ _ _ _ _
        rw [hfin.out]
        exact (O3.out.lower (by omega)).mono (fun k hk => by omega)
end Go.Proofs.Ytdjfijdnhfmeeaa

namespace Go.Proofs.Ytdjfijdnhfmeeaa
open Go.RowKit Go.TM
def colonFrom (p : ByteArray) : Nat → Nat → Option Nat
  | 0, _ => none
  | b + 1, pos => if pos < p.size then (if ((Utf8.decode p pos).1 : Int) = 58 then some pos else colonFrom p b (pos + (Utf8.decode p pos).2)) else none
theorem colon_end {p : ByteArray} {b pos : Nat} (h : ¬ pos < p.size) : colonFrom p b pos = none := by
  cases b with
  | zero => rfl
  | succ b => exact if_neg h
theorem colon_at {p : ByteArray} {b pos : Nat} (h : pos < p.size) (hr : ((Utf8.decode p pos).1 : Int) = 58) : colonFrom p (b + 1) pos = some pos := (if_pos h).trans (if_pos hr)
theorem colon_on {p : ByteArray} {b pos : Nat} (h : pos < p.size) (hr : ¬ ((Utf8.decode p pos).1 : Int) = 58) : colonFrom p (b + 1) pos = colonFrom p b (pos + (Utf8.decode p pos).2) := (if_pos h).trans (if_neg hr)
def fieldOne (p name : ByteArray) : Option ByteArray :=
  match colonFrom p p.size 0 with
  | some i => if ((p.extract 0 i).toList == name.toList) = true then some (p.extract (i + 1) p.size) else none
  | none => none
def fieldL (name : ByteArray) : List ByteArray → ByteArray × Bool
  | [] => (⟨#[]⟩, false)
  | p :: ps => match fieldOne p name with
    | some v => (v, true)
    | none => fieldL name ps
def fieldF : FieldFn := fun value name => fieldL name (partsF value 32)
theorem fieldL_yes {name p v : ByteArray} {ps : List ByteArray} (h : fieldOne p name = some v) : fieldL name (p :: ps) = (v, true) := by
  unfold fieldL
  rw [h]
theorem fieldL_no {name p : ByteArray} {ps : List ByteArray} (h : fieldOne p name = none) : fieldL name (p :: ps) = fieldL name ps := by
  rw [fieldL.eq_def]
  simp only
  rw [h]
theorem parts_size (s : ByteArray) (by' : Int) : ∀ (b pos fm : Nat), ∀ p ∈ partsFrom s by' b pos fm, p.size ≤ s.size
  | 0, pos, fm, p, hp => by
    simp only [partsFrom, List.mem_singleton] at hp
    subst hp
    simp
  | b + 1, pos, fm, p, hp => by
    by_cases h : pos < s.size
    · by_cases hr : ((Utf8.decode s pos).1 : Int) = by'
      · rw [parts_cut h hr] at hp
        rcases List.mem_cons.1 hp with rfl | hp
        · simp; omega
        · exact parts_size s by' b _ _ p hp
      · rw [parts_on h hr] at hp
        exact parts_size s by' b _ _ p hp
    · rw [parts_end s by' (b + 1) pos fm h, List.mem_singleton] at hp
      subst hp
      simp
theorem parts_len (s : ByteArray) (by' : Int) : ∀ (b pos fm : Nat), (partsFrom s by' b pos fm).length ≤ b + 1
  | 0, _, _ => Nat.le_refl _
  | b + 1, pos, fm => by
    by_cases h : pos < s.size
    · by_cases hr : ((Utf8.decode s pos).1 : Int) = by'
      · rw [parts_cut h hr, List.length_cons]
        have := parts_len s by' b (pos + (Utf8.decode s pos).2) (pos + (Utf8.decode s pos).2)
        omega
      · rw [parts_on h hr]
        have := parts_len s by' b (pos + (Utf8.decode s pos).2) fm
        omega
    · rw [parts_end s by' (b + 1) pos fm h]
      simp
set_option maxRecDepth 100000 in
set_option maxHeartbeats 8000000 in
theorem Field_calls : FieldSpec fieldF := by
  intro w s name hs
  obtain ⟨l, hl⟩ : ∃ l, partsF s 32 = l := ⟨_, rfl⟩
  have HP : Hid (∀ p ∈ l, p.size ≤ 1048576) := by
    intro p hp
    rw [← hl] at hp
    have := parts_size s 32 s.size 0 0 p hp
    omega
  have hll : l.length ≤ 1048577 := by
    rw [← hl]
    have := parts_len s 32 s.size 0 0
    unfold partsF
    omega
  have HL := Lib.hid hl
  have hff : Hid (fieldF s name = fieldL name l) := by show fieldL name (partsF s 32) = _; rw [hl]
  clear hl
  go_enter Try.func127, Try.ntmps127
  go_wp2_with fail
  refine (Parts_calls w s hs 32).mono ?_
  rw [HL.out]
  rintro e w1 ⟨A, n, c, rfl, HO, HE⟩
  obtain ⟨_, c', he, hc, hm⟩ := HO.out.slice
  simp only [Value.slice.injEq] at he
  obtain ⟨-, rfl, rfl⟩ := he
  have R1 := Lib.hid HO.out.rd
  clear HO hc hm
  go_wp2_with fail
  go_loopw [13] (fun i wr => ∃ j : Nat, i = .int .i64 (j : Int) ∧ j ≤ l.length ∧ Hid (Ext Non w1 wr) ∧ Hid (fieldL name l = fieldL name (l.drop j))) (fun i _ => l.length - (intOf i).toNat)
  case atStart => exact ⟨0, rfl, by omega, Ext.refl _ _, rfl⟩
  case round =>
    obtain ⟨j, rfl, hj, HE2, HF⟩ := hrel
    by_cases hlt : j < l.length
    · obtain ⟨p, hx⟩ : ∃ p, l[j]? = some p := ⟨_, List.getElem?_eq_getElem hlt⟩
      obtain ⟨gl, off, rfl, _, hgl, hcc⟩ := (R1.out.ext0 HE2.out).flat_at hx
      have d0 := hcc 0 _ rfl
      simp only [Nat.add_zero, Nat.mul_one] at d0
      have hdrop : l.drop j = p :: l.drop (j + 1) := by
        rw [List.drop_eq_getElem_cons hlt]
        congr 1
        exact (List.getElem?_eq_some_iff.1 hx).2
      have HD := Lib.hid hdrop
      have hpz : p.size ≤ 1048576 := HP.out p (List.mem_of_getElem? hx)
      clear hcc hx hdrop
      obtain ⟨wo, hwo⟩ : ∃ wo, wo = wr := ⟨_, rfl⟩
      subst hwo
      go_wp2_with fail
      go_loopw [] (fun wr => ∃ (pos b : Nat), wr = wo.iter p pos ∧ p.size ≤ pos + b ∧ Hid (colonFrom p p.size 0 = colonFrom p b pos)) (fun wr => p.size - wr.iterPos wo.heap.size)
      case atStart => exact ⟨0, p.size, rfl, by omega, rfl⟩
      case round =>
        obtain ⟨pos, b, rfl, hb, HC⟩ := hrel
        have HEI : Hid (∀ q, Ext Non wo (wo.iter p q)) := fun q => (Ext.refl Non wo).alloc _
        by_cases hpos : pos < p.size
        · have hnx : ∀ ty, (Instr.next (.pointer (some ⟨wo.heap.size, 0, none⟩)) true ty).run Try.prog (wo.iter p pos) = _ := fun ty => run_next_any wo p pos ty hpos
          have hwd := width_pos p pos hpos
          have hwi := width_in p pos hpos
          obtain ⟨b', rfl⟩ : ∃ b', b = b' + 1 := ⟨b - 1, by omega⟩
          by_cases hrn : ((Utf8.decode p pos).1 : Int) = 58
          · have HR := Lib.hid hrn
            obtain ⟨bq, hbq⟩ : ∃ bq, ((p.extract 0 pos).toList == name.toList) = bq := ⟨_, rfl⟩
            have HBQ := Lib.hid hbq
            have HCO : Hid (colonFrom p p.size 0 = some pos) := HC.out.trans (colon_at hpos HR.out)
            cases bq with
            | true =>
              have hone : Hid (fieldF s name = (p.extract (pos + 1) p.size, true)) := by
                show _ = _
                rw [hff.out, HF.out, HD.out]
                refine fieldL_yes ?_
                unfold fieldOne
                rw [HCO.out]
                exact if_pos HBQ.out
              go_wp2_with fail
              go_ret2
              exact ⟨by rw [hone.out]; rfl, HE.out.trans0 (HE2.out.trans0 (HEI.out _))⟩
            | false =>
              have hone : Hid (fieldL name l = fieldL name (l.drop (j + 1))) := by
                show _ = _
                rw [HF.out, HD.out]
                refine fieldL_no ?_
                unfold fieldOne
                rw [HCO.out]
                exact if_neg (by rw [HBQ.out]; simp)
              go_wp2_with fail
              go_roundw
              case rel => exact ⟨j + 1, by go_num, by omega, HE2.out.trans0 (HEI.out _), hone.out⟩
              case measure => simp [intOf]; omega
          · have HR := Lib.hid hrn
            have hnn : Hid (colonFrom p p.size 0 = colonFrom p b' (pos + (Utf8.decode p pos).2)) := HC.out.trans (colon_on hpos HR.out)
            go_wp2_with fail
            go_roundw
            case rel => exact ⟨pos + (Utf8.decode p pos).2, b', rfl, by omega, hnn.out⟩
            case measure => simp; omega
        · have hnx : ∀ ty, (Instr.next (.pointer (some ⟨wo.heap.size, 0, none⟩)) true ty).run Try.prog (wo.iter p pos) = _ := fun ty => run_next_end wo p pos ty hpos
          have hone : Hid (fieldL name l = fieldL name (l.drop (j + 1))) := by
            show _ = _
            rw [HF.out, HD.out]
            refine fieldL_no ?_
            unfold fieldOne
            rw [HC.out, colon_end hpos]
          go_wp2_with fail
          go_roundw
          case rel => exact ⟨j + 1, by go_num, by omega, HE2.out.trans0 (HEI.out _), hone.out⟩
          case measure => simp [intOf]; omega
    · obtain rfl : j = l.length := by omega
      have hfin : Hid (fieldF s name = (⟨#[]⟩, false)) := by
        show _ = _
        rw [hff.out, HF.out, List.drop_length]
        rfl
      go_wp2_with fail
      go_ret2
      exact ⟨by rw [hfin.out]; rfl, HE.out.trans0 HE2.out⟩
end Go.Proofs.Ytdjfijdnhfmeeaa

namespace Go.Proofs.Ytdjfijdnhfmeeaa
open Go.RowKit Go.TM Go.ChangeShapes Go.WideShapes Go.ChangeAt Go.Deep
def Ev.cells (e : Ev) : List Value := [.int .i64 e.pos, .string e.key, .bool e.had, .string e.old, .bool e.has, .string e.now]
theorem evV_cells (e : Ev) : evV e = .agg e.cells.toArray := rfl
def evK : Kd Ev := Kd.flat 6 Ev.cells (fun _ => rfl) (fun x u hu => by
  simp only [Ev.cells, List.mem_cons, List.not_mem_nil, or_false] at hu
  rcases hu with rfl | rfl | rfl | rfl | rfl | rfl <;> rfl)
def Ev.small (e : Ev) : Prop := e.key.size ≤ 8192 ∧ e.old.size ≤ 8192 ∧ e.now.size ≤ 8192
def Ev.ok (e : Ev) : Prop := e.key.size ≤ maxLen ∧ e.old.size ≤ maxLen ∧ e.now.size ≤ maxLen
theorem ev_at {w : World} {ok : Nat → Prop} {A : Option Addr} {n c : Nat} {xs : List Ev} (h : Rd evK w ok (.slice A n c) xs) {j : Nat} {e : Ev} (hs : xs[j]? = some e) :
    ∃ g off, A = some ⟨g, off, none⟩ ∧ ok g ∧ g < w.heap.size ∧ w.cell? ⟨g, off + j * 6, none⟩ = some (.int .i64 e.pos) ∧ w.cell? ⟨g, off + j * 6 + 1, none⟩ = some (.string e.key) ∧ w.cell? ⟨g, off + j * 6 + 2, none⟩ = some (.bool e.had) ∧
      w.cell? ⟨g, off + j * 6 + 3, none⟩ = some (.string e.old) ∧ w.cell? ⟨g, off + j * 6 + 4, none⟩ = some (.bool e.has) ∧ w.cell? ⟨g, off + j * 6 + 5, none⟩ = some (.string e.now) := by
  obtain ⟨g, off, rfl, hg, hgl, hc⟩ := h.flat_at hs
  exact ⟨g, off, rfl, hg, hgl, hc 0 _ rfl, hc 1 _ rfl, hc 2 _ rfl, hc 3 _ rfl, hc 4 _ rfl, hc 5 _ rfl⟩
end Go.Proofs.Ytdjfijdnhfmeeaa

