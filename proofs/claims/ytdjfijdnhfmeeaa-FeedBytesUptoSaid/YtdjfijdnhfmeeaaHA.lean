/- A filter's bytes: plain. A filter's bytes: put. A filter's bytes: the document's tell. A filter's bytes: Put, both. -/
import Derived.Test.YtdjfijdnhfmeeaaWB
import Derived.Test.YtdjfijdnhfmeeaaL
namespace Go.Proofs.Ytdjfijdnhfmeeaa
open Go.RowKit Go.TM
theorem _root_.Go.TM.drew_size (w : World) : w.drew.heap.size = w.heap.size := rfl
/-- A part's own bytes; a filter's bytes. -/
def hdF (f : Flt) : List UInt8 := numB f.op.toNat ++ numB f.key.size ++ f.key.data.toList ++ numB f.val.size ++ f.val.data.toList ++ numB f.kids.length
def encF : Nat → Flt → List UInt8
  | 0, _ => []
  | n + 1, f => hdF f ++ f.kids.flatMap (encF n)
theorem flat_take_le {α : Type} (F : α → List UInt8) : ∀ (l : List α) (j : Nat), ((l.take j).flatMap F).length ≤ (l.flatMap F).length
  | [], j => by simp
  | x :: l, 0 => by simp
  | x :: l, j + 1 => by
    rw [List.take_succ_cons, List.flatMap_cons, List.flatMap_cons, List.length_append, List.length_append]
    have := flat_take_le F l j
    omega
theorem Number_free {w : World} {ok : Nat → Prop} {A : Option Addr} {n c : Nat} {bs : List UInt8} (H : Rd Kd.u8 w ok (.slice A n c) bs) (m : Int) (h0 : -9223372036854775808 ≤ m) (h1 : m ≤ 9223372036854775807) (hbl : bs.length ≤ 1099511627776) (hf : ∀ k, w.heap.size ≤ k → ok k) :
    Calls Try.prog 65 #[.slice A n c, .int .i64 m] w (NumPost ok (bs ++ numB m.toNat) w) := by
  obtain ⟨A', c', he, hc', hm⟩ := H.slice
  simp only [Value.slice.injEq] at he
  obtain ⟨rfl, rfl, rfl⟩ := he
  exact Number_calls H m h0 h1 hbl hf
end Go.Proofs.Ytdjfijdnhfmeeaa

namespace Go.Proofs.Ytdjfijdnhfmeeaa
open Go.RowKit Go.TM
def PutAt (n : Nat) : Prop := ∀ (f : Flt) (w : World) (ok okb : Nat → Prop) (v : Value) (Ab : Option Addr) (nb cb : Nat) (bs : List UInt8), Rd (fltK n) w ok v f.kids → okL (n + 1) f → Rd Kd.u8 w okb (.slice Ab nb cb) bs →
    bs.length + (encF (n + 1) f).length ≤ 1048576000 → (∀ k, w.heap.size ≤ k → okb k) →
    Calls Try.prog 85 #[.slice Ab nb cb, .agg #[.int .i64 f.op, .string f.key, .string f.val, v]] w (NumPost okb (bs ++ encF (n + 1) f) w)
set_option maxRecDepth 100000 in
set_option maxHeartbeats 8000000 in
theorem put_step (n : Nat) (ih : ∀ m, n = m + 1 → PutAt m) : PutAt n := by
  intro f w ok okb v Ab nb cb bs hr hokf hb hbl hf
  obtain ⟨op, key, val, kids⟩ := f
  obtain ⟨A, len, cap, rfl, hlen⟩ := rd_abs hr
  have HL : Hid (len = kids.length) := hlen
  have OPI : Hid (inI op) := hokf.1
  have K1 : Hid (key.size ≤ 1048576) := hokf.2.1
  have K2 : Hid (val.size ≤ 1048576) := hokf.2.2.1
  have K3 : Hid (len ≤ 1000) := by have h := hokf.2.2.2.1; show len ≤ 1000; rw [HL.out]; exact h
  have HOK : Hid (∀ k ∈ kids, okL n k) := hokf.2.2.2.2
  have L9 : Hid ((numB op.toNat).length ≤ 9) := numB_le (by have := OPI.out.2; omega)
  have L1 : Hid ((numB key.size).length ≤ 9) := numB_le (by have := K1.out; omega)
  have L2 : Hid ((numB val.size).length ≤ 9 ∧ bs.length ≤ 1048576000) := ⟨numB_le (by have := K2.out; omega), by omega⟩
  have HBL : Hid (bs.length ≤ 1048576000) := L2.out.2
  have HBT := Lib.hid hbl
  have s3 : len ≤ 1000 := K3.out
  have T1 : Hid (key.data.toList.length ≤ 1048576 ∧ val.data.toList.length ≤ 1048576) := ⟨(size_list key).symm ▸ K1.out, (size_list val).symm ▸ K2.out⟩
  have HR := Lib.hid hr.bound
  have RB := Lib.hid hb
  have HF := Lib.hid hf
  have HIH := Lib.hid ih
  show Calls Try.prog 85 #[.slice Ab nb cb, .agg #[.int .i64 op, .string key, .string val, .slice A len cap]] w (NumPost okb (bs ++ encF (n + 1) (.mk op key val kids)) w)
  clear hr hokf hb hbl hf ih hlen
  go_enter Try.func85, Try.ntmps85
  go_wp2_with fail
  have E0 : Hid (Ext Non w (w.alloc (.cells #[.int .i64 op, .string key, .string val, .slice A len cap] 24))) := (Ext.refl _ _).alloc _
  have BX : Hid ((w.alloc (.cells #[.int .i64 op, .string key, .string val, .slice A len cap] 24)).heap[w.heap.size]? = some (.cells #[.int .i64 op, .string key, .string val, .slice A len cap] 24)) := blk_new _ _
  obtain ⟨w0, hw0⟩ : ∃ w0, w.alloc (.cells #[.int .i64 op, .string key, .string val, .slice A len cap] 24) = w0 := ⟨_, rfl⟩
  rw [hw0] at E0 BX ⊢
  clear hw0
  have Z0 := Lib.hid E0.out.size
  have y00 : w0.cell? ⟨w.heap.size, 0, none⟩ = some (.int .i64 op) := blk_cell BX.out 0
  have y01 : w0.cell? ⟨w.heap.size, 1, none⟩ = some (.string key) := blk_cell BX.out 1
  have y02 : w0.cell? ⟨w.heap.size, 2, none⟩ = some (.string val) := blk_cell BX.out 2
  have E00 : Hid (Ext Non w0 w0) := Ext.refl _ _
  refine (Number_free (bs := bs) (RB.out.ext0 E0.out) op (OPI.out.1) (OPI.out.2) (by have := HBL.out; omega) (fun j hj => HF.out j (by have h1 := Z0.out; have h2 := Z0.out; omega))).mono ?_
  rintro e w1 ⟨v1, rfl, ho, he⟩
  obtain ⟨A1, N1, c1, rfl, hn1⟩ := Own.abs8 ho
  have R1 := Lib.hid ho.rd
  have E1 : Hid (Ext Non w0 w1) := (E00.out).trans0 he
  have Z1 := Lib.hid E1.out.size
  have y10 : w1.cell? ⟨w.heap.size, 0, none⟩ = some (.int .i64 op) := blk_cell (E1.out.obj BX.out (fun h => h)) 0
  have y11 : w1.cell? ⟨w.heap.size, 1, none⟩ = some (.string key) := blk_cell (E1.out.obj BX.out (fun h => h)) 1
  have y12 : w1.cell? ⟨w.heap.size, 2, none⟩ = some (.string val) := blk_cell (E1.out.obj BX.out (fun h => h)) 2
  have y13 : w1.cell? ⟨w.heap.size, 3, none⟩ = some (.slice A len cap) := blk_cell (E1.out.obj BX.out (fun h => h)) 3
  have HN1 := Lib.hid hn1
  clear ho he hn1
  go_wp2_with fail
  refine Last.start_ (S := fun W => W.cell? ⟨w.heap.size, 0, none⟩ = some (.int .i64 op) ∧ W.cell? ⟨w.heap.size, 1, none⟩ = some (.string key) ∧ W.cell? ⟨w.heap.size, 2, none⟩ = some (.string val)) (ds := []) #[false, false, false, false, false, false, false, false] (by kernel_rfl) (by rfl) (by rfl) ⟨y10, y11, y12⟩ (fun hS => ?_)
  refine Last.take_ (i := 0) (N := some 11) (v := .slice A1 N1 c1) #[true, false, false, false, false, false, false, false] (by simp only [List.getElem?_toArray, List.getElem?_cons_zero]; rfl) rfl (by kernel_rfl) (by exact fun _ _ _ h => h) (Or.inl ⟨by rfl, fun W hW => by first | rfl | (try dsimp only at hW); go_simp⟩) hS rfl ?_
  simp only [Act.put, List.setIfInBounds_toArray, List.set_cons_zero, List.set_cons_succ]
  refine Last.take_ (i := 1) (N := some 12) (v := .pointer (some ⟨w.heap.size, 1, none⟩)) #[true, true, false, false, false, false, false, false] (by simp only [List.getElem?_toArray, List.getElem?_cons_zero, List.getElem?_cons_succ]; rfl) rfl (by kernel_rfl) (by exact fun _ _ _ h => h) (Or.inl ⟨by rfl, fun W hW => by first | rfl | (try dsimp only at hW); go_simp⟩) hS rfl ?_
  simp only [Act.put, List.setIfInBounds_toArray, List.set_cons_zero, List.set_cons_succ]
  refine Last.take_ (i := 2) (N := some 13) (v := .string key) #[true, true, true, false, false, false, false, false] (by simp only [List.getElem?_toArray, List.getElem?_cons_zero, List.getElem?_cons_succ]; rfl) rfl (by kernel_rfl) (by exact fun _ _ _ h => h) (Or.inl ⟨by rfl, fun W hW => by first | rfl | (try dsimp only at hW); go_simp⟩) hS rfl ?_
  simp only [Act.put, List.setIfInBounds_toArray, List.set_cons_zero, List.set_cons_succ]
  refine Last.take_ (i := 4) (N := some 15) (v := .pointer (some ⟨w.heap.size, 2, none⟩)) #[true, true, true, false, true, false, false, false] (by simp only [List.getElem?_toArray, List.getElem?_cons_zero, List.getElem?_cons_succ]; rfl) rfl (by kernel_rfl) (by exact fun _ _ _ h => h) (Or.inl ⟨by rfl, fun W hW => by first | rfl | (try dsimp only at hW); go_simp⟩) hS rfl ?_
  simp only [Act.put, List.setIfInBounds_toArray, List.set_cons_zero, List.set_cons_succ]
  refine Last.take_ (i := 5) (N := some 16) (v := .string val) #[true, true, true, false, true, true, false, false] (by simp only [List.getElem?_toArray, List.getElem?_cons_zero, List.getElem?_cons_succ]; rfl) rfl (by kernel_rfl) (by exact fun _ _ _ h => h) (Or.inl ⟨by rfl, fun W hW => by first | rfl | (try dsimp only at hW); go_simp⟩) hS rfl ?_
  simp only [Act.put, List.setIfInBounds_toArray, List.set_cons_zero, List.set_cons_succ]
  refine Last.one_ (i := 3) (N := some 14) #[true, true, true, true, true, true, false, false] (by simp only [List.getElem?_toArray, List.getElem?_cons_zero, List.getElem?_cons_succ]; rfl) rfl (by kernel_rfl) (by decide) (fun K hK => ?_)
  refine Last.goes_ Try.func84 (by kernel_rfl) rfl #[.slice A1 N1 c1, .string key] (by rfl) rfl rfl (by simp [Act.eval]) ?_
  refine (Text_calls (R1.out.ext0 (Ext.refl _ _).drew) key (by have h1 := L9.out; have h2 := L1.out; have h3 := L2.out; have h4 := T1.out; simp only [List.length_append]; omega) (by have := K1.out; omega) (fun j hj => HF.out j (by have h1 := Z1.out; have h2 := Z0.out; simp only [Go.TM.drew_size] at hj; omega))).mono ?_
  rintro e w2 ⟨v2, rfl, ho, he⟩
  obtain ⟨A2, N2, c2, rfl, hn2⟩ := Own.abs8 ho
  have R2 := Lib.hid ho.rd
  have E2 : Hid (Ext Non w0 w2) := (E1.out.drew).trans0 he
  have Z2 := Lib.hid E2.out.size
  have y20 : w2.cell? ⟨w.heap.size, 0, none⟩ = some (.int .i64 op) := blk_cell (E2.out.obj BX.out (fun h => h)) 0
  have y21 : w2.cell? ⟨w.heap.size, 1, none⟩ = some (.string key) := blk_cell (E2.out.obj BX.out (fun h => h)) 1
  have y22 : w2.cell? ⟨w.heap.size, 2, none⟩ = some (.string val) := blk_cell (E2.out.obj BX.out (fun h => h)) 2
  have y23 : w2.cell? ⟨w.heap.size, 3, none⟩ = some (.slice A len cap) := blk_cell (E2.out.obj BX.out (fun h => h)) 3
  have HN2 := Lib.hid hn2
  clear ho he hn2
  refine ⟨_, rfl, hK.out _ _ ⟨y20, y21, y22⟩ (fun hS => ?_)⟩
  try simp only [Act.put, List.setIfInBounds_toArray, List.set_cons_zero, List.set_cons_succ]
  refine Last.one_ (i := 6) (N := some 17) #[true, true, true, true, true, true, true, false] (by simp only [List.getElem?_toArray, List.getElem?_cons_zero, List.getElem?_cons_succ]; rfl) rfl (by kernel_rfl) (by decide) (fun K hK => ?_)
  refine Last.goes_ Try.func84 (by kernel_rfl) rfl #[.slice A2 N2 c2, .string val] (by rfl) rfl rfl (by simp [Act.eval]) ?_
  refine (Text_calls R2.out val (by have h1 := L9.out; have h2 := L1.out; have h3 := L2.out; have h4 := T1.out; simp only [List.length_append]; omega) (by have := K2.out; omega) (fun j hj => HF.out j (by have h1 := Z2.out; have h2 := Z0.out; omega))).mono ?_
  rintro e w3 ⟨v3, rfl, ho, he⟩
  obtain ⟨A3, N3, c3, rfl, hn3⟩ := Own.abs8 ho
  have R3 := Lib.hid ho.rd
  have E3 : Hid (Ext Non w0 w3) := (E2.out).trans0 he
  have Z3 := Lib.hid E3.out.size
  have y30 : w3.cell? ⟨w.heap.size, 0, none⟩ = some (.int .i64 op) := blk_cell (E3.out.obj BX.out (fun h => h)) 0
  have y31 : w3.cell? ⟨w.heap.size, 1, none⟩ = some (.string key) := blk_cell (E3.out.obj BX.out (fun h => h)) 1
  have y32 : w3.cell? ⟨w.heap.size, 2, none⟩ = some (.string val) := blk_cell (E3.out.obj BX.out (fun h => h)) 2
  have y33 : w3.cell? ⟨w.heap.size, 3, none⟩ = some (.slice A len cap) := blk_cell (E3.out.obj BX.out (fun h => h)) 3
  have HN3 := Lib.hid hn3
  clear ho he hn3
  refine ⟨_, rfl, hK.out _ _ ⟨y30, y31, y32⟩ (fun hS => ?_)⟩
  try simp only [Act.put, List.setIfInBounds_toArray, List.set_cons_zero, List.set_cons_succ]
  refine Last.take_ (i := 7) (N := some 0) (v := .slice A3 N3 c3) #[true, true, true, true, true, true, true, true] (by simp only [List.getElem?_toArray, List.getElem?_cons_zero, List.getElem?_cons_succ]; rfl) rfl (by kernel_rfl) (by exact fun _ _ _ h => h) (Or.inl ⟨by rfl, fun W hW => by first | rfl | (try dsimp only at hW); go_simp⟩) hS rfl ?_
  simp only [Act.put, List.setIfInBounds_toArray, List.set_cons_zero]
  refine Last.done_ (by kernel_rfl) ?_
  go_wp2_with fail
  refine (Number_free R3.out (len : Int) (by omega) (by have := K3.out; omega) (by have h1 := L9.out; have h2 := L1.out; have h3 := L2.out; have h4 := T1.out; simp only [List.length_append]; omega) (fun j hj => HF.out j (by have h1 := Z3.out; have h2 := Z0.out; omega))).mono ?_
  rintro e w4 ⟨v4, rfl, ho, he⟩
  rw [show (len : Int).toNat = len from by omega] at ho
  obtain ⟨A4, N4, c4, rfl, hn4⟩ := Own.abs8 ho
  have E4 : Hid (Ext Non w0 w4) := E3.out.trans0 he
  have HE4 : Hid (Ext Non w w4) := E0.out.trans0 E4.out
  have O4 : Hid (Own Kd.u8 5 w4 w.heap.size okb (.slice A4 N4 c4) (bs ++ hdF (.mk op key val kids))) := by
    have h := ho.lower (base' := w.heap.size) (by have h1 := Z3.out; have h2 := Z0.out; omega)
    have e : bs ++ numB op.toNat ++ numB key.size ++ key.data.toList ++ numB val.size ++ val.data.toList ++ numB len = bs ++ hdF (.mk op key val kids) := by
      rw [HL.out]
      simp [hdF, Flt.op, Flt.key, Flt.val, Flt.kids]
    show Own _ _ _ _ _ _ _
    rw [← e]
    exact h
  have y43 : w4.cell? ⟨w.heap.size, 3, none⟩ = some (.slice A len cap) := blk_cell (E4.out.obj BX.out (fun h => h)) 3
  clear ho he hn4
  go_wp2_with fail
  go_loopw [0, 26] (fun s i wr => ∃ (j : Nat) (A5 : Option Addr) (N5 c5 : Nat), i = .int .i64 (j : Int) ∧ s = .slice A5 N5 c5 ∧ j ≤ len ∧ Hid (Own Kd.u8 5 wr w.heap.size okb (.slice A5 N5 c5) (bs ++ hdF (.mk op key val kids) ++ (kids.take j).flatMap (encF n))) ∧ Hid (Ext Non w wr)) (fun _ i _ => len - (intOf i).toNat)
  case atStart => exact ⟨0, A4, N4, c4, rfl, rfl, by omega, by simpa [Hid] using O4.out, HE4⟩
  case round =>
    obtain ⟨j, A5, N5, c5, rfl, rfl, hj, HO5, HE5⟩ := hrel
    by_cases hlt : j < len
    · obtain ⟨k, hk0⟩ : ∃ k, kids[j]? = some k := ⟨_, List.getElem?_eq_getElem (by rw [← HL.out]; exact hlt)⟩
      have htake : kids.take (j + 1) = kids.take j ++ [k] := by rw [List.take_add_one, hk0]; rfl
      obtain ⟨gk, off, vk, m, hnm, rfl, hgk, hgl, d0', d1', d2', d3', hrk⟩ := kid_at (HR.out.ext0 HE5.out) hk0
      have hkok : okL (m + 1) k := hnm ▸ HOK.out k (List.mem_of_getElem? hk0)
      obtain ⟨A2, len2, cap2, rfl, hlen2⟩ := rd_abs hrk
      have hfl : Hid ((bs ++ hdF (.mk op key val kids) ++ (kids.take (j + 1)).flatMap (encF n)).length ≤ 1048576000) := by
        show (bs ++ hdF (.mk op key val kids) ++ (kids.take (j + 1)).flatMap (encF n)).length ≤ 1048576000
        have h1 := flat_take_le (encF n) kids (j + 1)
        have h2 := HBT.out
        have h3 : (encF (n + 1) (.mk op key val kids)).length = (hdF (.mk op key val kids)).length + (kids.flatMap (encF n)).length := by
          rw [show encF (n + 1) (.mk op key val kids) = hdF (.mk op key val kids) ++ kids.flatMap (encF n) from rfl, List.length_append]
        rw [List.length_append, List.length_append]
        omega
      have heq : Hid (bs ++ hdF (.mk op key val kids) ++ (kids.take (j + 1)).flatMap (encF n) = bs ++ hdF (.mk op key val kids) ++ (kids.take j).flatMap (encF n) ++ encF (m + 1) k) := by
        show _ = _
        rw [htake, hnm]
        simp
      have HRK := Lib.hid hrk
      clear hrk hk0 htake hlen2
      go_wp2_with fail
      refine (HIH.out m hnm k _ _ okb _ A5 N5 c5 (bs ++ hdF (.mk op key val kids) ++ (kids.take j).flatMap (encF n)) (HRK.out.ext0 ?_) hkok (HO5.out.rd.ext0 ?_) ?_ ?_).mono ?_
      · repeat (first | exact Ext.refl _ _ | refine Ext.drew ?_ | refine Ext.alloc ?_ _)
      · repeat (first | exact Ext.refl _ _ | refine Ext.drew ?_ | refine Ext.alloc ?_ _)
      · have h := hfl.out
        rw [heq.out, List.length_append] at h
        exact h
      · exact fun i hi => HF.out i (by have h1 := HE5.out.size; simp at hi; omega)
      rintro e w6 ⟨v6, rfl, ho, he⟩
      obtain ⟨A6, N6, c6, rfl, hn6⟩ := Own.abs8 ho
      have O6 : Hid (Own Kd.u8 5 w6 w.heap.size okb (.slice A6 N6 c6) (bs ++ hdF (.mk op key val kids) ++ (kids.take (j + 1)).flatMap (encF n))) := by
        show Own _ _ _ _ _ _ _
        rw [heq.out]
        exact ho.lower (by have h1 := HE5.out.size; simp; omega)
      have E6 : Hid (Ext Non w w6) := by
        refine Ext.trans0 ?_ he
        repeat (first | exact HE5.out | refine Ext.drew ?_ | refine Ext.alloc ?_ _)
      clear ho he hn6
      go_wp2_with fail
      go_roundw
      case rel => exact ⟨j + 1, A6, N6, c6, by go_num, rfl, by omega, O6.out, E6.out⟩
      case measure => simp [intOf]; omega
    · obtain rfl : j = len := by omega
      go_wp2_with fail
      go_ret
      refine ⟨_, rfl, ?_, HE5.out⟩
      have h := HO5.out
      rw [List.take_of_length_le (by rw [← HL.out]; omega), List.append_assoc] at h
      exact h
theorem put_at : ∀ n, PutAt n := by
  intro n
  induction n with
  | zero => exact put_step 0 (fun m h => by omega)
  | succ n ih => exact put_step (n + 1) (fun m h => by cases h; exact ih)
end Go.Proofs.Ytdjfijdnhfmeeaa

namespace Go.Proofs.Ytdjfijdnhfmeeaa
open Go.RowKit Go.TM
def TellAt (n : Nat) : Prop := ∀ (f : Flt) (w : World) (ok okb : Nat → Prop) (v : Value) (Ab : Option Addr) (nb cb : Nat) (bs : List UInt8), Rd (fltK n) w ok v f.kids → okL (n + 1) f → Rd Kd.u8 w okb (.slice Ab nb cb) bs →
    bs.length + (encF (n + 1) f).length ≤ 1048576000 → (∀ k, w.heap.size ≤ k → okb k) →
    Calls Try.prog 86 #[.slice Ab nb cb, .agg #[.int .i64 f.op, .string f.key, .string f.val, v]] w (NumPost okb (bs ++ encF (n + 1) f) w)
set_option maxRecDepth 100000 in
set_option maxHeartbeats 8000000 in
theorem tell_step (n : Nat) (ih : ∀ m, n = m + 1 → TellAt m) : TellAt n := by
  intro f w ok okb v Ab nb cb bs hr hokf hb hbl hf
  obtain ⟨op, key, val, kids⟩ := f
  obtain ⟨A, len, cap, rfl, hlen⟩ := rd_abs hr
  have HL : Hid (len = kids.length) := hlen
  have OPI : Hid (inI op) := hokf.1
  have K1 : Hid (key.size ≤ 1048576) := hokf.2.1
  have K2 : Hid (val.size ≤ 1048576) := hokf.2.2.1
  have K3 : Hid (len ≤ 1000) := by have h := hokf.2.2.2.1; show len ≤ 1000; rw [HL.out]; exact h
  have HOK : Hid (∀ k ∈ kids, okL n k) := hokf.2.2.2.2
  have L9 : Hid ((numB op.toNat).length ≤ 9) := numB_le (by have := OPI.out.2; omega)
  have L1 : Hid ((numB key.size).length ≤ 9) := numB_le (by have := K1.out; omega)
  have L2 : Hid ((numB val.size).length ≤ 9 ∧ bs.length ≤ 1048576000) := ⟨numB_le (by have := K2.out; omega), by omega⟩
  have HBL : Hid (bs.length ≤ 1048576000) := L2.out.2
  have HBT := Lib.hid hbl
  have s3 : len ≤ 1000 := K3.out
  have T1 : Hid (key.data.toList.length ≤ 1048576 ∧ val.data.toList.length ≤ 1048576) := ⟨(size_list key).symm ▸ K1.out, (size_list val).symm ▸ K2.out⟩
  have HR := Lib.hid hr.bound
  have RB := Lib.hid hb
  have HF := Lib.hid hf
  have HIH := Lib.hid ih
  show Calls Try.prog 86 #[.slice Ab nb cb, .agg #[.int .i64 op, .string key, .string val, .slice A len cap]] w (NumPost okb (bs ++ encF (n + 1) (.mk op key val kids)) w)
  clear hr hokf hb hbl hf ih hlen
  go_enter Try.func86, Try.ntmps86
  go_wp2_with fail
  have E0 : Hid (Ext Non w (w.alloc (.cells #[.int .i64 op, .string key, .string val, .slice A len cap] 24))) := (Ext.refl _ _).alloc _
  have BX : Hid ((w.alloc (.cells #[.int .i64 op, .string key, .string val, .slice A len cap] 24)).heap[w.heap.size]? = some (.cells #[.int .i64 op, .string key, .string val, .slice A len cap] 24)) := blk_new _ _
  obtain ⟨w0, hw0⟩ : ∃ w0, w.alloc (.cells #[.int .i64 op, .string key, .string val, .slice A len cap] 24) = w0 := ⟨_, rfl⟩
  rw [hw0] at E0 BX ⊢
  clear hw0
  have Z0 := Lib.hid E0.out.size
  have y00 : w0.cell? ⟨w.heap.size, 0, none⟩ = some (.int .i64 op) := blk_cell BX.out 0
  have y01 : w0.cell? ⟨w.heap.size, 1, none⟩ = some (.string key) := blk_cell BX.out 1
  have y02 : w0.cell? ⟨w.heap.size, 2, none⟩ = some (.string val) := blk_cell BX.out 2
  have E00 : Hid (Ext Non w0 w0) := Ext.refl _ _
  refine Last.start_ (S := fun W => W.cell? ⟨w.heap.size, 0, none⟩ = some (.int .i64 op) ∧ W.cell? ⟨w.heap.size, 1, none⟩ = some (.string key) ∧ W.cell? ⟨w.heap.size, 2, none⟩ = some (.string val)) (ds := []) #[false, false, false, false, false, false, false, false, false, false, false] (by kernel_rfl) (by rfl) (by rfl) ⟨y00, y01, y02⟩ (fun hS => ?_)
  refine Last.take_ (i := 0) (N := some 7) (v := .slice Ab nb cb) #[true, false, false, false, false, false, false, false, false, false, false] (by simp only [List.getElem?_toArray, List.getElem?_cons_zero]; rfl) rfl (by kernel_rfl) (by exact fun _ _ _ h => h) (Or.inl ⟨by rfl, fun W hW => by first | rfl | (try dsimp only at hW); go_simp⟩) hS rfl ?_
  simp only [Act.put, List.setIfInBounds_toArray, List.set_cons_zero, List.set_cons_succ]
  refine Last.take_ (i := 1) (N := some 8) (v := .pointer (some ⟨w.heap.size, 0, none⟩)) #[true, true, false, false, false, false, false, false, false, false, false] (by simp only [List.getElem?_toArray, List.getElem?_cons_zero, List.getElem?_cons_succ]; rfl) rfl (by kernel_rfl) (by exact fun _ _ _ h => h) (Or.inl ⟨by rfl, fun W hW => by first | rfl | (try dsimp only at hW); go_simp⟩) hS rfl ?_
  simp only [Act.put, List.setIfInBounds_toArray, List.set_cons_zero, List.set_cons_succ]
  refine Last.take_ (i := 2) (N := some 9) (v := .int .i64 op) #[true, true, true, false, false, false, false, false, false, false, false] (by simp only [List.getElem?_toArray, List.getElem?_cons_zero, List.getElem?_cons_succ]; rfl) rfl (by kernel_rfl) (by exact fun _ _ _ h => h) (Or.inl ⟨by rfl, fun W hW => by first | rfl | (try dsimp only at hW); go_simp⟩) hS rfl ?_
  simp only [Act.put, List.setIfInBounds_toArray, List.set_cons_zero, List.set_cons_succ]
  refine Last.take_ (i := 4) (N := some 11) (v := .pointer (some ⟨w.heap.size, 1, none⟩)) #[true, true, true, false, true, false, false, false, false, false, false] (by simp only [List.getElem?_toArray, List.getElem?_cons_zero, List.getElem?_cons_succ]; rfl) rfl (by kernel_rfl) (by exact fun _ _ _ h => h) (Or.inl ⟨by rfl, fun W hW => by first | rfl | (try dsimp only at hW); go_simp⟩) hS rfl ?_
  simp only [Act.put, List.setIfInBounds_toArray, List.set_cons_zero, List.set_cons_succ]
  refine Last.take_ (i := 5) (N := some 12) (v := .string key) #[true, true, true, false, true, true, false, false, false, false, false] (by simp only [List.getElem?_toArray, List.getElem?_cons_zero, List.getElem?_cons_succ]; rfl) rfl (by kernel_rfl) (by exact fun _ _ _ h => h) (Or.inl ⟨by rfl, fun W hW => by first | rfl | (try dsimp only at hW); go_simp⟩) hS rfl ?_
  simp only [Act.put, List.setIfInBounds_toArray, List.set_cons_zero, List.set_cons_succ]
  refine Last.take_ (i := 7) (N := some 14) (v := .pointer (some ⟨w.heap.size, 2, none⟩)) #[true, true, true, false, true, true, false, true, false, false, false] (by simp only [List.getElem?_toArray, List.getElem?_cons_zero, List.getElem?_cons_succ]; rfl) rfl (by kernel_rfl) (by exact fun _ _ _ h => h) (Or.inl ⟨by rfl, fun W hW => by first | rfl | (try dsimp only at hW); go_simp⟩) hS rfl ?_
  simp only [Act.put, List.setIfInBounds_toArray, List.set_cons_zero, List.set_cons_succ]
  refine Last.take_ (i := 8) (N := some 15) (v := .string val) #[true, true, true, false, true, true, false, true, true, false, false] (by simp only [List.getElem?_toArray, List.getElem?_cons_zero, List.getElem?_cons_succ]; rfl) rfl (by kernel_rfl) (by exact fun _ _ _ h => h) (Or.inl ⟨by rfl, fun W hW => by first | rfl | (try dsimp only at hW); go_simp⟩) hS rfl ?_
  simp only [Act.put, List.setIfInBounds_toArray, List.set_cons_zero, List.set_cons_succ]
  refine Last.one_ (i := 3) (N := some 10) #[true, true, true, true, true, true, false, true, true, false, false] (by simp only [List.getElem?_toArray, List.getElem?_cons_zero, List.getElem?_cons_succ]; rfl) rfl (by kernel_rfl) (by decide) (fun K hK => ?_)
  refine Last.goes_ Try.func68 (by kernel_rfl) rfl #[.slice Ab nb cb, .int .i64 op] (by rfl) rfl rfl (by simp [Act.eval]) ?_
  refine (NumberR_calls (RB.out.ext0 E0.out.drew) op (OPI.out.1) (OPI.out.2) (by have := HBL.out; omega) (fun j hj => HF.out j (by have h1 := Z0.out; have h2 := Z0.out; simp only [Go.TM.drew_size] at hj; omega))).mono ?_
  rintro e w1 ⟨v1, rfl, ho, he⟩
  obtain ⟨A1, N1, c1, rfl, hn1⟩ := Own.abs8 ho
  have R1 := Lib.hid ho.rd
  have E1 : Hid (Ext Non w0 w1) := (E00.out.drew).trans0 he
  have Z1 := Lib.hid E1.out.size
  have y10 : w1.cell? ⟨w.heap.size, 0, none⟩ = some (.int .i64 op) := blk_cell (E1.out.obj BX.out (fun h => h)) 0
  have y11 : w1.cell? ⟨w.heap.size, 1, none⟩ = some (.string key) := blk_cell (E1.out.obj BX.out (fun h => h)) 1
  have y12 : w1.cell? ⟨w.heap.size, 2, none⟩ = some (.string val) := blk_cell (E1.out.obj BX.out (fun h => h)) 2
  have y13 : w1.cell? ⟨w.heap.size, 3, none⟩ = some (.slice A len cap) := blk_cell (E1.out.obj BX.out (fun h => h)) 3
  have HN1 := Lib.hid hn1
  clear ho he hn1
  refine ⟨_, rfl, hK.out _ _ ⟨y10, y11, y12⟩ (fun hS => ?_)⟩
  try simp only [Act.put, List.setIfInBounds_toArray, List.set_cons_zero, List.set_cons_succ]
  refine Last.one_ (i := 6) (N := some 13) #[true, true, true, true, true, true, true, true, true, false, false] (by simp only [List.getElem?_toArray, List.getElem?_cons_zero, List.getElem?_cons_succ]; rfl) rfl (by kernel_rfl) (by decide) (fun K hK => ?_)
  refine Last.goes_ Try.func69 (by kernel_rfl) rfl #[.slice A1 N1 c1, .string key] (by rfl) rfl rfl (by simp [Act.eval]) ?_
  refine (TextR_calls R1.out key (by have h1 := L9.out; have h2 := L1.out; have h3 := L2.out; have h4 := T1.out; simp only [List.length_append]; omega) (by have := K1.out; omega) (fun j hj => HF.out j (by have h1 := Z1.out; have h2 := Z0.out; omega))).mono ?_
  rintro e w2 ⟨v2, rfl, ho, he⟩
  obtain ⟨A2, N2, c2, rfl, hn2⟩ := Own.abs8 ho
  have R2 := Lib.hid ho.rd
  have E2 : Hid (Ext Non w0 w2) := (E1.out).trans0 he
  have Z2 := Lib.hid E2.out.size
  have y20 : w2.cell? ⟨w.heap.size, 0, none⟩ = some (.int .i64 op) := blk_cell (E2.out.obj BX.out (fun h => h)) 0
  have y21 : w2.cell? ⟨w.heap.size, 1, none⟩ = some (.string key) := blk_cell (E2.out.obj BX.out (fun h => h)) 1
  have y22 : w2.cell? ⟨w.heap.size, 2, none⟩ = some (.string val) := blk_cell (E2.out.obj BX.out (fun h => h)) 2
  have y23 : w2.cell? ⟨w.heap.size, 3, none⟩ = some (.slice A len cap) := blk_cell (E2.out.obj BX.out (fun h => h)) 3
  have HN2 := Lib.hid hn2
  clear ho he hn2
  refine ⟨_, rfl, hK.out _ _ ⟨y20, y21, y22⟩ (fun hS => ?_)⟩
  try simp only [Act.put, List.setIfInBounds_toArray, List.set_cons_zero, List.set_cons_succ]
  refine Last.one_ (i := 9) (N := some 16) #[true, true, true, true, true, true, true, true, true, true, false] (by simp only [List.getElem?_toArray, List.getElem?_cons_zero, List.getElem?_cons_succ]; rfl) rfl (by kernel_rfl) (by decide) (fun K hK => ?_)
  refine Last.goes_ Try.func69 (by kernel_rfl) rfl #[.slice A2 N2 c2, .string val] (by rfl) rfl rfl (by simp [Act.eval]) ?_
  refine (TextR_calls R2.out val (by have h1 := L9.out; have h2 := L1.out; have h3 := L2.out; have h4 := T1.out; simp only [List.length_append]; omega) (by have := K2.out; omega) (fun j hj => HF.out j (by have h1 := Z2.out; have h2 := Z0.out; omega))).mono ?_
  rintro e w3 ⟨v3, rfl, ho, he⟩
  obtain ⟨A3, N3, c3, rfl, hn3⟩ := Own.abs8 ho
  have R3 := Lib.hid ho.rd
  have E3 : Hid (Ext Non w0 w3) := (E2.out).trans0 he
  have Z3 := Lib.hid E3.out.size
  have y30 : w3.cell? ⟨w.heap.size, 0, none⟩ = some (.int .i64 op) := blk_cell (E3.out.obj BX.out (fun h => h)) 0
  have y31 : w3.cell? ⟨w.heap.size, 1, none⟩ = some (.string key) := blk_cell (E3.out.obj BX.out (fun h => h)) 1
  have y32 : w3.cell? ⟨w.heap.size, 2, none⟩ = some (.string val) := blk_cell (E3.out.obj BX.out (fun h => h)) 2
  have y33 : w3.cell? ⟨w.heap.size, 3, none⟩ = some (.slice A len cap) := blk_cell (E3.out.obj BX.out (fun h => h)) 3
  have HN3 := Lib.hid hn3
  clear ho he hn3
  refine ⟨_, rfl, hK.out _ _ ⟨y30, y31, y32⟩ (fun hS => ?_)⟩
  try simp only [Act.put, List.setIfInBounds_toArray, List.set_cons_zero, List.set_cons_succ]
  refine Last.take_ (i := 10) (N := some 0) (v := .slice A3 N3 c3) #[true, true, true, true, true, true, true, true, true, true, true] (by simp only [List.getElem?_toArray, List.getElem?_cons_zero, List.getElem?_cons_succ]; rfl) rfl (by kernel_rfl) (by exact fun _ _ _ h => h) (Or.inl ⟨by rfl, fun W hW => by first | rfl | (try dsimp only at hW); go_simp⟩) hS rfl ?_
  simp only [Act.put, List.setIfInBounds_toArray, List.set_cons_zero]
  refine Last.done_ (by kernel_rfl) ?_
  go_wp2_with fail
  refine (NumberR_calls R3.out (len : Int) (by omega) (by have := K3.out; omega) (by have h1 := L9.out; have h2 := L1.out; have h3 := L2.out; have h4 := T1.out; simp only [List.length_append]; omega) (fun j hj => HF.out j (by have h1 := Z3.out; have h2 := Z0.out; omega))).mono ?_
  rintro e w4 ⟨v4, rfl, ho, he⟩
  rw [show (len : Int).toNat = len from by omega] at ho
  obtain ⟨A4, N4, c4, rfl, hn4⟩ := Own.abs8 ho
  have E4 : Hid (Ext Non w0 w4) := E3.out.trans0 he
  have HE4 : Hid (Ext Non w w4) := E0.out.trans0 E4.out
  have O4 : Hid (Own Kd.u8 5 w4 w.heap.size okb (.slice A4 N4 c4) (bs ++ hdF (.mk op key val kids))) := by
    have h := ho.lower (base' := w.heap.size) (by have h1 := Z3.out; have h2 := Z0.out; omega)
    have e : bs ++ numB op.toNat ++ numB key.size ++ key.data.toList ++ numB val.size ++ val.data.toList ++ numB len = bs ++ hdF (.mk op key val kids) := by
      rw [HL.out]
      simp [hdF, Flt.op, Flt.key, Flt.val, Flt.kids]
    show Own _ _ _ _ _ _ _
    rw [← e]
    exact h
  have y43 : w4.cell? ⟨w.heap.size, 3, none⟩ = some (.slice A len cap) := blk_cell (E4.out.obj BX.out (fun h => h)) 3
  clear ho he hn4
  go_wp2_with fail
  go_loopw [0, 25] (fun s i wr => ∃ (j : Nat) (A5 : Option Addr) (N5 c5 : Nat), i = .int .i64 (j : Int) ∧ s = .slice A5 N5 c5 ∧ j ≤ len ∧ Hid (Own Kd.u8 5 wr w.heap.size okb (.slice A5 N5 c5) (bs ++ hdF (.mk op key val kids) ++ (kids.take j).flatMap (encF n))) ∧ Hid (Ext Non w wr)) (fun _ i _ => len - (intOf i).toNat)
  case atStart => exact ⟨0, A4, N4, c4, rfl, rfl, by omega, by simpa [Hid] using O4.out, HE4⟩
  case round =>
    obtain ⟨j, A5, N5, c5, rfl, rfl, hj, HO5, HE5⟩ := hrel
    by_cases hlt : j < len
    · obtain ⟨k, hk0⟩ : ∃ k, kids[j]? = some k := ⟨_, List.getElem?_eq_getElem (by rw [← HL.out]; exact hlt)⟩
      have htake : kids.take (j + 1) = kids.take j ++ [k] := by rw [List.take_add_one, hk0]; rfl
      obtain ⟨gk, off, vk, m, hnm, rfl, hgk, hgl, d0', d1', d2', d3', hrk⟩ := kid_at (HR.out.ext0 HE5.out) hk0
      have hkok : okL (m + 1) k := hnm ▸ HOK.out k (List.mem_of_getElem? hk0)
      obtain ⟨A2, len2, cap2, rfl, hlen2⟩ := rd_abs hrk
      have hfl : Hid ((bs ++ hdF (.mk op key val kids) ++ (kids.take (j + 1)).flatMap (encF n)).length ≤ 1048576000) := by
        show (bs ++ hdF (.mk op key val kids) ++ (kids.take (j + 1)).flatMap (encF n)).length ≤ 1048576000
        have h1 := flat_take_le (encF n) kids (j + 1)
        have h2 := HBT.out
        have h3 : (encF (n + 1) (.mk op key val kids)).length = (hdF (.mk op key val kids)).length + (kids.flatMap (encF n)).length := by
          rw [show encF (n + 1) (.mk op key val kids) = hdF (.mk op key val kids) ++ kids.flatMap (encF n) from rfl, List.length_append]
        rw [List.length_append, List.length_append]
        omega
      have heq : Hid (bs ++ hdF (.mk op key val kids) ++ (kids.take (j + 1)).flatMap (encF n) = bs ++ hdF (.mk op key val kids) ++ (kids.take j).flatMap (encF n) ++ encF (m + 1) k) := by
        show _ = _
        rw [htake, hnm]
        simp
      have HRK := Lib.hid hrk
      clear hrk hk0 htake hlen2
      go_wp2_with fail
      refine (HIH.out m hnm k _ _ okb _ A5 N5 c5 (bs ++ hdF (.mk op key val kids) ++ (kids.take j).flatMap (encF n)) (HRK.out.ext0 ?_) hkok (HO5.out.rd.ext0 ?_) ?_ ?_).mono ?_
      · repeat (first | exact Ext.refl _ _ | refine Ext.drew ?_ | refine Ext.alloc ?_ _)
      · repeat (first | exact Ext.refl _ _ | refine Ext.drew ?_ | refine Ext.alloc ?_ _)
      · have h := hfl.out
        rw [heq.out, List.length_append] at h
        exact h
      · exact fun i hi => HF.out i (by have h1 := HE5.out.size; simp at hi; omega)
      rintro e w6 ⟨v6, rfl, ho, he⟩
      obtain ⟨A6, N6, c6, rfl, hn6⟩ := Own.abs8 ho
      have O6 : Hid (Own Kd.u8 5 w6 w.heap.size okb (.slice A6 N6 c6) (bs ++ hdF (.mk op key val kids) ++ (kids.take (j + 1)).flatMap (encF n))) := by
        show Own _ _ _ _ _ _ _
        rw [heq.out]
        exact ho.lower (by have h1 := HE5.out.size; simp; omega)
      have E6 : Hid (Ext Non w w6) := by
        refine Ext.trans0 ?_ he
        repeat (first | exact HE5.out | refine Ext.drew ?_ | refine Ext.alloc ?_ _)
      clear ho he hn6
      go_wp2_with fail
      go_roundw
      case rel => exact ⟨j + 1, A6, N6, c6, by go_num, rfl, by omega, O6.out, E6.out⟩
      case measure => simp [intOf]; omega
    · obtain rfl : j = len := by omega
      go_wp2_with fail
      go_ret
      refine ⟨_, rfl, ?_, HE5.out⟩
      have h := HO5.out
      rw [List.take_of_length_le (by rw [← HL.out]; omega), List.append_assoc] at h
      exact h
theorem tell_at : ∀ n, TellAt n := by
  intro n
  induction n with
  | zero => exact tell_step 0 (fun m h => by omega)
  | succ n ih => exact tell_step (n + 1) (fun m h => by cases h; exact ih)
end Go.Proofs.Ytdjfijdnhfmeeaa

namespace Go.Proofs.Ytdjfijdnhfmeeaa
open Go.RowKit Go.TM
theorem okF_of : ∀ {n : Nat} {f : Flt}, okL n f → okF n f
  | 0, _, h => h
  | n + 1, f, h => ⟨h.1, by have := h.2.1; simp only [maxLen]; omega, by have := h.2.2.1; simp only [maxLen]; omega, by have := h.2.2.2.1; simp only [maxLen]; omega, fun k hk => okF_of (h.2.2.2.2 k hk)⟩
theorem hdF_le {n : Nat} {f : Flt} (h : okL (n + 1) f) : (hdF f).length ≤ 2100000 := by
  have h1 := h.2.1
  have h2 := h.2.2.1
  have h3 := h.2.2.2.1
  have e0 : f.op ≤ 9223372036854775807 := h.1.2
  have e1 := numB_le (m := f.op.toNat) (by omega)
  have e2 := numB_le (m := f.key.size) (by omega)
  have e3 := numB_le (m := f.val.size) (by omega)
  have e4 := numB_le (m := f.kids.length) (by omega)
  unfold hdF
  rw [List.length_append, List.length_append, List.length_append, List.length_append, List.length_append, size_list, size_list]
  omega
theorem foldE_len {F : Flt → Int → Int × Int} {E : Flt → List UInt8} : ∀ (l : List Flt) (c : Int), (∀ k ∈ l, ∀ c, (F k c).1 = 0 → ((E k).length : Int) ≤ 2100000 * ((F k c).2 - c)) → (foldE F l c).1 = 0 → ((l.flatMap E).length : Int) ≤ 2100000 * ((foldE F l c).2 - c)
  | [], c, _, _ => by simp [foldE]
  | k :: ks, c, h, hb => by
    by_cases hk : (F k c).1 = 0
    · have hf : foldE F (k :: ks) c = foldE F ks (F k c).2 := foldE_yes (by rw [← hk])
      rw [hf] at hb ⊢
      have h1 := h k (List.mem_cons_self) c hk
      have h2 := foldE_len ks (F k c).2 (fun k' hk' => h k' (List.mem_cons_of_mem _ hk')) hb
      rw [List.flatMap_cons, List.length_append]
      omega
    · rw [foldE_no hk] at hb
      exact absurd hb hk
theorem enc_len : ∀ (n : Nat) (f : Flt) (d c : Int), okL n f → (chk n f d c).1 = 0 → ((encF n f).length : Int) ≤ 2100000 * ((chk n f d c).2 - c)
  | 0, _, _, _, h, _ => h.elim
  | n + 1, f, d, c, ho, h => by
    by_cases c1 : 6 < d ∨ 24 ≤ c
    · rw [chk_deep c1] at h
      cases h
    · cases c2 : mayF f with
      | false =>
        rw [chk_bad c1 c2] at h
        cases h
      | true =>
        rw [chk_go c1 c2] at h ⊢
        have h1 := foldE_len (F := fun k c => chk n k (d + 1) c) (E := encF n) f.kids (c + 1) (fun k hk c hb => enc_len n k (d + 1) c (ho.2.2.2.2 k hk) hb) h
        have h2 := hdF_le ho
        rw [show encF (n + 1) f = hdF f ++ f.kids.flatMap (encF n) from rfl, List.length_append]
        omega
theorem enc_small {n : Nat} {f : Flt} (ho : okL n f) (h : checkE n f = 0) : (encF n f).length ≤ 50400000 := by
  have h1 := enc_len n f 1 0 ho h
  have h2 := (chk_le n f 1 0 (by omega) (by omega) h).2
  omega
def putOut (n : Nat) (f : Flt) : List UInt8 := if checkE n f = 0 then encF n f else []
def PutPost (n : Nat) (f : Flt) (w : World) (e : Ending) (w' : World) : Prop :=
  ∃ A m c, e = .returned (.tuple #[.slice A m c, .int .i64 (checkE n f)]) ∧ Own Kd.u8 5 w' w.heap.size (fun k => w.heap.size ≤ k) (.slice A m c) (putOut n f) ∧ Ext Non w w'
set_option maxRecDepth 100000 in
set_option maxHeartbeats 1048576 in
theorem Put_calls {n : Nat} {f : Flt} {w : World} {ok : Nat → Prop} {x : Value} (hx : FV n w ok x f) (hok : okL (n + 1) f) : Calls Try.prog 66 #[x] w (PutPost (n + 1) f w) := by
  have hx' := hx
  obtain ⟨v, rfl, hr⟩ := hx
  obtain ⟨A, len, cap, rfl, hlen⟩ := rd_abs hr
  have HX := Lib.hid hx'
  have HR := Lib.hid hr
  have HOK := Lib.hid hok
  clear hr hlen hx' hok
  go_enter Try.func66, Try.ntmps66
  go_wp2_with fail
  refine (Check_calls (n := n) (f := f) (ok := ok) ?_ (okF_of HOK.out)).mono ?_
  · refine HX.out.ext0 ?_
    repeat (first | exact Ext.refl _ _ | refine Ext.alloc ?_ _ | refine Ext.setNew ?_ (by simp) _)
  rintro e w5 ⟨rfl, he⟩
  have x0 : w5.cell? ⟨w.heap.size, 0, none⟩ = some (.int .i64 f.op) := boxed0 he (fun h => h) 0
  have x1 : w5.cell? ⟨w.heap.size, 1, none⟩ = some (.string f.key) := boxed0 he (fun h => h) 1
  have x2 : w5.cell? ⟨w.heap.size, 2, none⟩ = some (.string f.val) := boxed0 he (fun h => h) 2
  have x3 : w5.cell? ⟨w.heap.size, 3, none⟩ = some (.slice A len cap) := boxed0 he (fun h => h) 3
  have HE : Hid (Ext Non w w5) := ((Ext.refl _ _).alloc _).trans0 he
  clear he
  by_cases h0 : checkE (n + 1) f = 0
  · have H0 := Lib.hid h0
    rw [h0]
    clear h0
    go_wp2_with fail
    refine (put_at n f _ ok (fun k => w.heap.size ≤ k) _ none 0 0 [] (HR.out.ext0 HE.out) HOK.out (Rd.nil _ _ _) (by have := enc_small HOK.out H0.out; simp; omega) (fun k hk => Nat.le_trans HE.out.size hk)).mono ?_
    rintro e w6 ⟨v6, rfl, ho, he⟩
    obtain ⟨A6, N6, c6, rfl, hn6⟩ := Own.abs8 ho
    have O6 := Lib.hid (ho.lower HE.out.size)
    have E6 : Hid (Ext Non w w6) := HE.out.trans0 he
    clear ho he hn6
    go_wp2_with fail
    go_ret2
    refine ⟨A6, N6, c6, by rw [H0.out]; rfl, ?_, E6.out⟩
    rw [show putOut (n + 1) f = encF (n + 1) f from if_pos H0.out]
    exact O6.out
  · obtain ⟨z, hz⟩ : ∃ z, checkE (n + 1) f = z := ⟨_, rfl⟩
    have HZ := Lib.hid hz
    have H0 := Lib.hid h0
    rw [hz] at h0 ⊢
    clear hz
    go_wp2_with fail
    go_ret2
    refine ⟨none, 0, 0, by rw [HZ.out]; rfl, ?_, HE.out⟩
    rw [show putOut (n + 1) f = [] from if_neg H0.out]
    exact Own.nil _ _ _ _ _
set_option maxRecDepth 100000 in
set_option maxHeartbeats 1048576 in
theorem RPut_calls {n : Nat} {f : Flt} {w : World} {ok : Nat → Prop} {x : Value} (hx : FV n w ok x f) (hok : okL (n + 1) f) : Calls Try.prog 71 #[x] w (PutPost (n + 1) f w) := by
  have hx' := hx
  obtain ⟨v, rfl, hr⟩ := hx
  obtain ⟨A, len, cap, rfl, hlen⟩ := rd_abs hr
  have HX := Lib.hid hx'
  have HR := Lib.hid hr
  have HOK := Lib.hid hok
  clear hr hlen hx' hok
  go_enter Try.func71, Try.ntmps71
  go_wp2_with fail
  refine (RCheck_calls (n := n) (f := f) (ok := ok) ?_ ( HOK.out)).mono ?_
  · refine HX.out.ext0 ?_
    repeat (first | exact Ext.refl _ _ | refine Ext.alloc ?_ _ | refine Ext.setNew ?_ (by simp) _)
  rintro e w5 ⟨rfl, he⟩
  have x0 : w5.cell? ⟨w.heap.size, 0, none⟩ = some (.int .i64 f.op) := boxed0 he (fun h => h) 0
  have x1 : w5.cell? ⟨w.heap.size, 1, none⟩ = some (.string f.key) := boxed0 he (fun h => h) 1
  have x2 : w5.cell? ⟨w.heap.size, 2, none⟩ = some (.string f.val) := boxed0 he (fun h => h) 2
  have x3 : w5.cell? ⟨w.heap.size, 3, none⟩ = some (.slice A len cap) := boxed0 he (fun h => h) 3
  have HE : Hid (Ext Non w w5) := ((Ext.refl _ _).alloc _).trans0 he
  clear he
  by_cases h0 : checkE (n + 1) f = 0
  · have H0 := Lib.hid h0
    rw [h0]
    clear h0
    go_wp2_with fail
    refine (tell_at n f _ ok (fun k => w.heap.size ≤ k) _ none 0 0 [] (HR.out.ext0 HE.out) HOK.out (Rd.nil _ _ _) (by have := enc_small HOK.out H0.out; simp; omega) (fun k hk => Nat.le_trans HE.out.size hk)).mono ?_
    rintro e w6 ⟨v6, rfl, ho, he⟩
    obtain ⟨A6, N6, c6, rfl, hn6⟩ := Own.abs8 ho
    have O6 := Lib.hid (ho.lower HE.out.size)
    have E6 : Hid (Ext Non w w6) := HE.out.trans0 he
    clear ho he hn6
    go_wp2_with fail
    go_ret2
    refine ⟨A6, N6, c6, by rw [H0.out]; rfl, ?_, E6.out⟩
    rw [show putOut (n + 1) f = encF (n + 1) f from if_pos H0.out]
    exact O6.out
  · obtain ⟨z, hz⟩ : ∃ z, checkE (n + 1) f = z := ⟨_, rfl⟩
    have HZ := Lib.hid hz
    have H0 := Lib.hid h0
    rw [hz] at h0 ⊢
    clear hz
    go_wp2_with fail
    go_ret2
    refine ⟨none, 0, 0, by rw [HZ.out]; rfl, ?_, HE.out⟩
    rw [show putOut (n + 1) f = [] from if_neg H0.out]
    exact Own.nil _ _ _ _ _
end Go.Proofs.Ytdjfijdnhfmeeaa

