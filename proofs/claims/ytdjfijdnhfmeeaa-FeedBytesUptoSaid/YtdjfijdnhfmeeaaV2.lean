/- An event's bytes: feed's event. -/
import Derived.Test.YtdjfijdnhfmeeaaV1
import Derived.Test.YtdjfijdnhfmeeaaHA
namespace Go.Proofs.Ytdjfijdnhfmeeaa
open Go.RowKit Go.TM
def evB1 (bs : List UInt8) (e : Ev) : List UInt8 := bs ++ numB e.pos.toNat ++ numB e.key.size ++ e.key.data.toList
def evB2 (bs : List UInt8) (e : Ev) : List UInt8 := evB1 bs e ++ numB (flagN e.had) ++ numB e.old.size ++ e.old.data.toList
def evB3 (bs : List UInt8) (e : Ev) : List UInt8 := evB2 bs e ++ numB (flagN e.has) ++ numB e.now.size ++ e.now.data.toList
/-- An event's bytes. -/
def evB (e : Ev) : List UInt8 := evB3 [] e
theorem evB_eq (bs : List UInt8) (e : Ev) : evB3 bs e = bs ++ evB e := by simp [evB, evB3, evB2, evB1, List.append_assoc]
theorem evS6 {W : World} {q : Nat} {a0 a1 a2 a3 a4 a5 : Value} {t : TypeId} (h : W.heap[q]? = some (.cells #[a0, a1, a2, a3, a4, a5] t (0, 0))) : W.cell? ⟨q, 0, none⟩ = some a0 ∧ W.cell? ⟨q, 1, none⟩ = some a1 ∧ W.cell? ⟨q, 2, none⟩ = some a2 ∧ W.cell? ⟨q, 3, none⟩ = some a3 ∧ W.cell? ⟨q, 4, none⟩ = some a4 ∧ W.cell? ⟨q, 5, none⟩ = some a5 :=
  ⟨blk_cell h 0, blk_cell h 1, blk_cell h 2, blk_cell h 3, blk_cell h 4, blk_cell h 5⟩
theorem evB_len {e : Ev} (hp : 0 ≤ e.pos ∧ e.pos ≤ 9223372036854775807) (hz : e.key.size ≤ 32768 ∧ e.old.size ≤ 32768 ∧ e.now.size ≤ 32768) : (evB e).length ≤ 100000 := by
  have h1 : (numB e.pos.toNat).length ≤ 9 := numB_le (by omega)
  have h2 : (numB e.key.size).length ≤ 9 := numB_le (by omega)
  have h3 : (numB e.old.size).length ≤ 9 := numB_le (by omega)
  have h4 : (numB e.now.size).length ≤ 9 := numB_le (by omega)
  have h5 : (numB (flagN e.had)).length ≤ 9 := numB_le (by unfold flagN; split <;> omega)
  have h6 : (numB (flagN e.has)).length ≤ 9 := numB_le (by unfold flagN; split <;> omega)
  have k1 := size_list e.key
  have k2 := size_list e.old
  have k3 := size_list e.now
  simp only [evB, evB3, evB2, evB1, List.length_append, List.length_nil]
  omega
set_option maxRecDepth 100000 in
set_option maxHeartbeats 8000000 in
theorem event_calls {w : World} {A0 : Option Addr} {n0 c0 : Nat} {bs : List UInt8} {e : Ev} (H : Rd Kd.u8 w (fun _ => True) (.slice A0 n0 c0) bs) (hbl : bs.length ≤ 1000000000000) (hp : 0 ≤ e.pos ∧ e.pos ≤ 9223372036854775807) (hz : e.key.size ≤ 32768 ∧ e.old.size ≤ 32768 ∧ e.now.size ≤ 32768) :
    Calls Try.prog 64 #[.slice A0 n0 c0, .agg #[.int .i64 e.pos, .string e.key, .bool e.had, .string e.old, .bool e.has, .string e.now]] w (NumPost (fun _ => True) (bs ++ evB e) w) := by
  have HB : Hid (Rd Kd.u8 w (fun _ => True) (.slice A0 n0 c0) bs) := H
  have hl0 : bs.length = n0 := by
    obtain ⟨_, _, hs, _, _⟩ := H.slice
    simp only [Value.slice.injEq] at hs
    exact hs.2.1.symm
  have HL0 := Lib.hid hl0
  have HP : Hid (-9223372036854775808 ≤ e.pos ∧ e.pos ≤ 9223372036854775807) := ⟨by omega, hp.2⟩
  have HP0 : Hid (0 ≤ e.pos) := hp.1
  have HZ := Lib.hid hz
  obtain ⟨q, hq⟩ : ∃ q, w.heap.size = q := ⟨_, rfl⟩
  obtain ⟨w0, hw0⟩ : ∃ w0, w.alloc (.cells #[.int .i64 e.pos, .string e.key, .bool e.had, .string e.old, .bool e.has, .string e.now] 43) = w0 := ⟨_, rfl⟩
  have E0 : Hid (Ext Non w w0) := by rw [← hw0]; exact (Ext.refl _ _).alloc _
  have BQ0 : Hid (w0.heap[q]? = some (.cells #[.int .i64 e.pos, .string e.key, .bool e.had, .string e.old, .bool e.has, .string e.now] 43 (0, 0))) := by rw [← hw0, ← hq]; exact blk_new w _
  have HB0 := Lib.hid (HB.out.ext0 E0.out)
  obtain ⟨d0, d1, d2, d3, d4, d5⟩ := evS6 BQ0.out
  clear H hl0 hp hz
  go_enter Try.func64, Try.ntmps64
  go_wp2_with fail
  refine Last.start_ (S := fun W => W.cell? ⟨q, 0, none⟩ = some (.int .i64 e.pos) ∧ W.cell? ⟨q, 1, none⟩ = some (.string e.key) ∧ W.cell? ⟨q, 2, none⟩ = some (.bool e.had) ∧ W.cell? ⟨q, 3, none⟩ = some (.string e.old) ∧ W.cell? ⟨q, 4, none⟩ = some (.bool e.has) ∧ W.cell? ⟨q, 5, none⟩ = some (.string e.now)) (ds := []) #[false, false, false, false, false, false, false, false] (by kernel_rfl) (by rfl) (by rfl) (evS6 ((Ext.refl Non w0).drew.obj BQ0.out (fun e => e))) (fun hS => ?_)
  refine Last.take_ (i := 0) (N := some 5) (v := .slice A0 n0 c0) #[true, false, false, false, false, false, false, false] (by simp only [List.getElem?_toArray, List.getElem?_cons_zero]; rfl) rfl (by kernel_rfl) (by exact fun _ _ _ h => h) (Or.inl ⟨by rfl, fun W hW => by first | rfl | (try dsimp only at hW); go_simp⟩) hS rfl ?_
  simp only [Act.put, List.setIfInBounds_toArray, List.set_cons_zero, List.set_cons_succ]
  refine Last.take_ (i := 1) (N := some 6) (v := .pointer (some ⟨q, 0, none⟩)) #[true, true, false, false, false, false, false, false] (by simp only [List.getElem?_toArray, List.getElem?_cons_zero, List.getElem?_cons_succ]; rfl) rfl (by kernel_rfl) (by exact fun _ _ _ h => h) (Or.inl ⟨by rfl, fun W hW => by first | rfl | (try dsimp only at hW); go_simp⟩) hS rfl ?_
  simp only [Act.put, List.setIfInBounds_toArray, List.set_cons_zero, List.set_cons_succ]
  refine Last.take_ (i := 2) (N := some 7) (v := .int .i64 e.pos) #[true, true, true, false, false, false, false, false] (by simp only [List.getElem?_toArray, List.getElem?_cons_zero, List.getElem?_cons_succ]; rfl) rfl (by kernel_rfl) (by exact fun _ _ _ h => h) (Or.inl ⟨by rfl, fun W hW => by first | rfl | (try dsimp only at hW); go_simp⟩) hS rfl ?_
  simp only [Act.put, List.setIfInBounds_toArray, List.set_cons_zero, List.set_cons_succ]
  refine Last.take_ (i := 4) (N := some 9) (v := .pointer (some ⟨q, 1, none⟩)) #[true, true, true, false, true, false, false, false] (by simp only [List.getElem?_toArray, List.getElem?_cons_zero, List.getElem?_cons_succ]; rfl) rfl (by kernel_rfl) (by exact fun _ _ _ h => h) (Or.inl ⟨by rfl, fun W hW => by first | rfl | (try dsimp only at hW); go_simp⟩) hS rfl ?_
  simp only [Act.put, List.setIfInBounds_toArray, List.set_cons_zero, List.set_cons_succ]
  refine Last.take_ (i := 5) (N := some 10) (v := .string e.key) #[true, true, true, false, true, true, false, false] (by simp only [List.getElem?_toArray, List.getElem?_cons_zero, List.getElem?_cons_succ]; rfl) rfl (by kernel_rfl) (by exact fun _ _ _ h => h) (Or.inl ⟨by rfl, fun W hW => by first | rfl | (try dsimp only at hW); go_simp⟩) hS rfl ?_
  simp only [Act.put, List.setIfInBounds_toArray, List.set_cons_zero, List.set_cons_succ]
  refine Last.one_ (i := 3) (N := some 8) #[true, true, true, true, true, true, false, false] (by simp only [List.getElem?_toArray, List.getElem?_cons_zero, List.getElem?_cons_succ]; rfl) rfl (by kernel_rfl) (by decide) (fun K hK => ?_)
  refine Last.goes_ Try.func65 (by kernel_rfl) rfl #[.slice A0 n0 c0, .int .i64 e.pos] (by rfl) rfl rfl (by simp [Act.eval]) ?_
  have HC := Number_calls (w := w0.drew) (ok := fun _ => True) (A := A0) (c := c0) (bs := bs) (by rw [HL0.out]; exact HB0.out.ext0 (Ext.refl _ _).drew) e.pos HP.out.1 HP.out.2 (by omega) (fun _ _ => trivial)
  rw [HL0.out] at HC
  refine HC.mono ?_
  rintro e' x0 ⟨v', rfl, ho, he⟩
  obtain ⟨Ax, nx, cx, rfl⟩ : ∃ A n c, v' = .slice A n c := by obtain ⟨A6, c6, h6, _, _⟩ := ho.slice; exact ⟨_, _, _, h6⟩
  have Y0 : Hid (Ext Non w0 x0) := (Ext.refl Non w0).drew.trans0 he
  have OX0 : Hid (Own Kd.u8 5 x0 w0.drew.heap.size (fun _ => True) (.slice Ax nx cx) (bs ++ numB e.pos.toNat)) := ho
  have hnb : (numB e.pos.toNat).length ≤ 9 := numB_le (by have := HP.out; omega)
  have HNB := Lib.hid hnb
  clear ho he hnb
  refine ⟨_, rfl, ?_⟩
  refine hK.out _ _ (evS6 (Y0.out.obj BQ0.out (fun e => e))) (fun hS => ?_)
  try simp only [Act.put, List.setIfInBounds_toArray, List.set_cons_zero, List.set_cons_succ]
  refine Last.one_ (i := 6) (N := some 11) #[true, true, true, true, true, true, true, false] (by simp only [List.getElem?_toArray, List.getElem?_cons_zero, List.getElem?_cons_succ]; rfl) rfl (by kernel_rfl) (by decide) (fun K hK => ?_)
  refine Last.goes_ Try.func84 (by kernel_rfl) rfl #[.slice Ax nx cx, .string e.key] (by rfl) rfl rfl (by simp [Act.eval]) ?_
  refine (Text_calls OX0.out.rd e.key (by have := HNB.out; rw [List.length_append]; omega) (by have := HZ.out; omega) (fun _ _ => trivial)).mono ?_
  rintro e' w1 ⟨v', rfl, ho, he⟩
  obtain ⟨A1, n1, c1, rfl⟩ : ∃ A n c, v' = .slice A n c := by obtain ⟨A6, c6, h6, _, _⟩ := ho.slice; exact ⟨_, _, _, h6⟩
  have E1 : Hid (Ext Non w w1) := E0.out.trans0 (Y0.out.trans0 he)
  have O1 : Hid (Own Kd.u8 5 w1 x0.heap.size (fun _ => True) (.slice A1 n1 c1) (evB1 bs e)) := ho
  have BQ1 : Hid (w1.heap[q]? = some (.cells #[.int .i64 e.pos, .string e.key, .bool e.had, .string e.old, .bool e.has, .string e.now] 43 (0, 0))) := (Y0.out.trans0 he).obj BQ0.out (fun e => e)
  have hsx0 : w0.heap.size ≤ x0.heap.size := Y0.out.size
  have HLN1 : Hid ((evB1 bs e).length ≤ bs.length + 32797) := by
    have h1 := HNB.out
    have h1 := HNB.out
    have h2 := HZ.out
    have h3 : (numB e.key.size).length ≤ 9 := numB_le (by omega)
    show (bs ++ numB e.pos.toNat ++ numB e.key.size ++ e.key.data.toList).length ≤ _
    rw [List.length_append, List.length_append, List.length_append, size_list]
    omega
  clear ho he HNB
  refine ⟨_, rfl, ?_⟩
  refine hK.out _ _ (evS6 BQ1.out) (fun hS => ?_)
  try simp only [Act.put, List.setIfInBounds_toArray, List.set_cons_zero, List.set_cons_succ]
  refine Last.take_ (i := 7) (N := some 0) (v := .slice A1 n1 c1) #[true, true, true, true, true, true, true, true] (by simp only [List.getElem?_toArray, List.getElem?_cons_zero, List.getElem?_cons_succ]; rfl) rfl (by kernel_rfl) (by exact fun _ _ _ h => h) (Or.inl ⟨by rfl, fun W hW => by first | rfl | (try dsimp only at hW); go_simp⟩) hS rfl ?_
  simp only [Act.put, List.setIfInBounds_toArray, List.set_cons_zero]
  refine Last.done_ (by kernel_rfl) ?_
  go_wp2_with fail
  refine Last.start_ (S := fun W => W.cell? ⟨q, 0, none⟩ = some (.int .i64 e.pos) ∧ W.cell? ⟨q, 1, none⟩ = some (.string e.key) ∧ W.cell? ⟨q, 2, none⟩ = some (.bool e.had) ∧ W.cell? ⟨q, 3, none⟩ = some (.string e.old) ∧ W.cell? ⟨q, 4, none⟩ = some (.bool e.has) ∧ W.cell? ⟨q, 5, none⟩ = some (.string e.now)) (ds := []) #[false, false, false, false, false, false, false, false] (by kernel_rfl) (by rfl) (by rfl) (evS6 ((Ext.refl Non w1).drew.obj BQ1.out (fun e => e))) (fun hS => ?_)
  refine Last.take_ (i := 0) (N := some 12) (v := .slice A1 n1 c1) #[true, false, false, false, false, false, false, false] (by simp only [List.getElem?_toArray, List.getElem?_cons_zero]; rfl) rfl (by kernel_rfl) (by exact fun _ _ _ h => h) (Or.inl ⟨by rfl, fun W hW => by first | rfl | (try dsimp only at hW); go_simp⟩) hS rfl ?_
  simp only [Act.put, List.setIfInBounds_toArray, List.set_cons_zero, List.set_cons_succ]
  refine Last.take_ (i := 1) (N := some 13) (v := .pointer (some ⟨q, 2, none⟩)) #[true, true, false, false, false, false, false, false] (by simp only [List.getElem?_toArray, List.getElem?_cons_zero, List.getElem?_cons_succ]; rfl) rfl (by kernel_rfl) (by exact fun _ _ _ h => h) (Or.inl ⟨by rfl, fun W hW => by first | rfl | (try dsimp only at hW); go_simp⟩) hS rfl ?_
  simp only [Act.put, List.setIfInBounds_toArray, List.set_cons_zero, List.set_cons_succ]
  refine Last.take_ (i := 2) (N := some 14) (v := .bool e.had) #[true, true, true, false, false, false, false, false] (by simp only [List.getElem?_toArray, List.getElem?_cons_zero, List.getElem?_cons_succ]; rfl) rfl (by kernel_rfl) (by exact fun _ _ _ h => h) (Or.inl ⟨by rfl, fun W hW => by first | rfl | (try dsimp only at hW); go_simp⟩) hS rfl ?_
  simp only [Act.put, List.setIfInBounds_toArray, List.set_cons_zero, List.set_cons_succ]
  refine Last.take_ (i := 4) (N := some 16) (v := .pointer (some ⟨q, 3, none⟩)) #[true, true, true, false, true, false, false, false] (by simp only [List.getElem?_toArray, List.getElem?_cons_zero, List.getElem?_cons_succ]; rfl) rfl (by kernel_rfl) (by exact fun _ _ _ h => h) (Or.inl ⟨by rfl, fun W hW => by first | rfl | (try dsimp only at hW); go_simp⟩) hS rfl ?_
  simp only [Act.put, List.setIfInBounds_toArray, List.set_cons_zero, List.set_cons_succ]
  refine Last.take_ (i := 5) (N := some 17) (v := .string e.old) #[true, true, true, false, true, true, false, false] (by simp only [List.getElem?_toArray, List.getElem?_cons_zero, List.getElem?_cons_succ]; rfl) rfl (by kernel_rfl) (by exact fun _ _ _ h => h) (Or.inl ⟨by rfl, fun W hW => by first | rfl | (try dsimp only at hW); go_simp⟩) hS rfl ?_
  simp only [Act.put, List.setIfInBounds_toArray, List.set_cons_zero, List.set_cons_succ]
  refine Last.one_ (i := 3) (N := some 15) #[true, true, true, true, true, true, false, false] (by simp only [List.getElem?_toArray, List.getElem?_cons_zero, List.getElem?_cons_succ]; rfl) rfl (by kernel_rfl) (by decide) (fun K hK => ?_)
  refine Last.goes_ Try.func67 (by kernel_rfl) rfl #[.slice A1 n1 c1, .bool e.had] (by rfl) rfl rfl (by simp [Act.eval]) ?_
  refine (Flag_calls (O1.out.rd.ext0 (Ext.refl _ _).drew) e.had (by have := HLN1.out; omega) (fun _ _ => trivial)).mono ?_
  rintro e' x1 ⟨v', rfl, ho, he⟩
  obtain ⟨Ax, nx, cx, rfl⟩ : ∃ A n c, v' = .slice A n c := by obtain ⟨A6, c6, h6, _, _⟩ := ho.slice; exact ⟨_, _, _, h6⟩
  have Y1 : Hid (Ext Non w1 x1) := (Ext.refl Non w1).drew.trans0 he
  have OX1 : Hid (Own Kd.u8 5 x1 w1.drew.heap.size (fun _ => True) (.slice Ax nx cx) (evB1 bs e ++ numB (flagN e.had))) := ho
  have hnb : (numB (flagN e.had)).length ≤ 9 := numB_le (by unfold flagN; split <;> omega)
  have HNB := Lib.hid hnb
  clear ho he hnb
  refine ⟨_, rfl, ?_⟩
  refine hK.out _ _ (evS6 (Y1.out.obj BQ1.out (fun e => e))) (fun hS => ?_)
  try simp only [Act.put, List.setIfInBounds_toArray, List.set_cons_zero, List.set_cons_succ]
  refine Last.one_ (i := 6) (N := some 18) #[true, true, true, true, true, true, true, false] (by simp only [List.getElem?_toArray, List.getElem?_cons_zero, List.getElem?_cons_succ]; rfl) rfl (by kernel_rfl) (by decide) (fun K hK => ?_)
  refine Last.goes_ Try.func84 (by kernel_rfl) rfl #[.slice Ax nx cx, .string e.old] (by rfl) rfl rfl (by simp [Act.eval]) ?_
  refine (Text_calls OX1.out.rd e.old (by have := HNB.out; have := HLN1.out; rw [List.length_append]; omega) (by have := HZ.out; omega) (fun _ _ => trivial)).mono ?_
  rintro e' w2 ⟨v', rfl, ho, he⟩
  obtain ⟨A2, n2, c2, rfl⟩ : ∃ A n c, v' = .slice A n c := by obtain ⟨A6, c6, h6, _, _⟩ := ho.slice; exact ⟨_, _, _, h6⟩
  have E2 : Hid (Ext Non w w2) := E1.out.trans0 (Y1.out.trans0 he)
  have O2 : Hid (Own Kd.u8 5 w2 x1.heap.size (fun _ => True) (.slice A2 n2 c2) (evB2 bs e)) := ho
  have BQ2 : Hid (w2.heap[q]? = some (.cells #[.int .i64 e.pos, .string e.key, .bool e.had, .string e.old, .bool e.has, .string e.now] 43 (0, 0))) := (Y1.out.trans0 he).obj BQ1.out (fun e => e)
  have hsx1 : w1.heap.size ≤ x1.heap.size := Y1.out.size
  have HLN2 : Hid ((evB2 bs e).length ≤ bs.length + 65594) := by
    have h0 := HLN1.out
    have h1 := HNB.out
    have h2 := HZ.out
    have h3 : (numB e.old.size).length ≤ 9 := numB_le (by omega)
    show (evB1 bs e ++ numB (flagN e.had) ++ numB e.old.size ++ e.old.data.toList).length ≤ _
    rw [List.length_append, List.length_append, List.length_append, size_list]
    omega
  clear ho he HNB
  refine ⟨_, rfl, ?_⟩
  refine hK.out _ _ (evS6 BQ2.out) (fun hS => ?_)
  try simp only [Act.put, List.setIfInBounds_toArray, List.set_cons_zero, List.set_cons_succ]
  refine Last.take_ (i := 7) (N := some 0) (v := .slice A2 n2 c2) #[true, true, true, true, true, true, true, true] (by simp only [List.getElem?_toArray, List.getElem?_cons_zero, List.getElem?_cons_succ]; rfl) rfl (by kernel_rfl) (by exact fun _ _ _ h => h) (Or.inl ⟨by rfl, fun W hW => by first | rfl | (try dsimp only at hW); go_simp⟩) hS rfl ?_
  simp only [Act.put, List.setIfInBounds_toArray, List.set_cons_zero]
  refine Last.done_ (by kernel_rfl) ?_
  go_wp2_with fail
  refine Last.start_ (S := fun W => W.cell? ⟨q, 0, none⟩ = some (.int .i64 e.pos) ∧ W.cell? ⟨q, 1, none⟩ = some (.string e.key) ∧ W.cell? ⟨q, 2, none⟩ = some (.bool e.had) ∧ W.cell? ⟨q, 3, none⟩ = some (.string e.old) ∧ W.cell? ⟨q, 4, none⟩ = some (.bool e.has) ∧ W.cell? ⟨q, 5, none⟩ = some (.string e.now)) (ds := []) #[false, false, false, false, false, false, false, false] (by kernel_rfl) (by rfl) (by rfl) (evS6 ((Ext.refl Non w2).drew.obj BQ2.out (fun e => e))) (fun hS => ?_)
  refine Last.take_ (i := 0) (N := some 19) (v := .slice A2 n2 c2) #[true, false, false, false, false, false, false, false] (by simp only [List.getElem?_toArray, List.getElem?_cons_zero]; rfl) rfl (by kernel_rfl) (by exact fun _ _ _ h => h) (Or.inl ⟨by rfl, fun W hW => by first | rfl | (try dsimp only at hW); go_simp⟩) hS rfl ?_
  simp only [Act.put, List.setIfInBounds_toArray, List.set_cons_zero, List.set_cons_succ]
  refine Last.take_ (i := 1) (N := some 20) (v := .pointer (some ⟨q, 4, none⟩)) #[true, true, false, false, false, false, false, false] (by simp only [List.getElem?_toArray, List.getElem?_cons_zero, List.getElem?_cons_succ]; rfl) rfl (by kernel_rfl) (by exact fun _ _ _ h => h) (Or.inl ⟨by rfl, fun W hW => by first | rfl | (try dsimp only at hW); go_simp⟩) hS rfl ?_
  simp only [Act.put, List.setIfInBounds_toArray, List.set_cons_zero, List.set_cons_succ]
  refine Last.take_ (i := 2) (N := some 21) (v := .bool e.has) #[true, true, true, false, false, false, false, false] (by simp only [List.getElem?_toArray, List.getElem?_cons_zero, List.getElem?_cons_succ]; rfl) rfl (by kernel_rfl) (by exact fun _ _ _ h => h) (Or.inl ⟨by rfl, fun W hW => by first | rfl | (try dsimp only at hW); go_simp⟩) hS rfl ?_
  simp only [Act.put, List.setIfInBounds_toArray, List.set_cons_zero, List.set_cons_succ]
  refine Last.take_ (i := 4) (N := some 23) (v := .pointer (some ⟨q, 5, none⟩)) #[true, true, true, false, true, false, false, false] (by simp only [List.getElem?_toArray, List.getElem?_cons_zero, List.getElem?_cons_succ]; rfl) rfl (by kernel_rfl) (by exact fun _ _ _ h => h) (Or.inl ⟨by rfl, fun W hW => by first | rfl | (try dsimp only at hW); go_simp⟩) hS rfl ?_
  simp only [Act.put, List.setIfInBounds_toArray, List.set_cons_zero, List.set_cons_succ]
  refine Last.take_ (i := 5) (N := some 24) (v := .string e.now) #[true, true, true, false, true, true, false, false] (by simp only [List.getElem?_toArray, List.getElem?_cons_zero, List.getElem?_cons_succ]; rfl) rfl (by kernel_rfl) (by exact fun _ _ _ h => h) (Or.inl ⟨by rfl, fun W hW => by first | rfl | (try dsimp only at hW); go_simp⟩) hS rfl ?_
  simp only [Act.put, List.setIfInBounds_toArray, List.set_cons_zero, List.set_cons_succ]
  refine Last.one_ (i := 3) (N := some 22) #[true, true, true, true, true, true, false, false] (by simp only [List.getElem?_toArray, List.getElem?_cons_zero, List.getElem?_cons_succ]; rfl) rfl (by kernel_rfl) (by decide) (fun K hK => ?_)
  refine Last.goes_ Try.func67 (by kernel_rfl) rfl #[.slice A2 n2 c2, .bool e.has] (by rfl) rfl rfl (by simp [Act.eval]) ?_
  refine (Flag_calls (O2.out.rd.ext0 (Ext.refl _ _).drew) e.has (by have := HLN2.out; omega) (fun _ _ => trivial)).mono ?_
  rintro e' x2 ⟨v', rfl, ho, he⟩
  obtain ⟨Ax, nx, cx, rfl⟩ : ∃ A n c, v' = .slice A n c := by obtain ⟨A6, c6, h6, _, _⟩ := ho.slice; exact ⟨_, _, _, h6⟩
  have Y2 : Hid (Ext Non w2 x2) := (Ext.refl Non w2).drew.trans0 he
  have OX2 : Hid (Own Kd.u8 5 x2 w2.drew.heap.size (fun _ => True) (.slice Ax nx cx) (evB2 bs e ++ numB (flagN e.has))) := ho
  have hnb : (numB (flagN e.has)).length ≤ 9 := numB_le (by unfold flagN; split <;> omega)
  have HNB := Lib.hid hnb
  clear ho he hnb
  refine ⟨_, rfl, ?_⟩
  refine hK.out _ _ (evS6 (Y2.out.obj BQ2.out (fun e => e))) (fun hS => ?_)
  try simp only [Act.put, List.setIfInBounds_toArray, List.set_cons_zero, List.set_cons_succ]
  refine Last.one_ (i := 6) (N := some 25) #[true, true, true, true, true, true, true, false] (by simp only [List.getElem?_toArray, List.getElem?_cons_zero, List.getElem?_cons_succ]; rfl) rfl (by kernel_rfl) (by decide) (fun K hK => ?_)
  refine Last.goes_ Try.func84 (by kernel_rfl) rfl #[.slice Ax nx cx, .string e.now] (by rfl) rfl rfl (by simp [Act.eval]) ?_
  refine (Text_calls OX2.out.rd e.now (by have := HNB.out; have := HLN2.out; rw [List.length_append]; omega) (by have := HZ.out; omega) (fun _ _ => trivial)).mono ?_
  rintro e' w3 ⟨v', rfl, ho, he⟩
  obtain ⟨A3, n3, c3, rfl⟩ : ∃ A n c, v' = .slice A n c := by obtain ⟨A6, c6, h6, _, _⟩ := ho.slice; exact ⟨_, _, _, h6⟩
  have E3 : Hid (Ext Non w w3) := E2.out.trans0 (Y2.out.trans0 he)
  have O3 : Hid (Own Kd.u8 5 w3 x2.heap.size (fun _ => True) (.slice A3 n3 c3) (evB3 bs e)) := ho
  have BQ3 : Hid (w3.heap[q]? = some (.cells #[.int .i64 e.pos, .string e.key, .bool e.had, .string e.old, .bool e.has, .string e.now] 43 (0, 0))) := (Y2.out.trans0 he).obj BQ2.out (fun e => e)
  have hsx2 : w2.heap.size ≤ x2.heap.size := Y2.out.size
  have HLN3 : Hid ((evB3 bs e).length ≤ bs.length + 98391) := by
    have h0 := HLN2.out
    have h1 := HNB.out
    have h2 := HZ.out
    have h3 : (numB e.now.size).length ≤ 9 := numB_le (by omega)
    show (evB2 bs e ++ numB (flagN e.has) ++ numB e.now.size ++ e.now.data.toList).length ≤ _
    rw [List.length_append, List.length_append, List.length_append, size_list]
    omega
  clear ho he HNB
  refine ⟨_, rfl, ?_⟩
  refine hK.out _ _ (evS6 BQ3.out) (fun hS => ?_)
  try simp only [Act.put, List.setIfInBounds_toArray, List.set_cons_zero, List.set_cons_succ]
  refine Last.take_ (i := 7) (N := some 4) (v := .slice A3 n3 c3) #[true, true, true, true, true, true, true, true] (by simp only [List.getElem?_toArray, List.getElem?_cons_zero, List.getElem?_cons_succ]; rfl) rfl (by kernel_rfl) (by exact fun _ _ _ h => h) (Or.inl ⟨by rfl, fun W hW => by first | rfl | (try dsimp only at hW); go_simp⟩) hS rfl ?_
  simp only [Act.put, List.setIfInBounds_toArray, List.set_cons_zero, List.set_cons_succ]
  refine Last.done_ (by kernel_rfl) ?_
  go_wp2_with fail
  go_ret
  have hO : Own Kd.u8 5 w3 x2.heap.size (fun _ => True) (.slice A3 n3 c3) (bs ++ evB e) := by rw [← evB_eq]; exact O3.out
  exact ⟨_, rfl, hO.lower (by have := E2.out.size; omega), E3.out⟩
end Go.Proofs.Ytdjfijdnhfmeeaa
