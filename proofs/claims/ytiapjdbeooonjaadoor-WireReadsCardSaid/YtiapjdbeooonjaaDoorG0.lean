/- bytes.Compare; numbers with a sign, both. -/
import Derived.Test.YtiapjdbeooonjaaDoorE2
import Derived.Lib.Bytealg
import Derived.Lib.BytesEntry
import Derived.Lib.AppendStr
import Derived.Laws.Externs
namespace Go.Proofs.YtiapjdbeooonjaaDoor
open Go.RowKit Go.TM

theorem bytesOf_rd {w : World} {ok : Nat → Prop} {A : Option Addr} {n c : Nat} {bs : List UInt8} (h : Rd Kd.u8 w ok (.slice A n c) bs) : (Extern.Bytes.bytesOf (.slice A n c)).run Tryd.prog w = .ok ⟨bs.toArray⟩ w := by
  obtain ⟨A', c', he, hc, hm, hr⟩ := h
  simp only [Value.slice.injEq] at he
  obtain ⟨rfl, rfl, rfl⟩ := he
  cases bs with
  | nil =>
    cases A with
    | none => rfl
    | some a => rfl
  | cons b bs =>
    obtain ⟨g, off, rfl, hg, hlt, hx⟩ := hr (by simp)
    have := Lib.run_loadBytesX (P := Tryd.prog) w ((b :: bs).map fun b => (b.toNat : Int)) ⟨g, off, none⟩ .empty (fun j x hj => by
      rw [List.getElem?_map] at hj
      obtain ⟨y, hy, rfl⟩ := Option.map_eq_some_iff.1 hj
      obtain ⟨cs, hk, hcs⟩ := hx j y hy
      have hk' : cs = [Value.int .u8 y.toNat] := hk
      subst hk'
      have := hcs 0 _ rfl
      have hadd : (⟨g, off, none⟩ : Addr).add j = ⟨g, off + j, none⟩ := by unfold Addr.add; split <;> simp_all
      rw [hadd]
      simpa [Kd.u8, Kd.flat] using this)
    rw [List.length_map] at this
    show (Extern.Bytes.loadBytes ⟨g, off, none⟩ (b :: bs).length .empty).run Tryd.prog w = _
    have hb : Lib.bytesOf ((b :: bs).map fun b => (b.toNat : Int)) = b :: bs := by
      have key : ∀ l : List UInt8, Lib.bytesOf (l.map fun b => (b.toNat : Int)) = l := by
        intro l
        induction l with
        | nil => rfl
        | cons x l ih =>
          unfold Lib.bytesOf at ih ⊢
          rw [List.map_cons, List.map_cons, ih]
          simp
      exact key _
    have he0 : ByteArray.empty.data = #[] := rfl
    rw [this, hb, he0, Array.empty_append]

theorem Compare_calls {w : World} {ok ok2 : Nat → Prop} {A B : Option Addr} {n m c d : Nat} {xs ys : List UInt8} (H : Rd Kd.u8 w ok (.slice A n c) xs) (K : Rd Kd.u8 w ok2 (.slice B m d) ys) :
    Calls Tryd.prog 26 #[.slice A n c, .slice B m d] w fun e w' => e = .returned (.int .i64 (Lib.compareBytes xs ys)) ∧ w = w' := by
  have hb1 := bytesOf_rd H
  have hb2 := bytesOf_rd K
  have hrun : (Extern.BytealgCompare.compare #[.slice A n c, .slice B m d]).run Tryd.prog w = .ok (.int .i64 (Lib.compareBytes xs ys)) w := by
    change Sem.run Tryd.prog (do pure (goInt (Extern.BytealgCompare.cmp (← Extern.Bytes.bytesOf (.slice A n c)) (← Extern.Bytes.bytesOf (.slice B m d))))) w = _
    simp only [Sem.run_bind, hb1, hb2, Sem.run_pure, Result.andThen]
    rw [Lib.cmp_eq]
    rfl
  clear H K hb1 hb2
  go_enter Tryd.func26, Tryd.ntmps26
  go_wp2_with fail
  rw [run_callFunc_extern Tryd.func55 (by kernel_rfl) (by kernel_rfl) (by kernel_rfl) (e := Extern.BytealgCompare.compare) (by kernel_rfl), hrun]
  simp only [Result.andThen]
  rw [Oper.upon_value]
  go_wp2_with fail
  go_ret
  exact ⟨rfl, rfl⟩

/-- Eight bytes, the highest one first. -/
def sigB (u : Nat) : List UInt8 := [UInt8.ofNat (u / 256 ^ 7), UInt8.ofNat (u / 256 ^ 6), UInt8.ofNat (u / 256 ^ 5), UInt8.ofNat (u / 256 ^ 4), UInt8.ofNat (u / 256 ^ 3), UInt8.ofNat (u / 256 ^ 2), UInt8.ofNat (u / 256 ^ 1), UInt8.ofNat (u / 256 ^ 0)]
theorem sigB_take (u : Nat) : ∀ k, k < 8 → (sigB u).take (k + 1) = (sigB u).take k ++ [UInt8.ofNat (u / 256 ^ (7 - k))] := by
  intro k hk
  rcases k with _ | _ | _ | _ | _ | _ | _ | _ | k
  all_goals first | rfl | omega
theorem sigB_drop (u : Nat) : ∀ k, k < 8 → (sigB u).drop (7 - k) = UInt8.ofNat (u / 256 ^ k) :: (sigB u).drop (8 - k) := by
  intro k hk
  rcases k with _ | _ | _ | _ | _ | _ | _ | _ | k
  all_goals first | rfl | omega
/-- A number with a sign, as one without. -/
def twos (n : Int) : Nat := (n % 18446744073709551616).toNat
theorem twos_lt (n : Int) : twos n < 18446744073709551616 := by unfold twos; omega
theorem twos_eq (n : Int) : IntKind.u64.wrap n = (twos n : Int) := by rw [IntKind.wrap_u64]; unfold twos; omega

set_option maxHeartbeats 1000000 in
theorem Signed_calls {w : World} {ok : Nat → Prop} {A : Option Addr} {n c : Nat} {bs : List UInt8} (H : Rd Kd.u8 w ok (.slice A n c) bs) (v : Int) (hbl : bs.length ≤ 1099511627776) (hf : ∀ k, w.heap.size ≤ k → ok k) :
    Calls Tryd.prog 27 #[.slice A n c, .int .i64 v] w (NumPost ok (bs ++ sigB (twos v)) w) := by
  have HH := Lib.hid H
  have HF := Lib.hid hf
  clear H hf
  go_enter Tryd.func27, Tryd.ntmps27
  go_wp2_with (first
    | (at_builtin
       refine app_old (w0 := w) (v := .slice (some ⟨w.heap.size, 0, none⟩) 0 0) (vx := .slice A n c) (xs := []) (ys := bs) rfl _ _ rfl (by simp [Act.eval]) rfl (lit0 (Ext.refl _ _) HF.out) ((Ext.refl Non w).alloc _) HH.out HF.out (by simp; omega) ?_
       intro A2 n2 c2 w2 hn2 O2 E2 z2)
    | fail)
  have ht := twos_lt v
  have hte := twos_eq v
  obtain ⟨u, hu⟩ : ∃ u, u = twos v := ⟨_, rfl⟩
  rw [← hu] at ht hte
  have HU := Lib.hid hu
  clear hu
  go_loopw [5, 6] (fun s i wr => ∃ (k : Nat) (A4 : Option Addr) (n4 c4 : Nat) (iv : Int), k ≤ 8 ∧ iv = 7 - (k : Int) ∧ i = .int .i64 iv ∧ s = .slice A4 n4 c4 ∧ Hid (Own Kd.u8 5 wr w.heap.size ok (.slice A4 n4 c4) (bs ++ (sigB u).take k)) ∧ Hid (Ext Non w wr)) (fun _ i _ => (intOf i + 1).toNat)
  case atStart => exact ⟨0, A2, n2, c2, 7, by omega, by simp, rfl, rfl, by simpa [Hid] using O2.out, E2.out⟩
  case round =>
    obtain ⟨k, A4, n4, c4, iv, hk, hiv, rfl, rfl, HO, HE⟩ := hrel
    by_cases hk8 : k < 8
    · obtain ⟨i, rfl⟩ : ∃ i : Nat, iv = (i : Int) := ⟨7 - k, by omega⟩
      have hi : i = 7 - k := by omega
      have q0 : (0 : Int) ≤ (i : Int) := by omega
      have q1 : (i : Int) < 8 := by omega
      have q2 : IntKind.i64.wrap (8 * (i : Int)) = 8 * (i : Int) := IntWalk.i64_in _ (by omega)
      have HT := Lib.hid (sigB_take u k hk8)
      have hx : (u : Int) / 2 ^ (8 * i) % 256 = ((UInt8.ofNat (u / 256 ^ i)).toNat : Int) := by
        rw [ofn, pow8, ← Int.natCast_ediv]
      have HX := Lib.hid hx
      have HI := Lib.hid hi
      have HIV := Lib.hid hiv
      clear hi hiv hx
      go_wp2_with (first
        | (at_builtin
           refine app_lit (w0 := w) (v := .slice A4 n4 c4) [UInt8.ofNat (u / 256 ^ i)] #[.int .u8 ((u : Int) / 2 ^ (8 * i) % 256)] rfl (by rw [HX.out]; rfl) rfl _ _ rfl rfl rfl HO.out HE.out HF.out (by rw [List.length_append, List.length_take]; simp [sigB]; omega) ?_
           intro A3 n3 c3 w3 hn3 O3 E3 z3)
        | fail)
      refine ⟨⟨k + 1, A3, n3, c3, (i : Int) - 1, by omega, by have := HIV.out; omega, by simp, rfl, ?_, E3.out⟩, by simp [intOf]⟩
      show Own _ _ _ _ _ _ _
      rw [HT.out, ← List.append_assoc, ← HI.out]
      exact O3.out
    · obtain rfl : k = 8 := by omega
      have q0 : iv = -1 := by omega
      subst q0
      go_wp2_with fail
      go_ret
      have R := HO.out
      rw [List.take_of_length_le (by simp [sigB])] at R
      exact ⟨_, rfl, by rw [← HU.out]; exact R, HE.out⟩

set_option maxHeartbeats 1000000 in
theorem SignedR_calls {w : World} {ok : Nat → Prop} {A : Option Addr} {n c : Nat} {bs : List UInt8} (H : Rd Kd.u8 w ok (.slice A n c) bs) (v : Int) (hbl : bs.length ≤ 1099511627776) (hf : ∀ k, w.heap.size ≤ k → ok k) :
    Calls Tryd.prog 35 #[.slice A n c, .int .i64 v] w (NumPost ok (bs ++ sigB (twos v)) w) := by
  have HH := Lib.hid H
  have HF := Lib.hid hf
  clear H hf
  have ht := twos_lt v
  have hte := twos_eq v
  obtain ⟨u, hu⟩ : ∃ u, u = twos v := ⟨_, rfl⟩
  rw [← hu] at ht hte ⊢
  clear hu
  go_enter Tryd.func35, Tryd.ntmps35
  go_wp2_with fail
  go_loopw [5, 6, 9] (fun s d i wr => ∃ (k : Nat) (A1 : Option Addr) (n1 c1 : Nat) (D : Nat), k ≤ 8 ∧ i = .int .i64 (k : Int) ∧ D < 18446744073709551616 ∧ d = .int .u64 (D : Int) ∧ s = .slice A1 n1 c1 ∧ Hid (D = u / 256 ^ k) ∧ Hid (Own Kd.u8 5 wr w.heap.size ok (.slice A1 n1 c1) ((sigB u).drop (8 - k))) ∧ Hid (Ext Non w wr)) (fun _ _ i _ => (8 - intOf i).toNat)
  case atStart => exact ⟨0, none, 0, 0, u, by omega, rfl, ht, rfl, rfl, by simp [Hid], Own.nil _ _ _ _ _, Ext.refl _ _⟩
  case round =>
    obtain ⟨k, A1, n1, c1, D, hk, rfl, hD, rfl, rfl, HD, HO, HE⟩ := hrel
    have S := HE.out.size
    by_cases hk8 : k < 8
    · have q0 : (k : Int) < 8 := by omega
      have q1 : (0 : Int) ≤ (k : Int) := by omega
      have hx : (D : Int) % 256 = ((UInt8.ofNat D).toNat : Int) := by rw [ofn]
      have HX := Lib.hid hx
      have hd8 : ((sigB u).drop (8 - k)).length ≤ 8 := by rw [List.length_drop]; simp [sigB]
      clear hx
      go_wp2_with (at_builtin; refine app8 (w0 := w) (v := .slice (some ⟨wr.heap.size, 0, none⟩) 1 1) (vx := .slice A1 n1 c1) (ok := ok) (okY := fun i => ok i ∧ i < wr.heap.size) (xs := [UInt8.ofNat D]) (ys := (sigB u).drop (8 - k)) rfl _ _ rfl (by simp [Act.eval]) rfl (Own.lits [UInt8.ofNat D] _ (by rw [HX.out]; rfl) S (HF.out _ S) (by simp)) (HE.out.alloc _) (HO.out.rd.bound.ext0 ((Ext.refl Non wr).alloc _)) (fun i hi _ => ⟨hi.1, fun e => by simp [Value.ownBlock] at e; omega⟩) HF.out (by rw [List.length_singleton]; omega) ?_; intro A2 n2 c2 w2 hn2 O2 E2 z2 _)
      refine ⟨⟨k + 1, A2, n2, c2, D / 256, by omega, by simp, by omega, by simp, rfl, ?_, ?_, E2.out⟩, by simp [intOf]; omega⟩
      · show _ = _
        rw [HD.out, Nat.div_div_eq_div_mul, ← Nat.pow_succ]
      · show Own _ _ _ _ _ _ _
        rw [show 8 - (k + 1) = 7 - k from by omega, sigB_drop u k hk8, ← HD.out]
        exact O2.out
    · obtain rfl : k = 8 := by omega
      have HF2 : Hid (∀ i, wr.heap.size ≤ i → ok i) := fun i hi => HF.out i (by omega)
      go_wp2_with (first
        | (at_builtin
           refine app_old (w0 := wr) (v := .slice (some ⟨wr.heap.size, 0, none⟩) 0 0) (vx := .slice A n c) (xs := []) (ys := bs) rfl _ _ rfl (by simp [Act.eval]) rfl (lit0 (Ext.refl _ _) HF2.out) ((Ext.refl Non wr).alloc _) (HH.out.ext0 HE.out) HF2.out (by simp; omega) ?_
           intro A2 n2 c2 w2 hn2 O2 E2 z2)
        | (at_builtin
           refine app_old (w0 := wr) (v := .slice A2 n2 c2) (vx := .slice A1 n1 c1) (ys := sigB u) rfl _ _ rfl rfl rfl O2.out E2.out HO.out.rd HF2.out (by simp [sigB]; omega) ?_
           intro A4 n4 c4 w4 hn4 O4 E4 z4)
        | fail)
      go_ret
      exact ⟨_, rfl, O4.out.lower S, HE.out.trans0 E4.out⟩

theorem app_str {w0 w : World} {ops : Array Oper} {rest : List Oper} {o : Oper} {a : Act} {Q : Exit → Act → World → Prop} {ok : Nat → Prop} {v : Value} {xs : List UInt8} (t : ByteArray) (hgd : o.guard = none) (s x : Operand)
    (ho : o.op = .call { callee := .builtin .append, args := #[s, x], argTypes := #[22, 9] }) (hs : a.eval s = v) (hx : a.eval x = .string t)
    (G : Own Kd.u8 5 w w0.heap.size ok v xs) (E : Ext Non w0 w) (hf : ∀ k, w0.heap.size ≤ k → ok k) (hl : xs.length + t.size ≤ 140737488355328)
    (h : ∀ A n c w', Hid (n = (xs ++ t.data.toList).length) → Hid (Own Kd.u8 5 w' w0.heap.size ok (.slice A n c) (xs ++ t.data.toList)) → Hid (Ext Non w0 w') → w.heap.size ≤ w'.heap.size → wpList Tryd.prog ops Q rest (a.put o.dst (.slice A n c)) w') : wpList Tryd.prog ops Q (o :: rest) a w := by
  have hb := G.base_le
  obtain ⟨h0, inner, hown, hr⟩ := G
  have hin : inner = xs.map (fun y => Value.int .u8 y.toNat) := by
    have := Reps.of_flat hr
    rw [flat_map_u8] at this
    exact this
  obtain ⟨i0, hi, hzz⟩ := Option.map_eq_some_iff.1 info5
  simp only [Prod.mk.injEq] at hzz
  obtain ⟨hz0, hz1, hz2⟩ := hzz
  refine Lib.wpList_append_own_string w hgd s x 22 9 ho w0.heap.size 5 i0 Tryd.underlying22 Tryd.underlying9 hi hz0 hz1 hz2 v xs.length inner hs hown t hx (by simp only [maxLen]; omega) hl E.size ?_
  intro v' w' h1 h2 _
  have hE : Ext (fun k => some k = v.ownBlock) w w' := ⟨h2.os, h2.tape, h2.output, h2.size, fun k hk hn => h2.block k hk hn⟩
  have hlen : (xs ++ t.data.toList).length = xs.length + t.size := by rw [List.length_append]; rfl
  have hcs : inner ++ Lib.strCells t = (xs ++ t.data.toList).map (fun y => Value.int .u8 y.toNat) := by
    rw [hin, List.map_append]
    rfl
  have O : Own Kd.u8 5 w' w0.heap.size ok v' (xs ++ t.data.toList) := by
    refine ⟨fun k hk => hf k (h1.lt k hk).1, inner ++ Lib.strCells t, by rw [hlen]; exact h1, ?_⟩
    rw [hcs, ← flat_map_u8]
    exact Reps.flat _
  obtain ⟨A, c, rfl, _, _⟩ := O.slice
  exact h A _ c w' rfl O (E.trans hE (fun i hi e => by have := (hb i e.symm).1; omega)) h2.size

theorem Text_calls {w : World} {ok : Nat → Prop} {A : Option Addr} {n c : Nat} {bs : List UInt8} (H : Rd Kd.u8 w ok (.slice A n c) bs) (t : ByteArray) (hbl : bs.length ≤ 1099511627776) (ht : t.size ≤ 1099511627776) (hf : ∀ k, w.heap.size ≤ k → ok k) :
    Calls Tryd.prog 31 #[.slice A n c, .string t] w (NumPost ok (bs ++ numB t.size ++ t.data.toList) w) := by
  obtain ⟨A', c', he, hc', hm⟩ := H.slice
  simp only [Value.slice.injEq] at he
  obtain ⟨rfl, rfl, rfl⟩ := he
  have HH := Lib.hid H
  have HF := Lib.hid hf
  clear H hf
  go_enter Tryd.func31, Tryd.ntmps31
  go_wp2_with fail
  refine (Number_calls HH.out (t.size : Int) (by omega) (by omega) hbl HF.out).mono ?_
  rintro e w1 ⟨v1, rfl, ho, he⟩
  obtain ⟨A1, N1, c1, rfl, hn1⟩ := (Own.abs8 ho)
  rw [show (t.size : Int).toNat = t.size from by omega] at ho
  have O1 := Lib.hid ho
  have E1 := Lib.hid he
  have hnl := numB_le (m := t.size) (by omega)
  clear ho he hn1
  go_wp2_with (first
    | (at_builtin
       refine app_str (w0 := w) (v := .slice A1 N1 c1) t rfl _ _ rfl rfl rfl O1.out E1.out HF.out (by rw [List.length_append]; omega) ?_
       intro A2 n2 c2 w2 hn2 O2 E2 z2)
    | fail)
  go_ret
  exact ⟨_, rfl, O2.out, E2.out⟩
theorem TextR_calls {w : World} {ok : Nat → Prop} {A : Option Addr} {n c : Nat} {bs : List UInt8} (H : Rd Kd.u8 w ok (.slice A n c) bs) (t : ByteArray) (hbl : bs.length ≤ 1099511627776) (ht : t.size ≤ 1099511627776) (hf : ∀ k, w.heap.size ≤ k → ok k) :
    Calls Tryd.prog 32 #[.slice A n c, .string t] w (NumPost ok (bs ++ numB t.size ++ t.data.toList) w) := by
  have HH := Lib.hid H
  have HF := Lib.hid hf
  clear H hf
  go_enter Tryd.func32, Tryd.ntmps32
  go_wp2_with fail
  refine (NumberR_calls HH.out (t.size : Int) (by omega) (by omega) hbl HF.out).mono ?_
  rintro e w1 ⟨v1, rfl, ho, he⟩
  obtain ⟨A1, N1, c1, rfl, hn1⟩ := (Own.abs8 ho)
  rw [show (t.size : Int).toNat = t.size from by omega] at ho
  have O1 := Lib.hid ho
  have E1 := Lib.hid he
  have hnl := numB_le (m := t.size) (by omega)
  clear ho he hn1
  go_wp2_with (first
    | (at_builtin
       refine app_str (w0 := w) (v := .slice A1 N1 c1) t rfl _ _ rfl rfl rfl O1.out E1.out HF.out (by rw [List.length_append]; omega) ?_
       intro A2 n2 c2 w2 hn2 O2 E2 z2)
    | fail)
  go_ret
  exact ⟨_, rfl, O2.out, E2.out⟩
def flagN (b : Bool) : Nat := if b then 1 else 0
theorem Flag_calls {w : World} {ok : Nat → Prop} {A : Option Addr} {n c : Nat} {bs : List UInt8} (H : Rd Kd.u8 w ok (.slice A n c) bs) (b : Bool) (hbl : bs.length ≤ 1099511627776) (hf : ∀ k, w.heap.size ≤ k → ok k) :
    Calls Tryd.prog 33 #[.slice A n c, .bool b] w (NumPost ok (bs ++ numB (flagN b)) w) := by
  obtain ⟨A', c', he, hc', hm⟩ := H.slice
  simp only [Value.slice.injEq] at he
  obtain ⟨rfl, rfl, rfl⟩ := he
  have HH := Lib.hid H
  have HF := Lib.hid hf
  clear H hf
  cases b
  · go_enter Tryd.func33, Tryd.ntmps33
    go_wp2_with fail
    refine (Number_calls HH.out 0 (by omega) (by omega) hbl HF.out).mono ?_
    rintro e w1 ⟨v1, rfl, ho, he⟩
    have O1 := Lib.hid ho
    have E1 := Lib.hid he
    clear ho he
    go_wp2_with fail
    go_ret
    exact ⟨_, rfl, O1.out, E1.out⟩
  · go_enter Tryd.func33, Tryd.ntmps33
    go_wp2_with fail
    refine (Number_calls HH.out 1 (by omega) (by omega) hbl HF.out).mono ?_
    rintro e w1 ⟨v1, rfl, ho, he⟩
    have O1 := Lib.hid ho
    have E1 := Lib.hid he
    clear ho he
    go_wp2_with fail
    go_ret
    exact ⟨_, rfl, O1.out, E1.out⟩
theorem FlagR_calls {w : World} {ok : Nat → Prop} {A : Option Addr} {n c : Nat} {bs : List UInt8} (H : Rd Kd.u8 w ok (.slice A n c) bs) (b : Bool) (hbl : bs.length ≤ 1099511627776) (hf : ∀ k, w.heap.size ≤ k → ok k) :
    Calls Tryd.prog 34 #[.slice A n c, .bool b] w (NumPost ok (bs ++ numB (flagN b)) w) := by
  have HH := Lib.hid H
  have HF := Lib.hid hf
  clear H hf
  cases b
  · go_enter Tryd.func34, Tryd.ntmps34
    go_wp2_with fail
    refine (NumberR_calls HH.out 0 (by omega) (by omega) hbl HF.out).mono ?_
    rintro e w1 ⟨v1, rfl, ho, he⟩
    have O1 := Lib.hid ho
    have E1 := Lib.hid he
    clear ho he
    go_wp2_with fail
    go_ret
    exact ⟨_, rfl, O1.out, E1.out⟩
  · go_enter Tryd.func34, Tryd.ntmps34
    go_wp2_with fail
    refine (NumberR_calls HH.out 1 (by omega) (by omega) hbl HF.out).mono ?_
    rintro e w1 ⟨v1, rfl, ho, he⟩
    have O1 := Lib.hid ho
    have E1 := Lib.hid he
    clear ho he
    go_wp2_with fail
    go_ret
    exact ⟨_, rfl, O1.out, E1.out⟩
end Go.Proofs.YtiapjdbeooonjaaDoor
