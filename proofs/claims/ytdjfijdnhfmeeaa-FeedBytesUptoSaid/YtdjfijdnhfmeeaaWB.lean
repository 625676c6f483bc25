/- Appends of bytes, as steps; slices.Clone, bytes.Equal. The document's Number. bytes.Compare; numbers with a sign, both. wire.Reader: Within, Text, Flag, Signed, End. Numbers as bytes: how great they are. The document's reader: number, on, Number, Within, Left. The document's number. The document's reader. -/
import Derived.Test.YtdjfijdnhfmeeaaWA
import Derived.Laws.IdiomStrings
import Derived.Laws.BytesArg
import Derived.Lib.Bytealg
import Derived.Lib.BytesEntry
import Derived.Lib.AppendStr
import Derived.Laws.Externs
import Derived.OwnWalk
namespace Go.Proofs.Ytdjfijdnhfmeeaa
open Go.RowKit Go.TM

set_option maxRecDepth 100000 in
/-- An append of bytes to a row of one's own. -/
theorem app8 {w0 w : World} {ops : Array Oper} {rest : List Oper} {o : Oper} {a : Act} {Q : Exit → Act → World → Prop} {ok okY : Nat → Prop} {v vx : Value} {xs ys : List UInt8} (hgd : o.guard = none) (s x : Operand)
    (ho : o.op = .call { callee := .builtin .append, args := #[s, x], argTypes := #[70, 70] }) (hs : a.eval s = v) (hx : a.eval x = vx)
    (G : Own Kd.u8 5 w w0.heap.size ok v xs) (E : Ext Non w0 w) (Y : Rd Kd.u8 w okY vx ys) (hY : ∀ k, okY k → k < w.heap.size → ok k ∧ some k ≠ v.ownBlock) (hf : ∀ k, w0.heap.size ≤ k → ok k) (hl : xs.length + ys.length ≤ 140737488355328)
    (h : ∀ A n c w', Hid (n = (xs ++ ys).length) → Hid (Own Kd.u8 5 w' w0.heap.size ok (.slice A n c) (xs ++ ys)) → Hid (Ext Non w0 w') → w.heap.size ≤ w'.heap.size → Hid (Ext (fun k => some k = v.ownBlock) w w') → wpList Try.prog ops Q rest (a.put o.dst (.slice A n c)) w') : wpList Try.prog ops Q (o :: rest) a w := by
  have hb := G.base_le
  refine wpList_app Kd.u8 (v := v) (vx := vx) (ok := ok) (xs := xs) (ys := ys) w0.heap.size hgd s x 70 5 _ 1 ho Try.underlying70 info5 rfl (by decide) hs hx G (Y.bound.mono fun k hk => hY k hk.1 hk.2) (fun k hk => hf k (Nat.le_trans E.size hk)) (by omega) (by omega) E.size ?_
  intro v' w' hown hext hblk
  obtain ⟨A, c, rfl, _, _⟩ := hown.slice
  exact h A _ c w' rfl hown (E.trans hext (fun i hi e => by have := (hb i e.symm).1; omega)) hext.size hext

set_option maxRecDepth 100000 in
/-- .. of bytes that were there at the beginning. -/
theorem app_old {w0 w : World} {ops : Array Oper} {rest : List Oper} {o : Oper} {a : Act} {Q : Exit → Act → World → Prop} {ok : Nat → Prop} {v vx : Value} {xs ys : List UInt8} (hgd : o.guard = none) (s x : Operand)
    (ho : o.op = .call { callee := .builtin .append, args := #[s, x], argTypes := #[70, 70] }) (hs : a.eval s = v) (hx : a.eval x = vx)
    (G : Own Kd.u8 5 w w0.heap.size ok v xs) (E : Ext Non w0 w) (Y : Rd Kd.u8 w0 ok vx ys) (hf : ∀ k, w0.heap.size ≤ k → ok k) (hl : xs.length + ys.length ≤ 140737488355328)
    (h : ∀ A n c w', Hid (n = (xs ++ ys).length) → Hid (Own Kd.u8 5 w' w0.heap.size ok (.slice A n c) (xs ++ ys)) → Hid (Ext Non w0 w') → w.heap.size ≤ w'.heap.size → wpList Try.prog ops Q rest (a.put o.dst (.slice A n c)) w') : wpList Try.prog ops Q (o :: rest) a w :=
  app8 hgd s x ho hs hx G E (Y.bound.ext0 E) (fun k hk _ => ⟨hk.1, fun e => by have := (G.base_le k e.symm).1; have := hk.2; omega⟩) hf hl (fun A n c w' h1 h2 h3 h4 _ => h A n c w' h1 h2 h3 h4)

set_option maxRecDepth 100000 in
theorem flat_map_u8 : ∀ (ys : List UInt8), ys.flatMap (fun n : UInt8 => [Value.int .u8 n.toNat]) = ys.map (fun y => Value.int .u8 y.toNat)
  | [] => rfl
  | y :: t => by rw [List.flatMap_cons, flat_map_u8 t, List.map_cons]; rfl
set_option maxRecDepth 100000 in
theorem Own.lits {w : World} {ok : Nat → Prop} {base : Nat} (ys : List UInt8) (cs : Array Value) (hcs : cs = (ys.map (fun y => Value.int .u8 y.toNat)).toArray) (hb : base ≤ w.heap.size) (hok : ok w.heap.size) (hl : ys.length ≤ 9223372036854775807) : Own Kd.u8 5 (w.alloc (.cells cs 5)) base ok (.slice (some ⟨w.heap.size, 0, none⟩) ys.length ys.length) ys := by
  subst hcs
  have hr : Reps Kd.u8 w ok ys (ys.map (fun y => Value.int .u8 y.toNat)) := by
    have := Reps.flat (sz := 1) (enc := fun n : UInt8 => [Value.int .u8 n.toNat]) (hl := fun _ => rfl) (h1 := by simp [Value.oneCell']) (w := w) (ok := ok) ys
    rw [flat_map_u8] at this
    exact this
  exact Own.lit (d := Kd.u8) (e := 5) (base := base) hr hb hl hok
set_option maxRecDepth 100000 in
theorem Rd.lits {w : World} {ok : Nat → Prop} (ys : List UInt8) (cs : Array Value) (hcs : cs = (ys.map (fun y => Value.int .u8 y.toNat)).toArray) (hok : ok w.heap.size) (hl : ys.length ≤ 9223372036854775807) : Rd Kd.u8 (w.alloc (.cells cs 5)) ok (.slice (some ⟨w.heap.size, 0, none⟩) ys.length ys.length) ys :=
  (Own.lits ys cs hcs (Nat.le_refl _) hok hl).rd

set_option maxRecDepth 100000 in
/-- .. of bytes that were written there. -/
theorem app_lit {w0 w : World} {ops : Array Oper} {rest : List Oper} {o : Oper} {a : Act} {Q : Exit → Act → World → Prop} {ok : Nat → Prop} {v : Value} {xs : List UInt8} (ys : List UInt8) {m : Nat} (cs : Array Value) (hm : m = ys.length) (hcs : cs = (ys.map (fun y => Value.int .u8 y.toNat)).toArray) (hgd : o.guard = none) (s x : Operand)
    (ho : o.op = .call { callee := .builtin .append, args := #[s, x], argTypes := #[70, 70] }) (hs : a.eval s = v) (hx : a.eval x = .slice (some ⟨w.heap.size, 0, none⟩) m m)
    (G : Own Kd.u8 5 w w0.heap.size ok v xs) (E : Ext Non w0 w) (hf : ∀ k, w0.heap.size ≤ k → ok k) (hl : xs.length + ys.length ≤ 140737488355328)
    (h : ∀ A n c w', Hid (n = (xs ++ ys).length) → Hid (Own Kd.u8 5 w' w0.heap.size ok (.slice A n c) (xs ++ ys)) → Hid (Ext Non w0 w') → w.heap.size ≤ w'.heap.size → wpList Try.prog ops Q rest (a.put o.dst (.slice A n c)) w') : wpList Try.prog ops Q (o :: rest) a (w.alloc (.cells cs 5)) := by
  subst hm
  refine app8 (w0 := w0) (okY := fun k => k = w.heap.size) hgd s x ho hs hx (G.ext0 ((Ext.refl Non w).alloc _)) (E.alloc _) (Rd.lits ys cs hcs rfl (by omega)) (fun k hk _ => ⟨hf k (by rw [hk]; exact E.size), fun e => by have := (G.base_le k e.symm).2; omega⟩) hf hl (fun A n c w' h1 h2 h3 h4 _ => h A n c w' h1 h2 h3 (by simp at h4; omega))

set_option maxRecDepth 100000 in
theorem lit0 {w0 w : World} {ok : Nat → Prop} (E : Ext Non w0 w) (hf : ∀ k, w0.heap.size ≤ k → ok k) : Own Kd.u8 5 (w.alloc (.cells #[] 5)) w0.heap.size ok (.slice (some ⟨w.heap.size, 0, none⟩) 0 0) [] :=
  Own.lit (Reps.nil _ _ _) E.size (by simp) (hf _ E.size)

end Go.Proofs.Ytdjfijdnhfmeeaa

namespace Go.Proofs.Ytdjfijdnhfmeeaa
open Go.RowKit Go.TM

set_option maxRecDepth 100000 in
theorem be_step {m n : Nat} {l : List UInt8} (h : be m = be n ++ l) (hn : 0 < n) : be m = be (n / 256) ++ (UInt8.ofNat (n % 256) :: l) := by
  rw [h, be_pos hn, List.append_assoc]
  rfl

set_option maxHeartbeats 1048576 in
set_option maxRecDepth 100000 in
theorem NumberR_nn {w : World} {ok : Nat → Prop} {A : Option Addr} {n c : Nat} {bs : List UInt8} (H : Rd Kd.u8 w ok (.slice A n c) bs) (m : Nat) (h1 : m ≤ 9223372036854775807) (hbl : bs.length ≤ 1099511627776) (hf : ∀ k, w.heap.size ≤ k → ok k) :
    Calls Try.prog 68 #[.slice A n c, .int .i64 (m : Int)] w (NumPost ok (bs ++ numB m) w) := by
  have HH := Lib.hid H
  have HF := Lib.hid hf
  have h8 := be_le8 h1
  clear H hf
  have hm0 : ¬ (m : Int) < 0 := by omega
  go_enter Try.func68, Try.ntmps68
  go_wp2_with fail
  go_loopw [1, 5] (fun v s wr => ∃ (k : Nat) (l : List UInt8) (A1 : Option Addr) (n1 c1 : Nat), v = .int .i64 (k : Int) ∧ k ≤ m ∧ s = .slice A1 n1 c1 ∧ Hid (be m = be k ++ l) ∧ Hid (n1 = l.length) ∧ Hid (Own Kd.u8 5 wr w.heap.size ok (.slice A1 n1 c1) l) ∧ Hid (Ext Non w wr)) (fun v _ _ => (intOf v).toNat)
  case atStart => exact ⟨m, [], none, 0, 0, by simp, Nat.le_refl _, rfl, by simp [Hid], rfl, Own.nil _ _ _ _ _, Ext.refl _ _⟩
  case round =>
    obtain ⟨k, l, A1, n1, c1, rfl, hk, rfl, HB, HN, HO, HE⟩ := hrel
    have hll : l.length ≤ 8 := by
      have := congrArg List.length HB.out
      rw [List.length_append] at this
      omega
    by_cases hk0 : 0 < k
    · have p0 : (0 : Int) < (k : Int) := by omega
      have hx : ((UInt8.ofNat (k % 256)).toNat : Int) = (k : Int) % 256 := by
        have : (UInt8.ofNat (k % 256)).toNat = k % 256 % 256 := by simp
        omega
      have HX := Lib.hid hx
      have S := HE.out.size
      have HB2 := Lib.hid (be_step HB.out hk0)
      clear hx
      go_wp2_with (at_builtin; refine app8 (w0 := w) (v := .slice (some ⟨wr.heap.size, 0, none⟩) 1 1) (vx := .slice A1 n1 c1) (ok := ok) (okY := fun i => ok i ∧ i < wr.heap.size) (xs := [UInt8.ofNat (k % 256)]) (ys := l) rfl _ _ rfl (by simp [Act.eval]) rfl (Own.lits [UInt8.ofNat (k % 256)] _ (by rw [List.map_cons, HX.out]; rfl) S (HF.out _ S) (by simp)) (HE.out.alloc _) (HO.out.rd.bound.ext0 ((Ext.refl Non wr).alloc _)) (fun i hi _ => ⟨hi.1, fun e => by simp [Value.ownBlock] at e; omega⟩) HF.out (by simp; omega) ?_; intro A2 n2 c2 w2 hn2 O2 E2 z2 _)
      exact ⟨⟨k / 256, UInt8.ofNat (k % 256) :: l, A2, n2, c2, by simp, by omega, rfl, HB2.out, hn2, O2.out, E2.out⟩, by simp [intOf]; omega⟩
    · obtain rfl : k = 0 := by omega
      have hl : l = be m := by have := HB.out; rw [be_zero, List.nil_append] at this; exact this.symm
      have S := HE.out.size
      have hx : ((UInt8.ofNat l.length).toNat : Int) = (l.length : Int) := by
        have : (UInt8.ofNat l.length).toNat = l.length % 256 := by simp
        omega
      have HX := Lib.hid hx
      have HL := Lib.hid hl
      have hn8 : (n1 : Int) % 256 = (l.length : Int) := by rw [HN.out]; omega
      have HF2 : Hid (∀ i, wr.heap.size ≤ i → ok i) := fun i hi => HF.out i (by omega)
      clear hx hl
      go_wp2_with (first
        | (at_builtin
           refine app_old (w0 := wr) (v := .slice (some ⟨wr.heap.size, 0, none⟩) 0 0) (vx := .slice A n c) (xs := []) (ys := bs) rfl _ _ rfl (by simp [Act.eval]) rfl (lit0 (Ext.refl _ _) HF2.out) ((Ext.refl Non wr).alloc _) (HH.out.ext0 HE.out) HF2.out (by simp; omega) ?_
           intro A2 n2 c2 w2 hn2 O2 E2 z2)
        | (at_builtin
           refine app_lit (w0 := wr) (v := .slice A2 n2 c2) [UInt8.ofNat l.length] #[.int .u8 (l.length : Int)] rfl (by rw [List.map_cons, HX.out]; rfl) rfl _ _ rfl rfl rfl O2.out E2.out HF2.out (by simp; omega) ?_
           intro A3 n3 c3 w3 hn3 O3 E3 z3)
        | (at_builtin
           refine app_old (w0 := wr) (v := .slice A3 n3 c3) (vx := .slice A1 n1 c1) (ys := l) rfl _ _ rfl rfl rfl O3.out E3.out HO.out.rd HF2.out (by simp; omega) ?_
           intro A4 n4 c4 w4 hn4 O4 E4 z4)
        | fail)
      go_ret
      have e : bs ++ numB m = [] ++ bs ++ [UInt8.ofNat l.length] ++ l := by
        unfold numB
        rw [← HL.out]
        simp
      exact ⟨_, rfl, by rw [e]; exact O4.out.lower S, HE.out.trans0 E4.out⟩

set_option maxRecDepth 100000 in
theorem NumberR_neg {w : World} {ok : Nat → Prop} {A : Option Addr} {n c : Nat} {bs : List UInt8} (H : Rd Kd.u8 w ok (.slice A n c) bs) (m : Int) (h0 : m < 0) (hbl : bs.length ≤ 1099511627776) (hf : ∀ k, w.heap.size ≤ k → ok k) :
    Calls Try.prog 68 #[.slice A n c, .int .i64 m] w (NumPost ok (bs ++ numB 0) w) := by
  have HH := Lib.hid H
  have HF := Lib.hid hf
  clear H hf
  have hm0 : ¬ 0 ≤ m := by omega
  go_enter Try.func68, Try.ntmps68
  go_wp2_with fail
  go_loopw [1, 5] (fun v s wr => v = .int .i64 0 ∧ s = .slice none 0 0 ∧ wr = w) (fun _ _ _ => 0)
  case atStart => exact ⟨rfl, rfl, rfl⟩
  case round =>
    obtain ⟨rfl, rfl, rfl⟩ := hrel
    go_wp2_with (first
      | (at_builtin
         refine app_old (w0 := wr) (v := .slice (some ⟨wr.heap.size, 0, none⟩) 0 0) (vx := .slice A n c) (xs := []) (ys := bs) rfl _ _ rfl (by simp [Act.eval]) rfl (lit0 (Ext.refl _ _) HF.out) ((Ext.refl Non wr).alloc _) HH.out HF.out (by simp; omega) ?_
         intro A2 n2 c2 w2 hn2 O2 E2 z2)
      | (at_builtin
         refine app_lit (w0 := wr) (v := .slice A2 n2 c2) [0] #[.int .u8 0] rfl rfl rfl _ _ rfl rfl rfl O2.out E2.out HF.out (by simp; omega) ?_
         intro A3 n3 c3 w3 hn3 O3 E3 z3)
      | (at_builtin
         refine app_old (w0 := wr) (v := .slice A3 n3 c3) (vx := .slice none 0 0) (ys := []) rfl _ _ rfl rfl rfl O3.out E3.out (Rd.nil _ _ _) HF.out (by simp; omega) ?_
         intro A4 n4 c4 w4 hn4 O4 E4 z4)
      | fail)
    go_ret
    have e : bs ++ numB 0 = [] ++ bs ++ [0] ++ [] := by
      unfold numB
      rw [be_zero]
      simp
    exact ⟨_, rfl, by rw [e]; exact O4.out, E4.out⟩

set_option maxRecDepth 100000 in
theorem NumberR_calls {w : World} {ok : Nat → Prop} {A : Option Addr} {n c : Nat} {bs : List UInt8} (H : Rd Kd.u8 w ok (.slice A n c) bs) (m : Int) (h0 : -9223372036854775808 ≤ m) (h1 : m ≤ 9223372036854775807) (hbl : bs.length ≤ 1099511627776) (hf : ∀ k, w.heap.size ≤ k → ok k) :
    Calls Try.prog 68 #[.slice A n c, .int .i64 m] w (NumPost ok (bs ++ numB m.toNat) w) := by
  by_cases h : m < 0
  · rw [show m.toNat = 0 from by omega]
    exact NumberR_neg H m h hbl hf
  · obtain ⟨k, rfl⟩ : ∃ k : Nat, m = (k : Int) := ⟨m.toNat, by omega⟩
    exact NumberR_nn H k (by omega) hbl hf
end Go.Proofs.Ytdjfijdnhfmeeaa

namespace Go.Proofs.Ytdjfijdnhfmeeaa
open Go.RowKit Go.TM
theorem Own.abs8 {w : World} {base : Nat} {ok : Nat → Prop} {v : Value} {xs : List UInt8} (h : Own Kd.u8 5 w base ok v xs) : ∃ A n c, v = .slice A n c ∧ n = xs.length := by
  obtain ⟨A, c, h1, _, _⟩ := h.slice
  exact ⟨A, _, c, h1, rfl⟩
theorem Rd.abs8 {w : World} {ok : Nat → Prop} {v : Value} {xs : List UInt8} (h : Rd Kd.u8 w ok v xs) : ∃ A n c, v = .slice A n c ∧ n = xs.length := by
  obtain ⟨A, c, h1, _, _⟩ := h.slice
  exact ⟨A, _, c, h1, rfl⟩
theorem numB_le {m : Nat} (h : m ≤ 9223372036854775807) : (numB m).length ≤ 9 := by
  have := numI_le (n := (m : Int)) (by omega)
  unfold numI at this
  rwa [show (m : Int).toNat = m from by omega] at this

set_option maxRecDepth 100000 in
theorem app_str {w0 w : World} {ops : Array Oper} {rest : List Oper} {o : Oper} {a : Act} {Q : Exit → Act → World → Prop} {ok : Nat → Prop} {v : Value} {xs : List UInt8} (t : ByteArray) (hgd : o.guard = none) (s x : Operand)
    (ho : o.op = .call { callee := .builtin .append, args := #[s, x], argTypes := #[70, 9] }) (hs : a.eval s = v) (hx : a.eval x = .string t)
    (G : Own Kd.u8 5 w w0.heap.size ok v xs) (E : Ext Non w0 w) (hf : ∀ k, w0.heap.size ≤ k → ok k) (hl : xs.length + t.size ≤ 140737488355328)
    (h : ∀ A n c w', Hid (n = (xs ++ t.data.toList).length) → Hid (Own Kd.u8 5 w' w0.heap.size ok (.slice A n c) (xs ++ t.data.toList)) → Hid (Ext Non w0 w') → w.heap.size ≤ w'.heap.size → wpList Try.prog ops Q rest (a.put o.dst (.slice A n c)) w') : wpList Try.prog ops Q (o :: rest) a w := by
  have hb := G.base_le
  obtain ⟨h0, inner, hown, hr⟩ := G
  have hin : inner = xs.map (fun y => Value.int .u8 y.toNat) := by
    have := Reps.of_flat hr
    rw [flat_map_u8] at this
    exact this
  obtain ⟨i0, hi, hzz⟩ := Option.map_eq_some_iff.1 info5
  simp only [Prod.mk.injEq] at hzz
  obtain ⟨hz0, hz1, hz2⟩ := hzz
  refine Lib.wpList_append_own_string w hgd s x 70 9 ho w0.heap.size 5 i0 Try.underlying70 Try.underlying9 hi hz0 hz1 hz2 v xs.length inner hs hown t hx (by simp only [maxLen]; omega) hl E.size ?_
  intro v' w' h1 h2 _
  have hE : Ext (fun k => some k = v.ownBlock) w w' := ⟨h2.os, h2.tape, h2.output, h2.size, fun k hk hn => h2.block k hk hn⟩
  have hlen : (xs ++ t.data.toList).length = xs.length + t.size := by rw [List.length_append]; rfl
  have hcs : inner ++ Lib.strCells t = (xs ++ t.data.toList).map (fun y => Value.int .u8 y.toNat) := by
    rw [hin, List.map_append]
    rfl
  have O : Own Kd.u8 5 w' w0.heap.size ok v' (xs ++ t.data.toList) := by
    refine ⟨fun k hk => hf k (h1.lt k hk).1, inner ++ Lib.strCells t, by rw [hlen]; exact h1, ?_⟩
    rw [hcs, ← flat_map_u8]
    exact Reps.flat _
  obtain ⟨A, c, rfl, _, _⟩ := O.slice
  exact h A _ c w' rfl O (E.trans hE (fun i hi e => by have := (hb i e.symm).1; omega)) h2.size

set_option maxRecDepth 100000 in
theorem Text_calls {w : World} {ok : Nat → Prop} {A : Option Addr} {n c : Nat} {bs : List UInt8} (H : Rd Kd.u8 w ok (.slice A n c) bs) (t : ByteArray) (hbl : bs.length ≤ 1099511627776) (ht : t.size ≤ 1099511627776) (hf : ∀ k, w.heap.size ≤ k → ok k) :
    Calls Try.prog 84 #[.slice A n c, .string t] w (NumPost ok (bs ++ numB t.size ++ t.data.toList) w) := by
  obtain ⟨A', c', he, hc', hm⟩ := H.slice
  simp only [Value.slice.injEq] at he
  obtain ⟨rfl, rfl, rfl⟩ := he
  have HH := Lib.hid H
  have HF := Lib.hid hf
  clear H hf
  go_enter Try.func84, Try.ntmps84
  go_wp2_with fail
  refine (Number_calls HH.out (t.size : Int) (by omega) (by omega) hbl HF.out).mono ?_
  rintro e w1 ⟨v1, rfl, ho, he⟩
  obtain ⟨A1, N1, c1, rfl, hn1⟩ := (Own.abs8 ho)
  rw [show (t.size : Int).toNat = t.size from by omega] at ho
  have O1 := Lib.hid ho
  have E1 := Lib.hid he
  have hnl := numB_le (m := t.size) (by omega)
  clear ho he hn1
  go_wp2_with (first
    | (at_builtin
       refine app_str (w0 := w) (v := .slice A1 N1 c1) t rfl _ _ rfl rfl rfl O1.out E1.out HF.out (by rw [List.length_append]; omega) ?_
       intro A2 n2 c2 w2 hn2 O2 E2 z2)
    | fail)
  go_ret
  exact ⟨_, rfl, O2.out, E2.out⟩
set_option maxRecDepth 100000 in
theorem TextR_calls {w : World} {ok : Nat → Prop} {A : Option Addr} {n c : Nat} {bs : List UInt8} (H : Rd Kd.u8 w ok (.slice A n c) bs) (t : ByteArray) (hbl : bs.length ≤ 1099511627776) (ht : t.size ≤ 1099511627776) (hf : ∀ k, w.heap.size ≤ k → ok k) :
    Calls Try.prog 69 #[.slice A n c, .string t] w (NumPost ok (bs ++ numB t.size ++ t.data.toList) w) := by
  have HH := Lib.hid H
  have HF := Lib.hid hf
  clear H hf
  go_enter Try.func69, Try.ntmps69
  go_wp2_with fail
  refine (NumberR_calls HH.out (t.size : Int) (by omega) (by omega) hbl HF.out).mono ?_
  rintro e w1 ⟨v1, rfl, ho, he⟩
  obtain ⟨A1, N1, c1, rfl, hn1⟩ := (Own.abs8 ho)
  rw [show (t.size : Int).toNat = t.size from by omega] at ho
  have O1 := Lib.hid ho
  have E1 := Lib.hid he
  have hnl := numB_le (m := t.size) (by omega)
  clear ho he hn1
  go_wp2_with (first
    | (at_builtin
       refine app_str (w0 := w) (v := .slice A1 N1 c1) t rfl _ _ rfl rfl rfl O1.out E1.out HF.out (by rw [List.length_append]; omega) ?_
       intro A2 n2 c2 w2 hn2 O2 E2 z2)
    | fail)
  go_ret
  exact ⟨_, rfl, O2.out, E2.out⟩
end Go.Proofs.Ytdjfijdnhfmeeaa

namespace Go.Proofs.Ytdjfijdnhfmeeaa
open Go.RowKit Go.TM

def rWithin (bs : List UInt8) (a : Nat) (err lo hi : Int) : Int × Nat × Int :=
  if (rNum bs a err).2.2 ≠ 0 then (0, (rNum bs a err).2.1, (rNum bs a err).2.2) else if (rNum bs a err).1 < lo ∨ hi < (rNum bs a err).1 then (0, a, 5) else rNum bs a err
def rText (bs : List UInt8) (a : Nat) (err most : Int) : List UInt8 × Nat × Int :=
  if (rNum bs a err).2.2 ≠ 0 then ([], a, (rNum bs a err).2.2) else if max most 0 < (rNum bs a err).1 then ([], a, 4) else
    if (bs.length : Int) - ((rNum bs a err).2.1 : Int) < (rNum bs a err).1 then ([], a, 2) else ((bs.drop (rNum bs a err).2.1).take (rNum bs a err).1.toNat, (rNum bs a err).2.1 + (rNum bs a err).1.toNat, 0)
def rEnd (bs : List UInt8) (a : Nat) (err : Int) : Int := if err ≠ 0 then err else if a < bs.length then 3 else 0

section
variable {w : World} {ok : Nat → Prop} {g : Nat} {bs : List UInt8} {a : Nat} {err : Int}
set_option maxRecDepth 100000 in
theorem rNum_at (h : (rNum bs a err).2.2 ≠ 0) : (rNum bs a err).2.1 = a ∧ (rNum bs a err).1 = 0 := by
  unfold rNum at h ⊢
  split
  · exact ⟨rfl, rfl⟩
  · split
    · exact ⟨rfl, rfl⟩
    · rename_i h1 h2
      rw [if_neg h1, if_neg h2] at h
      exact absurd rfl h
set_option maxRecDepth 100000 in
theorem rNum_pos (h : (rNum bs a err).2.2 = 0) : bs ≠ [] := by
  rintro rfl
  unfold rNum at h
  split at h
  · rename_i h1
    exact h1 h
  · have : numR (([] : List UInt8).drop a) = (0, 0, 2) := by rw [List.drop_nil]; rfl
    rw [this] at h
    simp at h

set_option maxHeartbeats 1048576 in
set_option maxRecDepth 100000 in
theorem RWithin_calls (hR : RdrAt w ok g bs a err) (hg : ¬ ok g) (ha : a ≤ bs.length) (lo hi : Int) : Calls Try.prog 72 #[.pointer (some ⟨g, 0, none⟩), .int .i64 lo, .int .i64 hi] w (RPost ok g bs w (.int .i64 (rWithin bs a err lo hi).1) (rWithin bs a err lo hi).2) := by
  obtain ⟨v, c0, c1, c2, c3, y1, y2, hr⟩ := hR.cells
  have HR := Lib.hid hR
  obtain ⟨s, hs⟩ : ∃ s, s = rNum bs a err := ⟨_, rfl⟩
  have hw : rWithin bs a err lo hi = if s.2.2 ≠ 0 then (0, s.2.1, s.2.2) else if s.1 < lo ∨ hi < s.1 then (0, a, 5) else s := by rw [hs]; rfl
  have hat : s.2.2 ≠ 0 → s.2.1 = a ∧ s.1 = 0 := by rw [hs]; exact rNum_at
  have HS := Lib.hid hs
  have HW := Lib.hid hw
  have HAT := Lib.hid hat
  clear hR hr hs hw hat
  go_enter Try.func72, Try.ntmps72
  go_wp2_with (first | (go_at_call 77; refine (rdead_at g _ true c3).mono ?_; rintro e w1 ⟨rfl, rfl⟩) | fail)
  refine (RNumber_calls HR.out hg ha).mono ?_
  rw [← HS.out]
  clear HS
  obtain ⟨n, a', e'⟩ := s
  rintro e w1 ⟨rfl, h1, h2⟩
  obtain ⟨v1, d0, d1, d2, d3, z1, z2, hr⟩ := h1.cells
  have R1 := Lib.hid h1
  have E1 := Lib.hid h2
  simp only [] at d1 d2 ⊢
  clear h1 h2 hr c0 c1 c2 c3 y1 y2
  by_cases he : e' = 0
  · subst he
    by_cases hlo : n < lo
    · have hW : rWithin bs a err lo hi = (0, a, 5) := by rw [HW.out]; simp [hlo]
      have HW2 := Lib.hid hW
      clear hW HW HAT
      go_wp2_with fail
      have S := R1.out.set_at hg a
      refine (fail_yes S.1 hg 5).mono ?_
      rintro e w2 ⟨rfl, h3, h4⟩
      obtain ⟨v1, d0, d1, d2, d3, z1, z2, hr⟩ := h3.cells
      have R2 := Lib.hid h3
      have E2 : Hid (Ext (Only g) w w2) := (E1.out.trans S.2 (fun _ _ e => e)).trans h4 (fun _ _ e => e)
      clear h3 h4 S hr
      go_wp2_with fail
      go_ret
      rw [HW2.out]
      exact ⟨rfl, R2.out, E2.out⟩
    · by_cases hhi : hi < n
      · have hW : rWithin bs a err lo hi = (0, a, 5) := by rw [HW.out]; simp [hhi]
        have HW2 := Lib.hid hW
        clear hW HW HAT
        go_wp2_with fail
        have S := R1.out.set_at hg a
        refine (fail_yes S.1 hg 5).mono ?_
        rintro e w2 ⟨rfl, h3, h4⟩
        obtain ⟨v1, d0, d1, d2, d3, z1, z2, hr⟩ := h3.cells
        have R2 := Lib.hid h3
        have E2 : Hid (Ext (Only g) w w2) := (E1.out.trans S.2 (fun _ _ e => e)).trans h4 (fun _ _ e => e)
        clear h3 h4 S hr
        go_wp2_with fail
        go_ret
        rw [HW2.out]
        exact ⟨rfl, R2.out, E2.out⟩
      · have hW : rWithin bs a err lo hi = (n, a', 0) := by rw [HW.out]; simp [hlo, hhi]
        have HW2 := Lib.hid hW
        clear hW HW HAT
        go_wp2_with fail
        go_ret
        rw [HW2.out]
        exact ⟨rfl, R1.out, E1.out⟩
  · have q1 : (e' == 0) = false := by simpa using he
    have q2 : (e' != 0) = true := by simpa using he
    have hW : rWithin bs a err lo hi = (0, a', e') := by rw [HW.out]; simp [he]
    have HW2 := Lib.hid hW
    clear hW HW HAT he
    go_wp2_with fail
    go_ret
    rw [HW2.out]
    exact ⟨rfl, R1.out, E1.out⟩

set_option maxHeartbeats 1048576 in
set_option maxRecDepth 100000 in
theorem RText_calls (hR : RdrAt w ok g bs a err) (hg : ¬ ok g) (ha : a ≤ bs.length) (most : Int) : Calls Try.prog 73 #[.pointer (some ⟨g, 0, none⟩), .int .i64 most] w (RPost ok g bs w (.string ⟨(rText bs a err most).1.toArray⟩) (rText bs a err most).2) := by
  obtain ⟨v, c0, c1, c2, c3, y1, y2, hr⟩ := hR.cells
  have HR := Lib.hid hR
  obtain ⟨s, hs⟩ : ∃ s, s = rNum bs a err := ⟨_, rfl⟩
  have hw : rText bs a err most = if s.2.2 ≠ 0 then ([], a, s.2.2) else if max most 0 < s.1 then ([], a, 4) else
    if (bs.length : Int) - (s.2.1 : Int) < s.1 then ([], a, 2) else ((bs.drop s.2.1).take s.1.toNat, s.2.1 + s.1.toNat, 0) := by rw [hs]; rfl
  have hle := rNum_le (bs := bs) (a := a) (err := err) ha
  have hat : s.2.2 ≠ 0 → s.2.1 = a ∧ s.1 = 0 := by rw [hs]; exact rNum_at
  have hpos : s.2.2 = 0 → bs ≠ [] := by rw [hs]; exact rNum_pos
  rw [← hs] at hle
  have HS := Lib.hid hs
  have HW := Lib.hid hw
  have HAT := Lib.hid hat
  have HPOS := Lib.hid hpos
  have HLE := Lib.hid hle
  have cvn : ∀ w : World, (convert 70 9 (.slice none 0 0)).run Try.prog w = .ok (.string ⟨#[]⟩) w := fun w => conv_rd (Rd.nil Kd.u8 w (fun _ => True))
  clear hR hr hs hw hat hpos hle
  go_enter Try.func73, Try.ntmps73
  go_wp2_with (first | (go_at_call 77; refine (rdead_at g _ true c3).mono ?_; rintro e w1 ⟨rfl, rfl⟩) | fail)
  refine (RNumber_calls HR.out hg ha).mono ?_
  rw [← HS.out]
  clear HS
  obtain ⟨n, a', e'⟩ := s
  rintro e w1 ⟨rfl, h1, h2⟩
  obtain ⟨v1, d0, d1, d2, d3, z1, z2, hr⟩ := h1.cells
  have R1 := Lib.hid h1
  have E1 := Lib.hid h2
  simp only [] at d1 d2 ⊢
  clear h1 h2 hr c0 c1 c2 c3 y1 y2
  by_cases he : e' = 0
  · subst he
    by_cases hlo : max most 0 < n
    · have hW : rText bs a err most = ([], a, 4) := by rw [HW.out]; simp only []; rw [if_neg (by simp), if_pos hlo]
      have HW2 := Lib.hid hW
      have q3 : most < n := by omega
      have q4 : 0 < n := by omega
      clear hW HW HAT hlo
      by_cases hm : most < 0
      · have q5 : ¬ 0 ≤ most := by omega
        go_wp2_with fail
        refine (fail_yes R1.out hg 4).mono ?_
        rintro e w2 ⟨rfl, h3, h4⟩
        have R2 := Lib.hid h3
        have E2 : Hid (Ext (Only g) w w2) := E1.out.trans h4 (fun _ _ e => e)
        clear h3 h4
        go_wp2_with fail
        refine (bytes_bad R2.out (by simp) n).mono ?_
        rintro e w3 ⟨rfl, h3⟩
        have R3 := Lib.hid (R2.out.ext h3)
        have E3 : Hid (Ext (Only g) w w3) := E2.out.trans0 h3
        obtain ⟨v1, d0, d1, d2, d3, z1, z2, hr⟩ := R3.out.cells
        clear h3 hr
        go_wp2_with fail
        go_ret
        have S := R3.out.set_at hg a
        rw [HW2.out]
        exact ⟨rfl, S.1, E3.out.trans S.2 (fun _ _ e => e)⟩
      · go_wp2_with fail
        refine (fail_yes R1.out hg 4).mono ?_
        rintro e w2 ⟨rfl, h3, h4⟩
        have R2 := Lib.hid h3
        have E2 : Hid (Ext (Only g) w w2) := E1.out.trans h4 (fun _ _ e => e)
        clear h3 h4
        go_wp2_with fail
        refine (bytes_bad R2.out (by simp) n).mono ?_
        rintro e w3 ⟨rfl, h3⟩
        have R3 := Lib.hid (R2.out.ext h3)
        have E3 : Hid (Ext (Only g) w w3) := E2.out.trans0 h3
        obtain ⟨v1, d0, d1, d2, d3, z1, z2, hr⟩ := R3.out.cells
        clear h3 hr
        go_wp2_with fail
        go_ret
        have S := R3.out.set_at hg a
        rw [HW2.out]
        exact ⟨rfl, S.1, E3.out.trans S.2 (fun _ _ e => e)⟩
    · have hq : n ≤ most ∨ (most < 0 ∧ n ≤ 0) := by omega
      by_cases hsh : (bs.length : Int) - (a' : Int) < n
      · have hW : rText bs a err most = ([], a, 2) := by rw [HW.out]; simp only []; rw [if_neg (by simp), if_neg hlo, if_pos hsh]
        have HW2 := Lib.hid hW
        have HSH := Lib.hid hsh
        have HLEO := HLE.out
        simp only [] at HLEO
        clear hW HW HAT hlo hsh
        rcases hq with q3 | ⟨q3, q4⟩
        · have q5 : 0 ≤ most := by omega
          go_wp2_with fail
          refine (bytes_short R1.out hg HLEO.1 n HSH.out).mono ?_
          rintro e w2 ⟨rfl, h3, h4⟩
          obtain ⟨v1, d0, d1, d2, d3, z1, z2, hr⟩ := h3.cells
          have R2 := Lib.hid h3
          have E2 : Hid (Ext (Only g) w w2) := E1.out.trans h4 (fun _ _ e => e)
          clear h3 h4 hr
          go_wp2_with fail
          go_ret
          have S := R2.out.set_at hg a
          rw [HW2.out]
          exact ⟨rfl, S.1, E2.out.trans S.2 (fun _ _ e => e)⟩
        · have q5 : ¬ 0 ≤ most := by omega
          have q6 : n = 0 := by omega
          subst q6
          have := HSH.out
          have := HLEO.1
          omega
      · obtain ⟨m, rfl⟩ : ∃ m : Nat, n = (m : Int) := ⟨n.toNat, by have := HLE.out; simp only [] at this; omega⟩
        have hW : rText bs a err most = ((bs.drop a').take m, a' + m, 0) := by rw [HW.out]; simp only []; rw [if_neg (by simp), if_neg hlo, if_neg hsh]; simp
        have HW2 := Lib.hid hW
        have hne := HPOS.out rfl
        have hsh2 : a' + m ≤ bs.length := by omega
        have HLEO := HLE.out
        clear hW HW HAT hlo hsh HLEO
        rcases hq with q3 | ⟨q3, q4⟩
        · have q5 : 0 ≤ most := by omega
          go_wp2_with fail
          refine (bytes_yes R1.out hg m hsh2 hne).mono ?_
          rintro e w2 ⟨v2, rfl, h3, h3', h4⟩
          obtain ⟨A2, n2, c2, rfl, hn2⟩ := (Rd.abs8 h3)
          have cv := conv_rd h3
          obtain ⟨v1, d0, d1, d2, d3, z1, z2, hr⟩ := h3'.cells
          have R2 := Lib.hid h3'
          have E2 : Hid (Ext (Only g) w w2) := E1.out.trans h4 (fun _ _ e => e)
          clear h3 h4 hr hn2 h3'
          go_wp2_with fail
          go_ret
          rw [HW2.out]
          exact ⟨rfl, R2.out, E2.out⟩
        · have q5 : ¬ 0 ≤ most := by omega
          have q6 : m = 0 := by omega
          subst q6
          go_wp2_with fail
          refine (bytes_yes R1.out hg 0 hsh2 hne).mono ?_
          rintro e w2 ⟨v2, rfl, h3, h3', h4⟩
          obtain ⟨A2, n2, c2, rfl, hn2⟩ := (Rd.abs8 h3)
          have cv := conv_rd h3
          obtain ⟨v1, d0, d1, d2, d3, z1, z2, hr⟩ := h3'.cells
          have R2 := Lib.hid h3'
          have E2 : Hid (Ext (Only g) w w2) := E1.out.trans h4 (fun _ _ e => e)
          clear h3 h4 hr hn2 h3'
          go_wp2_with fail
          go_ret
          rw [HW2.out]
          exact ⟨rfl, R2.out, E2.out⟩
  · have q1 : (e' == 0) = false := by simpa using he
    have q2 : (e' != 0) = true := by simpa using he
    have hW : rText bs a err most = ([], a, e') := by rw [HW.out]; simp [he]
    have HW2 := Lib.hid hW
    obtain ⟨ha', hn'⟩ := HAT.out he
    simp only [] at ha' hn'
    subst ha' hn'
    have HE := Lib.hid he
    clear hW HW he
    go_wp2_with fail
    refine (bytes_bad R1.out HE.out 0).mono ?_
    rintro e w3 ⟨rfl, h3⟩
    have R3 := Lib.hid (R1.out.ext h3)
    have E3 : Hid (Ext (Only g) w w3) := E1.out.trans0 h3
    obtain ⟨v1, d0, d1, d2, d3, z1, z2, hr⟩ := R3.out.cells
    clear h3 hr
    go_wp2_with fail
    go_ret
    have S := R3.out.set_at hg a'
    rw [HW2.out]
    exact ⟨rfl, S.1, E3.out.trans S.2 (fun _ _ e => e)⟩
end
end Go.Proofs.Ytdjfijdnhfmeeaa

namespace Go.TM

end Go.TM

namespace Go.Proofs.Ytdjfijdnhfmeeaa
open Go.RowKit Go.TM

end Go.Proofs.Ytdjfijdnhfmeeaa

namespace Go.Proofs.Ytdjfijdnhfmeeaa
open Go.RowKit Go.TM
end Go.Proofs.Ytdjfijdnhfmeeaa

namespace Go.Proofs.Ytdjfijdnhfmeeaa
open Go.RowKit Go.TM
section
variable {w : World} {ok : Nat → Prop} {g : Nat} {bs : List UInt8} {a : Nat} {err : Int}
end
end Go.Proofs.Ytdjfijdnhfmeeaa

