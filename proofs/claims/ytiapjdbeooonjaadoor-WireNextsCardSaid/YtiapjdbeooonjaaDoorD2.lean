/- Appends of bytes, as steps; slices.Clone, bytes.Equal. -/
import Derived.Test.YtiapjdbeooonjaaDoorP1
import Derived.Laws.IdiomStrings
import Derived.Laws.BytesArg
namespace Go.Proofs.YtiapjdbeooonjaaDoor
open Go.RowKit Go.TM

theorem conv_rd {w : World} {ok : Nat → Prop} {A : Option Addr} {n c : Nat} {bs : List UInt8} (h : Rd Kd.u8 w ok (.slice A n c) bs) : (convert 22 9 (.slice A n c)).run Tryd.prog w = .ok (.string ⟨bs.toArray⟩) w := by
  obtain ⟨A', c', he, hc, hm, hr⟩ := h
  simp only [Value.slice.injEq] at he
  obtain ⟨rfl, rfl, rfl⟩ := he
  cases bs with
  | nil =>
    cases A with
    | none => exact run_convert_bytes_nil w 22 5 Tryd.underlying22 Tryd.underlying5 _ _ 9 Tryd.underlying9
    | some a => exact run_convert_bytes_back w 22 9 5 a _ [] Tryd.underlying22 Tryd.underlying5 Tryd.underlying9 (fun j hj => by simp at hj)
  | cons b bs =>
    obtain ⟨g, off, rfl, hg, hlt, hx⟩ := hr (by simp)
    refine run_convert_bytes_back w 22 9 5 _ _ (b :: bs) Tryd.underlying22 Tryd.underlying5 Tryd.underlying9 (fun j hj => ?_)
    obtain ⟨cs, hk, hcs⟩ := hx j _ (List.getElem?_eq_getElem hj)
    have hk' : cs = [Value.int .u8 ((b :: bs)[j]).toNat] := hk
    subst hk'
    have := hcs 0 _ rfl
    have hadd : (⟨g, off, none⟩ : Addr).add j = ⟨g, off + j, none⟩ := by unfold Addr.add; split <;> simp_all
    rw [hadd]
    simpa [Kd.u8, Kd.flat] using this

/-- An append of bytes to a row of one's own. -/
theorem app8 {w0 w : World} {ops : Array Oper} {rest : List Oper} {o : Oper} {a : Act} {Q : Exit → Act → World → Prop} {ok okY : Nat → Prop} {v vx : Value} {xs ys : List UInt8} (hgd : o.guard = none) (s x : Operand)
    (ho : o.op = .call { callee := .builtin .append, args := #[s, x], argTypes := #[22, 22] }) (hs : a.eval s = v) (hx : a.eval x = vx)
    (G : Own Kd.u8 5 w w0.heap.size ok v xs) (E : Ext Non w0 w) (Y : Rd Kd.u8 w okY vx ys) (hY : ∀ k, okY k → k < w.heap.size → ok k ∧ some k ≠ v.ownBlock) (hf : ∀ k, w0.heap.size ≤ k → ok k) (hl : xs.length + ys.length ≤ 140737488355328)
    (h : ∀ A n c w', Hid (n = (xs ++ ys).length) → Hid (Own Kd.u8 5 w' w0.heap.size ok (.slice A n c) (xs ++ ys)) → Hid (Ext Non w0 w') → w.heap.size ≤ w'.heap.size → Hid (Ext (fun k => some k = v.ownBlock) w w') → wpList Tryd.prog ops Q rest (a.put o.dst (.slice A n c)) w') : wpList Tryd.prog ops Q (o :: rest) a w := by
  have hb := G.base_le
  refine wpList_app Kd.u8 (v := v) (vx := vx) (ok := ok) (xs := xs) (ys := ys) w0.heap.size hgd s x 22 5 _ 1 ho Tryd.underlying22 info5 rfl (by decide) hs hx G (Y.bound.mono fun k hk => hY k hk.1 hk.2) (fun k hk => hf k (Nat.le_trans E.size hk)) (by omega) (by omega) E.size ?_
  intro v' w' hown hext hblk
  obtain ⟨A, c, rfl, _, _⟩ := hown.slice
  exact h A _ c w' rfl hown (E.trans hext (fun i hi e => by have := (hb i e.symm).1; omega)) hext.size hext

/-- .. of bytes that were there at the beginning. -/
theorem app_old {w0 w : World} {ops : Array Oper} {rest : List Oper} {o : Oper} {a : Act} {Q : Exit → Act → World → Prop} {ok : Nat → Prop} {v vx : Value} {xs ys : List UInt8} (hgd : o.guard = none) (s x : Operand)
    (ho : o.op = .call { callee := .builtin .append, args := #[s, x], argTypes := #[22, 22] }) (hs : a.eval s = v) (hx : a.eval x = vx)
    (G : Own Kd.u8 5 w w0.heap.size ok v xs) (E : Ext Non w0 w) (Y : Rd Kd.u8 w0 ok vx ys) (hf : ∀ k, w0.heap.size ≤ k → ok k) (hl : xs.length + ys.length ≤ 140737488355328)
    (h : ∀ A n c w', Hid (n = (xs ++ ys).length) → Hid (Own Kd.u8 5 w' w0.heap.size ok (.slice A n c) (xs ++ ys)) → Hid (Ext Non w0 w') → w.heap.size ≤ w'.heap.size → wpList Tryd.prog ops Q rest (a.put o.dst (.slice A n c)) w') : wpList Tryd.prog ops Q (o :: rest) a w :=
  app8 hgd s x ho hs hx G E (Y.bound.ext0 E) (fun k hk _ => ⟨hk.1, fun e => by have := (G.base_le k e.symm).1; have := hk.2; omega⟩) hf hl (fun A n c w' h1 h2 h3 h4 _ => h A n c w' h1 h2 h3 h4)

theorem flat_map_u8 : ∀ (ys : List UInt8), ys.flatMap (fun n : UInt8 => [Value.int .u8 n.toNat]) = ys.map (fun y => Value.int .u8 y.toNat)
  | [] => rfl
  | y :: t => by rw [List.flatMap_cons, flat_map_u8 t, List.map_cons]; rfl
theorem Own.lits {w : World} {ok : Nat → Prop} {base : Nat} (ys : List UInt8) (cs : Array Value) (hcs : cs = (ys.map (fun y => Value.int .u8 y.toNat)).toArray) (hb : base ≤ w.heap.size) (hok : ok w.heap.size) (hl : ys.length ≤ 9223372036854775807) : Own Kd.u8 5 (w.alloc (.cells cs 5)) base ok (.slice (some ⟨w.heap.size, 0, none⟩) ys.length ys.length) ys := by
  subst hcs
  have hr : Reps Kd.u8 w ok ys (ys.map (fun y => Value.int .u8 y.toNat)) := by
    have := Reps.flat (sz := 1) (enc := fun n : UInt8 => [Value.int .u8 n.toNat]) (hl := fun _ => rfl) (h1 := by simp [Value.oneCell']) (w := w) (ok := ok) ys
    rw [flat_map_u8] at this
    exact this
  exact Own.lit (d := Kd.u8) (e := 5) (base := base) hr hb hl hok
theorem Rd.lits {w : World} {ok : Nat → Prop} (ys : List UInt8) (cs : Array Value) (hcs : cs = (ys.map (fun y => Value.int .u8 y.toNat)).toArray) (hok : ok w.heap.size) (hl : ys.length ≤ 9223372036854775807) : Rd Kd.u8 (w.alloc (.cells cs 5)) ok (.slice (some ⟨w.heap.size, 0, none⟩) ys.length ys.length) ys :=
  (Own.lits ys cs hcs (Nat.le_refl _) hok hl).rd

/-- .. of bytes that were written there. -/
theorem app_lit {w0 w : World} {ops : Array Oper} {rest : List Oper} {o : Oper} {a : Act} {Q : Exit → Act → World → Prop} {ok : Nat → Prop} {v : Value} {xs : List UInt8} (ys : List UInt8) {m : Nat} (cs : Array Value) (hm : m = ys.length) (hcs : cs = (ys.map (fun y => Value.int .u8 y.toNat)).toArray) (hgd : o.guard = none) (s x : Operand)
    (ho : o.op = .call { callee := .builtin .append, args := #[s, x], argTypes := #[22, 22] }) (hs : a.eval s = v) (hx : a.eval x = .slice (some ⟨w.heap.size, 0, none⟩) m m)
    (G : Own Kd.u8 5 w w0.heap.size ok v xs) (E : Ext Non w0 w) (hf : ∀ k, w0.heap.size ≤ k → ok k) (hl : xs.length + ys.length ≤ 140737488355328)
    (h : ∀ A n c w', Hid (n = (xs ++ ys).length) → Hid (Own Kd.u8 5 w' w0.heap.size ok (.slice A n c) (xs ++ ys)) → Hid (Ext Non w0 w') → w.heap.size ≤ w'.heap.size → wpList Tryd.prog ops Q rest (a.put o.dst (.slice A n c)) w') : wpList Tryd.prog ops Q (o :: rest) a (w.alloc (.cells cs 5)) := by
  subst hm
  refine app8 (w0 := w0) (okY := fun k => k = w.heap.size) hgd s x ho hs hx (G.ext0 ((Ext.refl Non w).alloc _)) (E.alloc _) (Rd.lits ys cs hcs rfl (by omega)) (fun k hk _ => ⟨hf k (by rw [hk]; exact E.size), fun e => by have := (G.base_le k e.symm).2; omega⟩) hf hl (fun A n c w' h1 h2 h3 h4 _ => h A n c w' h1 h2 h3 (by simp at h4; omega))

theorem lit0 {w0 w : World} {ok : Nat → Prop} (E : Ext Non w0 w) (hf : ∀ k, w0.heap.size ≤ k → ok k) : Own Kd.u8 5 (w.alloc (.cells #[] 5)) w0.heap.size ok (.slice (some ⟨w.heap.size, 0, none⟩) 0 0) [] :=
  Own.lit (Reps.nil _ _ _) E.size (by simp) (hf _ E.size)

theorem Equal_calls {w : World} {ok ok2 : Nat → Prop} {A B : Option Addr} {n m c d : Nat} {xs ys : List UInt8} (H : Rd Kd.u8 w ok (.slice A n c) xs) (K : Rd Kd.u8 w ok2 (.slice B m d) ys) :
    Calls Tryd.prog 20 #[.slice A n c, .slice B m d] w fun e w' => e = .returned (.bool (xs == ys)) ∧ w = w' := by
  have c1 := conv_rd H
  have c2 := conv_rd K
  clear H K
  go_enter Tryd.func20, Tryd.ntmps20
  go_wp2_with fail
  go_ret
  exact ⟨rfl, rfl⟩

theorem Clone_calls {w : World} {ok : Nat → Prop} {A : Option Addr} {n c : Nat} {bs : List UInt8} (H : Rd Kd.u8 w ok (.slice A n c) bs) (hbl : bs.length ≤ 140737488355328) (hf : ∀ k, w.heap.size ≤ k → ok k) :
    Calls Tryd.prog 28 #[.slice A n c] w (NumPost ok bs w) := by
  obtain ⟨A', c', he, hc, hm⟩ := H.slice
  have hq := Lib.run_eql_slice_nil (P := Tryd.prog) w 22 5 A n c 0 0 Tryd.underlying22
  have HH := Lib.hid H
  have HF := Lib.hid hf
  cases A with
  | none =>
    have h0 : bs = [] := by
      obtain ⟨_, inner, _, h⟩ := H.cells_
      rcases Nat.eq_zero_or_pos bs.length with h0 | h0
      · exact List.eq_nil_of_length_eq_zero h0
      · obtain ⟨g, off, h1, _⟩ := h h0
        cases h1
    subst h0
    clear H hf hc hm
    simp at he
    obtain ⟨rfl, rfl, rfl⟩ := he
    simp at hq
    go_enter Tryd.func28, Tryd.ntmps28
    go_wp2_with fail
    go_ret
    exact ⟨_, rfl, Own.nil _ _ _ _ _, Ext.refl _ _⟩
  | some ad =>
    clear H hf he hc hm
    go_enter Tryd.func28, Tryd.ntmps28
    go_wp2_with (at_builtin; refine app_old (w0 := w) (xs := []) rfl _ _ rfl rfl rfl (lit0 (Ext.refl _ _) HF.out) ((Ext.refl Non w).alloc _) HH.out HF.out (by simpa using hbl) ?_; intro A1 n1 c1 w1 hn1 O1 E1 z1)
    go_ret
    exact ⟨_, rfl, by simpa using O1.out, E1.out⟩
end Go.Proofs.YtiapjdbeooonjaaDoor
