/- Appends of bytes, as steps; slices.Clone, bytes.Equal. -/
import Derived.Test.YtiebnjkjgobklaaP1
import Derived.Laws.IdiomStrings
import Derived.Laws.BytesArg
namespace Go.Proofs.Ytiebnjkjgobklaa
open Go.RowKit Go.TM

/-- An append of bytes to a row of one's own. -/
theorem app8 {w0 w : World} {ops : Array Oper} {rest : List Oper} {o : Oper} {a : Act} {Q : Exit → Act → World → Prop} {ok okY : Nat → Prop} {v vx : Value} {xs ys : List UInt8} (hgd : o.guard = none) (s x : Operand)
    (ho : o.op = .call { callee := .builtin .append, args := #[s, x], argTypes := #[52, 52] }) (hs : a.eval s = v) (hx : a.eval x = vx)
    (G : Own Kd.u8 5 w w0.heap.size ok v xs) (E : Ext Non w0 w) (Y : Rd Kd.u8 w okY vx ys) (hY : ∀ k, okY k → k < w.heap.size → ok k ∧ some k ≠ v.ownBlock) (hf : ∀ k, w0.heap.size ≤ k → ok k) (hl : xs.length + ys.length ≤ 140737488355328)
    (h : ∀ A n c w', Hid (n = (xs ++ ys).length) → Hid (Own Kd.u8 5 w' w0.heap.size ok (.slice A n c) (xs ++ ys)) → Hid (Ext Non w0 w') → w.heap.size ≤ w'.heap.size → Hid (Ext (fun k => some k = v.ownBlock) w w') → wpList Try.prog ops Q rest (a.put o.dst (.slice A n c)) w') : wpList Try.prog ops Q (o :: rest) a w := by
  have hb := G.base_le
  refine wpList_app Kd.u8 (v := v) (vx := vx) (ok := ok) (xs := xs) (ys := ys) w0.heap.size hgd s x 52 5 _ 1 ho Try.underlying52 info5 rfl (by decide) hs hx G (Y.bound.mono fun k hk => hY k hk.1 hk.2) (fun k hk => hf k (Nat.le_trans E.size hk)) (by omega) (by omega) E.size ?_
  intro v' w' hown hext hblk
  obtain ⟨A, c, rfl, _, _⟩ := hown.slice
  exact h A _ c w' rfl hown (E.trans hext (fun i hi e => by have := (hb i e.symm).1; omega)) hext.size hext

/-- .. of bytes that were there at the beginning. -/
theorem app_old {w0 w : World} {ops : Array Oper} {rest : List Oper} {o : Oper} {a : Act} {Q : Exit → Act → World → Prop} {ok : Nat → Prop} {v vx : Value} {xs ys : List UInt8} (hgd : o.guard = none) (s x : Operand)
    (ho : o.op = .call { callee := .builtin .append, args := #[s, x], argTypes := #[52, 52] }) (hs : a.eval s = v) (hx : a.eval x = vx)
    (G : Own Kd.u8 5 w w0.heap.size ok v xs) (E : Ext Non w0 w) (Y : Rd Kd.u8 w0 ok vx ys) (hf : ∀ k, w0.heap.size ≤ k → ok k) (hl : xs.length + ys.length ≤ 140737488355328)
    (h : ∀ A n c w', Hid (n = (xs ++ ys).length) → Hid (Own Kd.u8 5 w' w0.heap.size ok (.slice A n c) (xs ++ ys)) → Hid (Ext Non w0 w') → w.heap.size ≤ w'.heap.size → wpList Try.prog ops Q rest (a.put o.dst (.slice A n c)) w') : wpList Try.prog ops Q (o :: rest) a w :=
  app8 hgd s x ho hs hx G E (Y.bound.ext0 E) (fun k hk _ => ⟨hk.1, fun e => by have := (G.base_le k e.symm).1; have := hk.2; omega⟩) hf hl (fun A n c w' h1 h2 h3 h4 _ => h A n c w' h1 h2 h3 h4)

theorem flat_map_u8 : ∀ (ys : List UInt8), ys.flatMap (fun n : UInt8 => [Value.int .u8 n.toNat]) = ys.map (fun y => Value.int .u8 y.toNat)
  | [] => rfl
  | y :: t => by rw [List.flatMap_cons, flat_map_u8 t, List.map_cons]; rfl
theorem Own.lits {w : World} {ok : Nat → Prop} {base : Nat} (ys : List UInt8) (cs : Array Value) (hcs : cs = (ys.map (fun y => Value.int .u8 y.toNat)).toArray) (hb : base ≤ w.heap.size) (hok : ok w.heap.size) (hl : ys.length ≤ 9223372036854775807) : Own Kd.u8 5 (w.alloc (.cells cs 5)) base ok (.slice (some ⟨w.heap.size, 0, none⟩) ys.length ys.length) ys := by
  subst hcs
  have hr : Reps Kd.u8 w ok ys (ys.map (fun y => Value.int .u8 y.toNat)) := by
    have := Reps.flat (sz := 1) (enc := fun n : UInt8 => [Value.int .u8 n.toNat]) (hl := fun _ => rfl) (h1 := by simp [Value.oneCell']) (w := w) (ok := ok) ys
    rw [flat_map_u8] at this
    exact this
  exact Own.lit (d := Kd.u8) (e := 5) (base := base) hr hb hl hok
theorem Rd.lits {w : World} {ok : Nat → Prop} (ys : List UInt8) (cs : Array Value) (hcs : cs = (ys.map (fun y => Value.int .u8 y.toNat)).toArray) (hok : ok w.heap.size) (hl : ys.length ≤ 9223372036854775807) : Rd Kd.u8 (w.alloc (.cells cs 5)) ok (.slice (some ⟨w.heap.size, 0, none⟩) ys.length ys.length) ys :=
  (Own.lits ys cs hcs (Nat.le_refl _) hok hl).rd

/-- .. of bytes that were written there. -/
theorem app_lit {w0 w : World} {ops : Array Oper} {rest : List Oper} {o : Oper} {a : Act} {Q : Exit → Act → World → Prop} {ok : Nat → Prop} {v : Value} {xs : List UInt8} (ys : List UInt8) {m : Nat} (cs : Array Value) (hm : m = ys.length) (hcs : cs = (ys.map (fun y => Value.int .u8 y.toNat)).toArray) (hgd : o.guard = none) (s x : Operand)
    (ho : o.op = .call { callee := .builtin .append, args := #[s, x], argTypes := #[52, 52] }) (hs : a.eval s = v) (hx : a.eval x = .slice (some ⟨w.heap.size, 0, none⟩) m m)
    (G : Own Kd.u8 5 w w0.heap.size ok v xs) (E : Ext Non w0 w) (hf : ∀ k, w0.heap.size ≤ k → ok k) (hl : xs.length + ys.length ≤ 140737488355328)
    (h : ∀ A n c w', Hid (n = (xs ++ ys).length) → Hid (Own Kd.u8 5 w' w0.heap.size ok (.slice A n c) (xs ++ ys)) → Hid (Ext Non w0 w') → w.heap.size ≤ w'.heap.size → wpList Try.prog ops Q rest (a.put o.dst (.slice A n c)) w') : wpList Try.prog ops Q (o :: rest) a (w.alloc (.cells cs 5)) := by
  subst hm
  refine app8 (w0 := w0) (okY := fun k => k = w.heap.size) hgd s x ho hs hx (G.ext0 ((Ext.refl Non w).alloc _)) (E.alloc _) (Rd.lits ys cs hcs rfl (by omega)) (fun k hk _ => ⟨hf k (by rw [hk]; exact E.size), fun e => by have := (G.base_le k e.symm).2; omega⟩) hf hl (fun A n c w' h1 h2 h3 h4 _ => h A n c w' h1 h2 h3 (by simp at h4; omega))

theorem lit0 {w0 w : World} {ok : Nat → Prop} (E : Ext Non w0 w) (hf : ∀ k, w0.heap.size ≤ k → ok k) : Own Kd.u8 5 (w.alloc (.cells #[] 5)) w0.heap.size ok (.slice (some ⟨w.heap.size, 0, none⟩) 0 0) [] :=
  Own.lit (Reps.nil _ _ _) E.size (by simp) (hf _ E.size)

end Go.Proofs.Ytiebnjkjgobklaa
