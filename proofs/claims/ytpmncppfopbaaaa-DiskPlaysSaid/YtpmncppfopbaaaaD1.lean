/- Several disks; lists of calls copied and lengthened. -/
import Derived.Test.YtpmncppfopbaaaaC8
import Derived.Lib.SmallJoins
namespace Go.Proofs.Ytpmncppfopbaaaa
open Go.RowKit Go.TM

theorem Live.other {w w' : World} {ok : Nat → Prop} {g g' : Nat} {d : Dk} (h : Live w ok g d) (he : Ext (Only g') w w') (hne : g ≠ g' ∧ ¬ ok g') : Live w' ok g d := by
  have hm : ∀ k, ok k → k < w.heap.size → ¬ Only g' k := fun k hk _ e => hne.2 (by have e' : k = g' := e; rw [← e']; exact hk)
  refine ⟨?_, h.good, fun k hk => h.fresh k (Nat.le_trans he.size hk), h.out, h.wl⟩
  obtain ⟨a0, a1, a2, b0, b1, b2, wv, hb, r0, r1, r2, r3, r4, r5, r6⟩ := h.at_
  exact ⟨a0, a1, a2, b0, b1, b2, wv, he.obj hb hne.1, r0.ext he hm, r1.ext he hm, r2.ext he hm, r3.ext he hm, r4.ext he hm, r5.ext he hm, r6.ext he hm⟩
abbrev Four (a b x y : Nat) : Nat → Prop := fun k => k = a ∨ k = b ∨ k = x ∨ k = y
abbrev Free (a b x y : Nat) : Nat → Prop := fun k => k ≠ a ∧ k ≠ b ∧ k ≠ x ∧ k ≠ y
theorem Live.of {w : World} {ok ok' : Nat → Prop} {g : Nat} {d : Dk} (h : DiskAt w ok g d) (hg : d.Good) (hw : d.wait.length ≤ 100000000) (hok : ∀ k, ok k → k < w.heap.size → ok' k) (hf : ∀ k, w.heap.size ≤ k → ok' k) (ho : ¬ ok' g) : Live w ok' g d :=
  ⟨h.sub hok, hg, hf, ho, hw⟩
theorem _root_.Go.TM.Dk.run_append (d : Dk) (l m : List TM.Call) : d.run (l ++ m) = (d.run l).run m := List.foldl_append ..
theorem fine_append {l m : List TM.Call} (hl : l.length ≤ 200 ∧ ∀ k ∈ l, k.b.length ≤ 32768) (hm : m.length ≤ 200 ∧ ∀ k ∈ m, k.b.length ≤ 32768) (h1 : ∀ k ∈ l, k.Ok) (h2 : ∀ k ∈ m, k.Ok) : Fine (l ++ m) :=
  ⟨by rw [List.length_append]; omega, fun k hk => (List.mem_append.1 hk).elim (fun h => by have := hl.2 k h; omega) (fun h => by have := hm.2 k h; omega), fun k hk => (List.mem_append.1 hk).elim (h1 k) (h2 k)⟩
theorem app_dos {w0 w : World} {ops : Array Oper} {rest : List Oper} {o : Oper} {a : Act} {Q : Exit → Act → World → Prop} {ok : Nat → Prop} {vx : Value} {xs ys : List TM.Call} {v : Value} (hgd : o.guard = none) (s x : Operand)
    (ho : o.op = .call { callee := .builtin .append, args := #[s, x], argTypes := #[22, 22] }) (hs : a.eval s = v) (hx : a.eval x = vx)
    (G : Own callK 43 w w0.heap.size (fun _ => True) v xs) (E : Ext Non w0 w) (Y : Rd callK w0 ok vx ys) (hl : xs.length + ys.length ≤ 1000000)
    (h : ∀ A n c w', Hid (n = (xs ++ ys).length) → Hid (Own callK 43 w' w0.heap.size (fun _ => True) (.slice A n c) (xs ++ ys)) → Hid (Ext Non w0 w') → wpList Try.prog ops Q rest (a.put o.dst (.slice A n c)) w') : wpList Try.prog ops Q (o :: rest) a w := by
  have hb := G.base_le
  refine wpList_app callK (v := v) (vx := vx) (ok := fun _ => True) (xs := xs) (ys := ys) w0.heap.size hgd s x 22 43 _ 56 ho Try.underlying22 info43 rfl (by decide) hs hx G ((Y.bound.ext0 E).mono fun k hk => ⟨trivial, fun e => by have := (hb k e.symm).1; have := hk.2; omega⟩) (fun k hk => trivial) (by omega) (by omega) E.size ?_
  intro v' w' hown hext hblk
  obtain ⟨A, c, rfl, _, _⟩ := hown.slice
  exact h A _ c w' rfl hown (E.trans hext (fun i hi e => by have := (hb i e.symm).1; omega))
theorem lit0_dos {w0 w : World} (E : Ext Non w0 w) : Own callK 43 (w.alloc (.cells #[] 43)) w0.heap.size (fun _ => True) (.slice (some ⟨w.heap.size, 0, none⟩) 0 0) [] :=
  Own.lit (Reps.nil _ _ _) E.size (by simp) trivial
def OwnDos (l : List TM.Call) (w : World) (e : Ending) (w' : World) : Prop :=
  ∃ A n c, e = .returned (.slice A n c) ∧ Hid (Own callK 43 w' w.heap.size (fun _ => True) (.slice A n c) l) ∧ Hid (Ext Non w w')
theorem cloneD_calls {w : World} {ok : Nat → Prop} {A : Option Addr} {n c : Nat} {l : List TM.Call} (H : Rd callK w ok (.slice A n c) l) (hl : l.length ≤ 1000000) :
    Calls Try.prog 43 #[.slice A n c] w (OwnDos l w) := by
  obtain ⟨A', c', he, hc, hm⟩ := H.slice
  have hq := Lib.run_eql_slice_nil (P := Try.prog) w 22 43 A n c 0 0 Try.underlying22
  have HH := Lib.hid H
  cases A with
  | none =>
    have h0 : l = [] := by
      obtain ⟨_, inner, _, h⟩ := H.cells_
      rcases Nat.eq_zero_or_pos l.length with h0 | h0
      · exact List.eq_nil_of_length_eq_zero h0
      · obtain ⟨g, off, h1, _⟩ := h h0
        cases h1
    subst h0
    clear H hc hm
    simp at he
    obtain ⟨rfl, rfl, rfl⟩ := he
    simp at hq
    go_enter Try.func43, Try.ntmps43
    go_wp2_with fail
    go_ret
    exact ⟨_, _, _, rfl, Own.nil _ _ _ _ _, Ext.refl _ _⟩
  | some ad =>
    clear H he hc hm
    go_enter Try.func43, Try.ntmps43
    go_wp2_with (at_builtin; refine app_dos (w0 := w) (xs := []) rfl _ _ rfl rfl rfl (lit0_dos (Ext.refl _ _)) ((Ext.refl Non w).alloc _) HH.out (by simpa using hl) ?_; intro A1 n1 c1 w1 hn1 O1 E1)
    go_ret
    exact ⟨_, _, _, rfl, Lib.hid (by simpa using O1.out), E1⟩
end Go.Proofs.Ytpmncppfopbaaaa
