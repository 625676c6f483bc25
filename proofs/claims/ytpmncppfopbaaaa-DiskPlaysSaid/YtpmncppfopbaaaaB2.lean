/- fits, own, a plate behind an act. -/
import Derived.Test.YtpmncppfopbaaaaB1
namespace Go.Proofs.Ytpmncppfopbaaaa
open Go.RowKit Go.TM

theorem info74 : (Try.prog.info? 74).map (fun i => (i.zero, i.size, i.bytes)) = some (some (.agg #[.int .i64 0, .slice none 0 0]), actK.sz, 32) := by kernel_rfl
theorem info43 : (Try.prog.info? 43).map (fun i => (i.zero, i.size, i.bytes)) = some (some (.agg #[.int .i64 0, .int .i64 0, .int .i64 0, .int .i64 0, .slice none 0 0]), callK.sz, 56) := by kernel_rfl
theorem fits_calls {w : World} {ok : Nat → Prop} {g : Nat} {d : Dk} (H : DiskAt w ok g d) (hG : d.Good) {more : Int} (_hm : -140737488355328 ≤ more ∧ more ≤ 140737488355328) :
    Calls Try.prog 52 #[.pointer (some ⟨g, 0, none⟩), .int .i64 more] w fun e w' => e = .returned (.bool (d.fits more)) ∧ Ext Non w w' := by
  have hu := hG.used
  have hr := hG.room
  have HH := Lib.hid H
  have HG := Lib.hid hG
  obtain ⟨a0, a1, a2, b0, b1, b2, wv, hb, _⟩ := H
  have e7 := blk_cell hb 7
  have e7' : w.drew.cell? ⟨g, 7, none⟩ = some (.int .i64 d.room) := by simpa using e7
  simp at e7
  unfold Dk.fits
  obtain ⟨U, hU⟩ : ∃ U : Int, U = (d.now.used : Int) := ⟨_, rfl⟩
  obtain ⟨R, hR⟩ : ∃ R : Int, R = d.room := ⟨_, rfl⟩
  have HUU := Lib.hid hU
  rw [← hU] at hu ⊢
  rw [← hR] at hu hr e7 e7' ⊢
  have hU0 : 0 ≤ U := by omega
  clear hb hG hU hR
  have HD : Hid (DiskAt w.drew ok g d) := HH.out
  have qw : IntKind.i64.wrap (R - U) = R - U := IntWalk.i64_in _ (by omega)
  go_enter Try.func52, Try.ntmps52
  go_wp2_with fail
  go_region_held3 (fun W => W.cell? ⟨g, 7, none⟩ = some (.int .i64 R)) (first | assumption | exact e7') (first
    | (go_at_call 24
       refine (Used_calls HD.out HG.out).mono ?_
       rintro e w2 ⟨rfl, he⟩
       have E2 : Hid (Ext Non w w2) := (Ext.drew (Ext.refl _ _)).trans0 he
       have e7' := he.cell e7' (fun e => e)
       rw [← HUU.out]
       clear he)
    | fail)
  go_wp2_with fail
  go_ret
  exact ⟨rfl, E2.out⟩

def OwnPost (b : List UInt8) (w : World) (e : Ending) (w' : World) : Prop :=
  ∃ A n c, e = .returned (.slice A n c) ∧ Hid (Own Kd.u8 5 w' w.heap.size (fun k => w.heap.size ≤ k ∧ k < w'.heap.size) (.slice A n c) b) ∧ Hid (Ext Non w w')
theorem Own.tight {w : World} {base : Nat} {ok : Nat → Prop} {v : Value} {xs : List UInt8} (h : Own Kd.u8 5 w base ok v xs) : Own Kd.u8 5 w base (fun k => base ≤ k ∧ k < w.heap.size) v xs := by
  have hb := h.base_le
  obtain ⟨_, inner, ho, hr⟩ := h
  exact ⟨hb, inner, ho, hr.1, fun j x hj => hr.2 j x hj⟩
theorem app_own {w0 w : World} {ops : Array Oper} {rest : List Oper} {o : Oper} {a : Act} {Q : Exit → Act → World → Prop} {ok : Nat → Prop} {vx : Value} {xs ys : List UInt8} {v : Value} (hgd : o.guard = none) (s x : Operand)
    (ho : o.op = .call { callee := .builtin .append, args := #[s, x], argTypes := #[30, 30] }) (hs : a.eval s = v) (hx : a.eval x = vx)
    (G : Own Kd.u8 5 w w0.heap.size (fun _ => True) v xs) (E : Ext Non w0 w) (Y : Rd Kd.u8 w0 ok vx ys) (hl : xs.length + ys.length ≤ 140737488355328)
    (h : ∀ A n c w', Hid (n = (xs ++ ys).length) → Hid (Own Kd.u8 5 w' w0.heap.size (fun _ => True) (.slice A n c) (xs ++ ys)) → Hid (Ext Non w0 w') → wpList Try.prog ops Q rest (a.put o.dst (.slice A n c)) w') : wpList Try.prog ops Q (o :: rest) a w := by
  have hb := G.base_le
  refine wpList_app Kd.u8 (v := v) (vx := vx) (ok := fun _ => True) (xs := xs) (ys := ys) w0.heap.size hgd s x 30 5 _ 1 ho Try.underlying30 info5 rfl (by decide) hs hx G ((Y.bound.ext0 E).mono fun k hk => ⟨trivial, fun e => by have := (hb k e.symm).1; have := hk.2; omega⟩) (fun k hk => trivial) (by omega) (by omega) E.size ?_
  intro v' w' hown hext hblk
  obtain ⟨A, c, rfl, _, _⟩ := hown.slice
  exact h A _ c w' rfl hown (E.trans hext (fun i hi e => by have := (hb i e.symm).1; omega))
theorem lit0 {w0 w : World} (E : Ext Non w0 w) : Own Kd.u8 5 (w.alloc (.cells #[] 5)) w0.heap.size (fun _ => True) (.slice (some ⟨w.heap.size, 0, none⟩) 0 0) [] :=
  Own.lit (Reps.nil _ _ _) E.size (by simp) trivial
theorem own_calls {w : World} {ok : Nat → Prop} {A : Option Addr} {n c : Nat} {bs : List UInt8} (H : Rd Kd.u8 w ok (.slice A n c) bs) (hbl : bs.length ≤ 140737488355328) :
    Calls Try.prog 50 #[.slice A n c] w (OwnPost bs w) := by
  have HH := Lib.hid H
  clear H
  go_enter Try.func50, Try.ntmps50
  go_wp2_with (at_builtin; refine app_own (w0 := w) (xs := []) rfl _ _ rfl rfl rfl (lit0 (Ext.refl _ _)) ((Ext.refl Non w).alloc _) HH.out (by simpa using hbl) ?_; intro A1 n1 c1 w1 hn1 O1 E1)
  go_ret
  exact ⟨A1, n1, c1, rfl, Own.tight (by simpa using O1.out), E1⟩

end Go.Proofs.Ytpmncppfopbaaaa
