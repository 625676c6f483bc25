/- wire.Read; Get of the program. -/
import Derived.Test.YtdjfijdnhfmeeaaJ3
namespace Go.Proofs.Ytdjfijdnhfmeeaa
open Go.RowKit Go.TM
theorem Own.tight {w : World} {base : Nat} {ok : Nat → Prop} {v : Value} {xs : List UInt8} (h : Own Kd.u8 5 w base ok v xs) : Own Kd.u8 5 w base (fun k => base ≤ k ∧ k < w.heap.size) v xs := by
  have hb := h.base_le
  obtain ⟨_, inner, ho, hr⟩ := h
  exact ⟨hb, inner, ho, hr.1, fun j x hj => hr.2 j x hj⟩
theorem Rd.any {w : World} {ok : Nat → Prop} {v : Value} {xs : List UInt8} (h : Rd Kd.u8 w ok v xs) : Rd Kd.u8 w (fun _ => True) v xs := h.mono (fun _ _ => trivial)
def WReadPost (bs : List UInt8) (w : World) (e : Ending) (w' : World) : Prop :=
  ∃ g, e = .returned (.pointer (some ⟨g, 0, none⟩)) ∧ w.heap.size ≤ g ∧ g < w'.heap.size ∧ RdrAt w' (fun k => w.heap.size ≤ k ∧ k < g) g bs 0 0 ∧ Ext Non w w'
set_option maxRecDepth 100000 in
theorem WRead_calls {w : World} {ok : Nat → Prop} {A : Option Addr} {n c : Nat} {bs : List UInt8} (H : Rd Kd.u8 w ok (.slice A n c) bs) (hbl : bs.length ≤ 140737488355328) :
    Calls Try.prog 44 #[.slice A n c] w (WReadPost bs w) := by
  have HH := Lib.hid (Rd.any H)
  clear H
  go_enter Try.func44, Try.ntmps44
  go_wp2_with (first
    | (at_builtin
       refine app_old (w0 := w) (ok := fun _ => True) (v := .slice (some ⟨w.heap.size, 0, none⟩) 0 0) (vx := .slice A n c) (xs := []) (ys := bs) rfl _ _ rfl (by simp [Act.eval]) rfl (lit0 (Ext.refl _ _) (fun _ _ => trivial)) ((Ext.refl Non w).alloc _) HH.out (fun _ _ => trivial) (by simp; omega) ?_
       intro A2 n2 c2 w2 hn2 O2 E2 z2)
    | fail)
  go_ret
  refine ⟨_, rfl, E2.out.size, by simp, ⟨_, heap_alloc_new w2 _, ?_⟩, E2.out.alloc _⟩
  exact ((Own.tight O2.out).rd.ext0 ((Ext.refl Non w2).alloc _))
end Go.Proofs.Ytdjfijdnhfmeeaa
