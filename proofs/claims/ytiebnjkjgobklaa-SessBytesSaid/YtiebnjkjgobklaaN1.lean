/- Sessions: a table that no call made. -/
import Derived.Test.YtiebnjkjgobklaaS8
namespace Go.Proofs.Ytiebnjkjgobklaa
open Go.RowKit Go.TM

def Dead (w : World) (p : Option Addr) : Prop := p = none ∨ ∃ g, p = some ⟨g, 0, none⟩ ∧ w.cell? ⟨g, 2, none⟩ = some (.bool false)
theorem Dead.ext {w w' : World} {p : Option Addr} (h : Dead w p) (he : Ext Non w w') : Dead w' p := by
  rcases h with h | ⟨g, h, hc⟩
  · exact .inl h
  · exact .inr ⟨g, h, he.cell hc (fun e => e)⟩
theorem dead_dead {w : World} {p : Option Addr} (h : Dead w p) : Calls Try.prog 38 #[.pointer p] w fun e w' => e = .returned (.bool true) ∧ w = w' := by
  rcases h with rfl | ⟨g, rfl, hc⟩
  · exact dead_nil w
  · exact dead_at g w false hc
theorem find_dead {w : World} {p : Option Addr} (h : Dead w p) (n : Int) : Calls Try.prog 35 #[.pointer p, .int .i64 n] w fun e w' => e = .returned (.tuple #[.int .i64 0, .int .i64 6]) ∧ w = w' := by
  have H := Lib.hid h
  clear h
  go_enter Try.func35, Try.ntmps35
  go_wp2_with (go_at_call 38; refine (dead_dead H.out).mono ?_; rintro e w1 ⟨rfl, rfl⟩)
  go_ret2
  exact ⟨rfl, rfl⟩
theorem Open_dead {w : World} {p : Option Addr} (h : Dead w p) : Calls Try.prog 18 #[.pointer p] w fun e w' => e = .returned (.tuple #[.int .i64 0, .int .i64 6]) ∧ w = w' := by
  have H := Lib.hid h
  clear h
  go_enter Try.func18, Try.ntmps18
  go_wp2_with (go_at_call 38; refine (dead_dead H.out).mono ?_; rintro e w1 ⟨rfl, rfl⟩)
  go_ret2
  exact ⟨rfl, rfl⟩
theorem Close_dead {w : World} {p : Option Addr} (h : Dead w p) (n : Int) : Calls Try.prog 20 #[.pointer p, .int .i64 n] w fun e w' => e = .returned (.int .i64 6) ∧ w = w' := by
  have H := Lib.hid h
  clear h
  go_enter Try.func20, Try.ntmps20
  go_wp2_with (go_at_call 35; refine (find_dead H.out n).mono ?_; rintro e w1 ⟨rfl, rfl⟩)
  go_ret
  exact ⟨rfl, rfl⟩
theorem List_dead {w : World} {p : Option Addr} (h : Dead w p) : Calls Try.prog 23 #[.pointer p] w fun e w' => e = .returned (.slice none 0 0) ∧ w = w' := by
  have H := Lib.hid h
  clear h
  go_enter Try.func23, Try.ntmps23
  go_wp2_with (go_at_call 38; refine (dead_dead H.out).mono ?_; rintro e w1 ⟨rfl, rfl⟩)
  go_ret
  exact ⟨rfl, rfl⟩
theorem Put_dead {w : World} {p : Option Addr} (h : Dead w p) (A : Option Addr) (n c : Nat) : Calls Try.prog 27 #[.pointer p, .slice A n c] w fun e w' => e = .returned (.slice A n c) ∧ w = w' := by
  have H := Lib.hid h
  clear h
  go_enter Try.func27, Try.ntmps27
  go_wp2_with (go_at_call 38; refine (dead_dead H.out).mono ?_; rintro e w1 ⟨rfl, rfl⟩)
  go_ret
  exact ⟨rfl, rfl⟩
theorem Ask_dead {w : World} {p : Option Addr} (h : Dead w p) (n seq : Int) : Calls Try.prog 14 #[.pointer p, .int .i64 n, .int .i64 seq] w (AskPost ⟨0, 0, false, 6⟩ w) := by
  have H := Lib.hid h
  clear h
  go_enter Try.func14, Try.ntmps14
  go_wp2_with (go_at_call 35; refine (find_dead (H.out.ext ((Ext.refl Non w).alloc _)) n).mono ?_; rintro e w1 ⟨rfl, rfl⟩)
  refine bodyPost_ret (v := AskR.val ⟨0, 0, false, 6⟩) ?_ rfl ⟨rfl, ?_⟩
  · rw [results14 _ _ w.heap.size 0 0 rfl (by go_simp) (by go_simp)]
    rfl
  · repeat (first | exact Ext.refl _ _ | refine Ext.alloc ?_ _ | refine Ext.setNew ?_ (Nat.le_refl _) _)
theorem Keep_dead {w : World} {p : Option Addr} (h : Dead w p) (n seq re rn : Int) : Calls Try.prog 13 #[.pointer p, .int .i64 n, .int .i64 seq, .agg #[.int .i64 re, .int .i64 rn]] w fun e w' => e = .returned (.int .i64 6) ∧ Ext Non w w' := by
  have H := Lib.hid h
  clear h
  go_enter Try.func13, Try.ntmps13
  go_wp2_with (go_at_call 14; refine (Ask_dead (H.out.ext ((Ext.refl Non w).alloc _)) n seq).mono ?_; rintro e w1 ⟨rfl, he⟩; unfold AskR.val; have HE := Lib.hid (((Ext.refl Non w).alloc _).trans0 he); clear he)
  go_ret
  refine ⟨rfl, ?_⟩
  repeat (first | exact HE.out | refine Ext.alloc ?_ _)
end Go.Proofs.Ytiebnjkjgobklaa
