/- wire.Reader: its small functions. -/
import Derived.Test.YtiebnjkjgobklaaProg
import Derived.Test.YtiebnjkjgobklaaR7
namespace Go.Proofs.Ytiebnjkjgobklaa
open Go.RowKit Go.TM

/-- A reader: bytes, a place, the first error. -/
def RdrAt (w : World) (ok : Nat → Prop) (g : Nat) (bs : List UInt8) (at' : Nat) (err : Int) : Prop :=
  ∃ v, w.heap[g]? = some (.cells #[v, .int .i64 (at' : Int), .int .i64 err, .bool true] 77 (0, 0)) ∧ Rd Kd.u8 w ok v bs

theorem RdrAt.ext {w w' : World} {ok : Nat → Prop} {g : Nat} {bs : List UInt8} {a : Nat} {err : Int} (h : RdrAt w ok g bs a err) (he : Ext Non w w') : RdrAt w' ok g bs a err := by
  obtain ⟨v, hb, hr⟩ := h
  exact ⟨v, he.obj hb (fun e => e), hr.ext0 he⟩
theorem RdrAt.only {w w' : World} {ok : Nat → Prop} {g q : Nat} {bs : List UInt8} {a : Nat} {err : Int} (h : RdrAt w ok g bs a err) (he : Ext (Only q) w w') (hq : ¬ ok q) (hne : g ≠ q) : RdrAt w' ok g bs a err := by
  obtain ⟨v, hb, hr⟩ := h
  exact ⟨v, he.obj hb hne, hr.ext he (fun k hk _ e => hq (e ▸ hk))⟩

theorem rdead_nil (w : World) : Calls Try.prog 45 #[.pointer none] w fun e w' => e = .returned (.bool true) ∧ w = w' := by
  go_enter Try.func45, Try.ntmps45
  go_wp2
  go_ret
  exact ⟨rfl, rfl⟩
theorem rdead_at (g : Nat) (w : World) (b : Bool) (h3 : w.cell? ⟨g, 3, none⟩ = some (.bool b)) : Calls Try.prog 45 #[.pointer (some ⟨g, 0, none⟩)] w fun e w' => e = .returned (.bool (!b)) ∧ w = w' := by
  go_enter Try.func45, Try.ntmps45
  go_wp2
  go_ret
  exact ⟨rfl, rfl⟩

section
variable {w : World} {ok : Nat → Prop} {g : Nat} {bs : List UInt8} {a : Nat} {err : Int}

theorem fail_no (hR : RdrAt w ok g bs a err) (h : err ≠ 0) (n : Int) : Calls Try.prog 51 #[.pointer (some ⟨g, 0, none⟩), .int .i64 n] w fun e w' => e = .returned (.tuple #[]) ∧ w = w' := by
  obtain ⟨v, hb, hr⟩ := hR
  have c2 := blk_cell hb 2
  simp at c2
  clear hb hr
  go_enter Try.func51, Try.ntmps51
  go_wp2_with fail
  refine bodyPost_end (results_none rfl _ _ _) rfl ?_
  exact ⟨rfl, rfl⟩
theorem fail_yes (hR : RdrAt w ok g bs a 0) (hg : ¬ ok g) (n : Int) : Calls Try.prog 51 #[.pointer (some ⟨g, 0, none⟩), .int .i64 n] w fun e w' => e = .returned (.tuple #[]) ∧ RdrAt w' ok g bs a n ∧ Ext (Only g) w w' := by
  obtain ⟨v, hb, hr⟩ := hR
  have c2 := blk_cell hb 2
  have y2 := blk_frozen hb 2
  simp at c2
  have HB := Lib.hid hb
  have HR := Lib.hid hr
  clear hb hr
  go_enter Try.func51, Try.ntmps51
  go_wp2_with fail
  refine bodyPost_end (results_none rfl _ _ _) rfl ?_
  have HE : Ext (Only g) w (w.setCell ⟨g, 2, none⟩ (.int .i64 n)) := (Ext.refl (Only g) w).setCell (p := ⟨g, 2, none⟩) (fun _ => rfl) _
  refine ⟨rfl, ⟨v, by simpa using blk_set HB.out 2 (.int .i64 n), HR.out.ext HE (fun k hk _ e => hg (e ▸ hk))⟩, HE⟩
theorem Left_calls (hR : RdrAt w ok g bs a err) (ha : a ≤ bs.length) : Calls Try.prog 32 #[.pointer (some ⟨g, 0, none⟩)] w fun e w' => e = .returned (.int .i64 ((bs.length - a : Nat) : Int)) ∧ Ext Non w w' := by
  obtain ⟨v, hb, hr⟩ := hR
  obtain ⟨A, c, rfl, hc, hm⟩ := hr.slice
  have c0 := blk_cell hb 0
  have c1 := blk_cell hb 1
  have c3 := blk_cell hb 3
  simp at c0 c1 c3
  clear hb hr
  have q : ((bs.length - a : Nat) : Int) = (bs.length : Int) - (a : Int) := by omega
  rw [q]
  clear q
  go_enter Try.func32, Try.ntmps32
  go_wp2_with (first | (go_at_call 45; refine (rdead_at g _ true c3).mono ?_; rintro e w1 ⟨rfl, rfl⟩) | fail)
  go_region
  go_wp2_with fail
  go_ret
  exact ⟨rfl, (Ext.refl _ _).drew⟩
theorem Err_calls (hR : RdrAt w ok g bs a err) : Calls Try.prog 42 #[.pointer (some ⟨g, 0, none⟩)] w fun e w' => e = .returned (.int .i64 err) ∧ w = w' := by
  obtain ⟨v, hb, hr⟩ := hR
  have c2 := blk_cell hb 2
  have c3 := blk_cell hb 3
  simp at c2 c3
  clear hb hr
  go_enter Try.func42, Try.ntmps42
  go_wp2_with (first | (go_at_call 45; refine (rdead_at g _ true c3).mono ?_; rintro e w1 ⟨rfl, rfl⟩) | fail)
  go_ret
  exact ⟨rfl, rfl⟩

theorem bytes_bad (hR : RdrAt w ok g bs a err) (h : err ≠ 0) (n : Int) : Calls Try.prog 54 #[.pointer (some ⟨g, 0, none⟩), .int .i64 n] w fun e w' => e = .returned (.slice none 0 0) ∧ Ext Non w w' := by
  obtain ⟨v, hb, hr⟩ := hR
  obtain ⟨A, c, rfl, hc, hm⟩ := hr.slice
  have c0 := blk_cell hb 0
  have c1 := blk_cell hb 1
  have c2 := blk_cell hb 2
  simp at c0 c1 c2
  have q : (err == 0) = false := by simpa using h
  have q' : (err != 0) = true := by simpa using h
  clear hb hr h
  go_enter Try.func54, Try.ntmps54
  go_wp2_with fail
  go_region
  go_wp2_with fail
  go_ret
  exact ⟨rfl, (Ext.refl _ _).drew⟩

theorem bytes_short (hR : RdrAt w ok g bs a 0) (hg : ¬ ok g) (ha : a ≤ bs.length) (n : Int) (hn : (bs.length : Int) - a < n) : Calls Try.prog 54 #[.pointer (some ⟨g, 0, none⟩), .int .i64 n] w fun e w' => e = .returned (.slice none 0 0) ∧ RdrAt w' ok g bs a 2 ∧ Ext (Only g) w w' := by
  have HR := Lib.hid hR
  obtain ⟨v, hb, hr⟩ := hR
  obtain ⟨A, c, rfl, hc, hm⟩ := hr.slice
  have c0 := blk_cell hb 0
  have c1 := blk_cell hb 1
  have c2 := blk_cell hb 2
  simp at c0 c1 c2
  clear hb hr
  go_enter Try.func54, Try.ntmps54
  go_wp2_with fail
  go_region
  go_wp2_with fail
  refine (fail_yes (HR.out.ext (Ext.refl Non w).drew) hg 2).mono ?_
  rintro e w1 ⟨rfl, h1, h2⟩
  have R1 := Lib.hid h1
  have E1 : Hid (Ext (Only g) w w1) := (Ext.refl Non w).drew.of0.trans h2 (fun _ _ e => e)
  obtain ⟨v1, hb, hr⟩ := h1
  have c2 := blk_cell hb 2
  simp at c2
  clear hb hr h2 c0 c1
  go_wp2_with fail
  go_ret
  exact ⟨rfl, R1.out, E1.out⟩

theorem bytes_yes (hR : RdrAt w ok g bs a 0) (hg : ¬ ok g) (m : Nat) (hn : a + m ≤ bs.length) (h0 : bs ≠ []) : Calls Try.prog 54 #[.pointer (some ⟨g, 0, none⟩), .int .i64 (m : Int)] w fun e w' => ∃ v, e = .returned v ∧ Rd Kd.u8 w' ok v ((bs.drop a).take m) ∧ RdrAt w' ok g bs (a + m) 0 ∧ Ext (Only g) w w' := by
  have HR := Lib.hid hR
  obtain ⟨v, hb, hr⟩ := hR
  obtain ⟨A, c, rfl, hc, hm⟩ := hr.slice
  have c0 := blk_cell hb 0
  have c1 := blk_cell hb 1
  have c2 := blk_cell hb 2
  have y1 := blk_frozen hb 1
  simp at c0 c1 c2
  have hlt := blk_lt hb
  have HRR := Lib.hid hr
  have HB := Lib.hid hb
  obtain ⟨gs, off, rfl⟩ : ∃ gs off, A = some ⟨gs, off, none⟩ := by
    obtain ⟨A', c', he, _, _, hx⟩ := hr
    simp only [Value.slice.injEq] at he
    obtain ⟨rfl, _, rfl⟩ := he
    obtain ⟨g', off', he, _⟩ := hx (List.length_pos_iff.2 h0)
    exact ⟨g', off', he⟩
  clear hb hr
  go_enter Try.func54, Try.ntmps54
  go_wp2_with fail
  go_region
  go_wp2_with fail
  have hb3 := blk_drew (blk_set HB.out 1 (.int .i64 ((a : Int) + (m : Int))))
  simp only [List.setIfInBounds_toArray, List.set_cons_succ, List.set_cons_zero] at hb3
  have E3 : Hid (Ext (Only g) w (w.setCell ⟨g, 1, none⟩ (.int .i64 ((a : Int) + (m : Int)))).drew) := ((Ext.refl (Only g) w).setCell (p := ⟨g, 1, none⟩) (fun _ => rfl) _).drew
  have HRR3 := Lib.hid (HRR.out.ext E3.out (fun k hk _ e => hg (e ▸ hk)))
  generalize (w.setCell ⟨g, 1, none⟩ (.int .i64 ((a : Int) + (m : Int)))).drew = w3 at hb3 E3 HRR3 ⊢
  have c0 := blk_cell hb3 0
  have c1 := blk_cell hb3 1
  simp at c0 c1
  have HB3 := Lib.hid hb3
  clear hb3
  have E4 : Ext Non w3 w3.drew := (Ext.refl Non w3).drew
  have r1 := ((HRR3.out.ext0 E4).take (k := a + m) (by omega)).drop (k := a) (by rw [List.length_take]; omega)
  have e1 : (bs.take (a + m)).drop a = (bs.drop a).take m := by rw [List.drop_take]; congr 1; omega
  rw [e1, show a * Kd.u8.sz = a from Nat.mul_one a] at r1
  go_region
  generalize (if c = a then some (⟨gs, off, none⟩ : Addr) else some ⟨gs, off + a, none⟩) = A9 at r1 ⊢
  have R1 := Lib.hid r1
  clear r1
  go_wp2_with fail
  go_ret
  refine ⟨_, rfl, R1.out, ⟨_, ?_, HRR3.out.ext0 E4⟩, E3.out.trans0 E4⟩
  have := HB3.out
  rw [← Int.natCast_add] at this
  exact this
end
end Go.Proofs.Ytiebnjkjgobklaa
