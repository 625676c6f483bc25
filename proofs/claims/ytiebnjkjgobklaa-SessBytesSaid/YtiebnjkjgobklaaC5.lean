/- The document's reader. -/
import Derived.Test.YtiebnjkjgobklaaC4
namespace Go.Proofs.Ytiebnjkjgobklaa
open Go.RowKit Go.TM
/-- The document's reader: bytes, a place, the first error. -/
def RrAt (w : World) (ok : Nat → Prop) (g : Nat) (bs : List UInt8) (at' : Nat) (err : Int) : Prop :=
  ∃ v, w.heap[g]? = some (.cells #[v, .int .i64 (at' : Int), .int .i64 err] 63 (0, 0)) ∧ Rd Kd.u8 w ok v bs
section
variable {w : World} {ok : Nat → Prop} {g : Nat} {bs : List UInt8} {a : Nat} {err : Int}
theorem RrAt.ext {w' : World} (h : RrAt w ok g bs a err) (he : Ext Non w w') : RrAt w' ok g bs a err := by
  obtain ⟨v, hb, hr⟩ := h
  exact ⟨v, he.obj hb (fun e => e), hr.ext0 he⟩
theorem RrAt.only {w' : World} {q : Nat} (h : RrAt w ok g bs a err) (he : Ext (Only q) w w') (hq : ¬ ok q) (hne : g ≠ q) : RrAt w' ok g bs a err := by
  obtain ⟨v, hb, hr⟩ := h
  exact ⟨v, he.obj hb hne, hr.ext he (fun k hk _ e => hq (e ▸ hk))⟩
theorem RrAt.cells (hR : RrAt w ok g bs a err) : ∃ v, w.cell? ⟨g, 0, none⟩ = some v ∧ w.cell? ⟨g, 1, none⟩ = some (.int .i64 (a : Int)) ∧ w.cell? ⟨g, 2, none⟩ = some (.int .i64 err) ∧ w.frozen? ⟨g, 1, none⟩ = false ∧ w.frozen? ⟨g, 2, none⟩ = false ∧ Rd Kd.u8 w ok v bs := by
  obtain ⟨v, hb, hr⟩ := hR
  exact ⟨v, by simpa using blk_cell hb 0, by simpa using blk_cell hb 1, by simpa using blk_cell hb 2, blk_frozen hb 1, blk_frozen hb 2, hr⟩
theorem RrAt.set_at (hR : RrAt w ok g bs a err) (hg : ¬ ok g) (b : Nat) : RrAt (w.setCell ⟨g, 1, none⟩ (.int .i64 (b : Int))) ok g bs b err ∧ Ext (Only g) w (w.setCell ⟨g, 1, none⟩ (.int .i64 (b : Int))) := by
  obtain ⟨v, hb, hr⟩ := hR
  have HE : Ext (Only g) w (w.setCell ⟨g, 1, none⟩ (.int .i64 (b : Int))) := (Ext.refl (Only g) w).setCell (p := ⟨g, 1, none⟩) (fun _ => rfl) _
  exact ⟨⟨v, by simpa using blk_set hb 1 (.int .i64 (b : Int)), hr.ext HE (fun k hk _ e => hg (e ▸ hk))⟩, HE⟩
theorem RrAt.set_err (hR : RrAt w ok g bs a err) (hg : ¬ ok g) (b : Int) : RrAt (w.setCell ⟨g, 2, none⟩ (.int .i64 b)) ok g bs a b ∧ Ext (Only g) w (w.setCell ⟨g, 2, none⟩ (.int .i64 b)) := by
  obtain ⟨v, hb, hr⟩ := hR
  have HE : Ext (Only g) w (w.setCell ⟨g, 2, none⟩ (.int .i64 b)) := (Ext.refl (Only g) w).setCell (p := ⟨g, 2, none⟩) (fun _ => rfl) _
  exact ⟨⟨v, by simpa using blk_set hb 2 (.int .i64 b), hr.ext HE (fun k hk _ e => hg (e ▸ hk))⟩, HE⟩

def RrPost (ok : Nat → Prop) (g : Nat) (bs : List UInt8) (w : World) (v : Value) (s : Nat × Int) (e : Ending) (w' : World) : Prop :=
  e = .returned v ∧ RrAt w' ok g bs s.1 s.2 ∧ Ext (Only g) w w'

theorem on_bad (hR : RrAt w ok g bs a err) (hg : ¬ ok g) (k e0 : Int) (he : e0 ≠ 0) : Calls Try.prog 53 #[.pointer (some ⟨g, 0, none⟩), .int .i64 k, .int .i64 e0] w (RrPost ok g bs w (.bool false) (a, e0)) := by
  obtain ⟨v, c0, c1, c2, y1, y2, hr⟩ := hR.cells
  have S := hR.set_err hg e0
  have q : (e0 != 0) = true := by simpa using he
  have HS := Lib.hid S
  clear hR hr S he
  go_enter Try.func53, Try.ntmps53
  go_wp2_with fail
  go_ret
  exact ⟨rfl, HS.out.1, HS.out.2⟩
theorem on_ok (hR : RrAt w ok g bs a err) (hg : ¬ ok g) (m : Nat) (hm : a + m ≤ 9223372036854775807) : Calls Try.prog 53 #[.pointer (some ⟨g, 0, none⟩), .int .i64 (m : Int), .int .i64 0] w (RrPost ok g bs w (.bool true) (a + m, err)) := by
  obtain ⟨v, c0, c1, c2, y1, y2, hr⟩ := hR.cells
  have S := hR.set_at hg (a + m)
  rw [Int.natCast_add] at S
  have HS := Lib.hid S
  clear hR hr S
  go_enter Try.func53, Try.ntmps53
  go_wp2_with fail
  go_ret
  exact ⟨rfl, HS.out.1, HS.out.2⟩

theorem RrLeft_calls (hR : RrAt w ok g bs a err) (ha : a ≤ bs.length) : Calls Try.prog 33 #[.pointer (some ⟨g, 0, none⟩)] w fun e w' => e = .returned (.int .i64 ((bs.length - a : Nat) : Int)) ∧ Ext Non w w' := by
  obtain ⟨v, c0, c1, c2, y1, y2, hr⟩ := hR.cells
  obtain ⟨A, c, rfl, hc, hm⟩ := hr.slice
  clear hR hr
  have q : ((bs.length - a : Nat) : Int) = (bs.length : Int) - (a : Int) := by omega
  rw [q]
  clear q
  go_enter Try.func33, Try.ntmps33
  go_wp2_with fail
  go_region
  go_wp2_with fail
  go_ret
  exact ⟨rfl, (Ext.refl _ _).drew⟩
end
end Go.Proofs.Ytiebnjkjgobklaa
