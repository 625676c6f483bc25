/- Plain facts for the laws. -/
import Derived.Test.YtpmncppfopbaaaaC7
import Derived.Test.YtpmncppfopbaaaaP2
namespace Go.Proofs.Ytpmncppfopbaaaa
open Go.RowKit Go.TM

theorem fine_of {l : List TM.Call} (h : l.length ≤ 200 ∧ ∀ k ∈ l, k.b.length ≤ 32768) (ho : ∀ k ∈ l, k.Ok) : Fine l := ⟨by omega, fun k hk => by have := h.2 k hk; omega, ho⟩
theorem Plate.same_self (p : Plate) : Plate.same p p = true := by simp [Plate.same]
theorem fine_good {l : List TM.Call} (hl : Fine l) : ((Dk.new 16777216).run l).Good := (Dk.Good.new (by omega) (by omega)).run hl.ok
theorem _root_.Go.TM.Dk.fuse_room (d : Dk) : d.fuse.2.room = d.room := by
  unfold Dk.fuse
  repeat' split
  all_goals rfl
theorem _root_.Go.TM.Dk.call_room (d : Dk) (c : TM.Call) : (d.call c).2.room = d.room := by
  have ha : ∀ a, (d.act a).2.room = d.room := fun a => (d.acted a).fuse_room
  have hs : (Dk.told d.synced.fuse).2.room = d.room := d.synced.fuse_room
  unfold Dk.call Dk.slot Dk.clear Dk.sync Dk.crash Dk.start Dk.arm Dk.append
  repeat' split
  all_goals first | rfl | exact ha _ | exact hs
theorem _root_.Go.TM.Dk.run_room (d : Dk) (l : List TM.Call) : (d.run l).room = d.room := by
  induction l generalizing d with
  | nil => rfl
  | cons c l ih => exact (ih (d.call c).2).trans (d.call_room c)
theorem fits_of {d : Dk} {K : Int} {n : Nat} {m : Int} (h : d.Upto K) (hm : m ≤ n) (hr : K + n ≤ d.room) : d.fits m = true := by
  have := h.used
  unfold Dk.fits
  rw [decide_eq_true_eq]
  omega
theorem goes_slot {d : Dk} (h : d.Good) (hw : d.wait.length ≤ 90000000) (ho : d.off = false) (hl : d.left = 0) {i : Int} {b : List UInt8} (hi : i = 0 ∨ i = 1) {K : Int} (hu : d.Upto K) (hr : K + b.length ≤ d.room) : Goes (d.slot i b) 0 (d.acted ⟨i, b⟩) := by
  have hf : d.fits ((b.length : Int) - ((d.now.slot i).length : Int)) = true := fits_of hu (n := b.length) (by omega) hr
  have hi' : ¬ (i < 0 ∨ 1 < i) := by omega
  have : d.slot i b = (0, d.acted ⟨i, b⟩) := by unfold Dk.slot; rw [if_neg (by simp [able_on (good_room h) ho]), if_neg hi', if_pos hf, act_left0 hl]
  rw [this]
  exact ⟨rfl, rfl, h.acted (by show 0 ≤ i ∧ i ≤ 3; omega) (Dk.Good.slot_fit hi' hf), by simp [Dk.acted]; omega⟩
theorem goes_append {d : Dk} (h : d.Good) (hw : d.wait.length ≤ 90000000) (ho : d.off = false) (hl : d.left = 0) {b : List UInt8} {K : Int} (hu : d.Upto K) (hr : K + b.length ≤ d.room) : Goes (d.append b) 0 (d.acted ⟨2, b⟩) := by
  have hf : d.fits (b.length : Int) = true := fits_of hu (n := b.length) (by omega) hr
  have : d.append b = (0, d.acted ⟨2, b⟩) := by unfold Dk.append; rw [if_neg (by simp [able_on (good_room h) ho]), if_pos hf, act_left0 hl]
  rw [this]
  exact ⟨rfl, rfl, h.acted (by simp) (Dk.Good.app_fit hf), by simp [Dk.acted]; omega⟩
theorem made_room (l : List TM.Call) : ((Dk.new 16777216).run l).room = 16777216 := Dk.run_room _ l
end Go.Proofs.Ytpmncppfopbaaaa
