/- Crash of any disk; fuse. -/
import Derived.Test.YtpmncppfopbaaaaB5
namespace Go.Proofs.Ytpmncppfopbaaaa
open Go.RowKit Go.TM

theorem able_zero {d : Dk} (h : d.able = 0) : d.room ≠ 0 ∧ d.off = false := by
  unfold Dk.able at h
  split at h
  · simp at h
  · rename_i h1
    split at h
    · simp at h
    · rename_i h2
      exact ⟨h1, by simpa using h2⟩
theorem crash_calls {w : World} {ok : Nat → Prop} {g : Nat} {d : Dk} (H : DiskAt w ok g d) (hG : d.Good) (hf : ∀ k, w.heap.size ≤ k → ok k) (hg : ¬ ok g) (keep tear : Int) :
    Calls Try.prog 19 #[.pointer (some ⟨g, 0, none⟩), .int .i64 keep, .int .i64 tear] w (DPost ok g (d.crash keep tear) w) := by
  by_cases hab : d.able = 0
  · have : d.crash keep tear = (0, d.down keep tear) := by unfold Dk.crash; rw [if_pos hab]
    rw [this]
    exact crash_up H hG hf hg hab keep tear
  · have hc : d.crash keep tear = (d.able, d) := by unfold Dk.crash; rw [if_neg hab]
    rw [hc]
    obtain ⟨A, hA⟩ : ∃ A, d.able = A := ⟨_, rfl⟩
    rw [hA] at hab ⊢
    have q : (A != 0) = true := by simpa using hab
    have HH := Lib.hid H
    have HA := Lib.hid hA
    clear H hG hf hg hab hc hA
    go_enter Try.func19, Try.ntmps19
    go_wp2_with fail
    refine (able_calls HH.out).mono ?_
    rintro e w1 ⟨rfl, rfl⟩
    rw [HA.out]
    go_wp2_with fail
    go_ret
    exact ⟨by first | rfl | simp, HH.out, Ext.refl _ _⟩
theorem DiskAt.tick {w : World} {ok : Nat → Prop} {g : Nat} {d : Dk} (h : DiskAt w ok g d) (hg : ¬ ok g) : DiskAt (w.setCell ⟨g, 9, none⟩ (.int .i64 (d.left - 1))) ok g d.tick := by
  obtain ⟨a0, a1, a2, b0, b1, b2, wv, hb, r0, r1, r2, r3, r4, r5, r6⟩ := h
  refine DiskAt.mk' (w := w) (a0 := a0) (a1 := a1) (a2 := a2) (b0 := b0) (b1 := b1) (b2 := b2) (wv := wv) ((Ext.refl _ w).og 9 _) hg ?_ ⟨r0, r1, r2⟩ ⟨r3, r4, r5⟩ r6
  have h := blk_set hb 9 (.int .i64 (d.left - 1))
  simpa [Dk.tick] using h
def FPost (ok : Nat → Prop) (g : Nat) (r : Bool × Dk) (w : World) (e : Ending) (w' : World) : Prop :=
  e = .returned (.bool r.1) ∧ DiskAt w' ok g r.2 ∧ Ext (Only g) w w'
theorem DiskAt.cells {w : World} {ok : Nat → Prop} {g : Nat} {d : Dk} (h : DiskAt w ok g d) : w.cell? ⟨g, 7, none⟩ = some (.int .i64 d.room) ∧ w.cell? ⟨g, 8, none⟩ = some (.bool d.off) ∧ w.cell? ⟨g, 9, none⟩ = some (.int .i64 d.left) ∧ w.cell? ⟨g, 10, none⟩ = some (.int .i64 d.keep) ∧ w.cell? ⟨g, 11, none⟩ = some (.int .i64 d.tear) ∧ (∀ i, w.frozen? ⟨g, i, none⟩ = false) ∧ g < w.heap.size := by
  obtain ⟨a0, a1, a2, b0, b1, b2, wv, hb, _⟩ := h
  exact ⟨blk_cell hb 7, blk_cell hb 8, blk_cell hb 9, blk_cell hb 10, blk_cell hb 11, fun i => blk_frozen hb i, blk_lt hb⟩
theorem fuse_calls {w : World} {ok : Nat → Prop} {g : Nat} {d : Dk} (H : DiskAt w ok g d) (hG : d.Good) (hf : ∀ k, w.heap.size ≤ k → ok k) (hg : ¬ ok g) (hab : d.able = 0) :
    Calls Try.prog 47 #[.pointer (some ⟨g, 0, none⟩)] w (FPost ok g d.fuse w) := by
  have HH := Lib.hid H
  have HG := Lib.hid hG
  have HF := Lib.hid hf
  have HGG := Lib.hid hg
  obtain ⟨hroom, hoff⟩ := able_zero hab
  have HAB := Lib.hid hab
  obtain ⟨-, e8, e9, e10, e11, hy, hgs⟩ := H.cells
  have y9 := hy 9
  rw [hoff] at e8
  by_cases h0 : d.left = 0
  · have hr : d.fuse = (false, d) := by unfold Dk.fuse; rw [if_pos h0]
    rw [hr]
    rw [h0] at e9
    clear H hG hf hg hab h0 hr hy hroom hoff
    go_enter Try.func47, Try.ntmps47
    go_wp2_with fail
    go_ret
    exact ⟨rfl, HH.out, Ext.refl _ _⟩
  have HT := Lib.hid (hG.tick h0)
  have HD := Lib.hid (H.tick hg)
  by_cases h1 : d.left = 1
  · have hr : d.fuse = (true, d.tick.down d.keep d.tear) := by unfold Dk.fuse; rw [if_neg h0, if_pos h1]
    rw [hr]
    have hl : d.left - 1 = 0 := by omega
    have HD : Hid (DiskAt (w.setCell ⟨g, 9, none⟩ (.int .i64 0)) ok g d.tick) := by
      have := HD.out
      rw [hl] at this
      exact this
    have HTA : Hid (d.tick.able = 0) := HAB.out
    obtain ⟨-, -, -, e10', e11', -, -⟩ := HD.out.cells
    have e10' : (w.setCell ⟨g, 9, none⟩ (.int .i64 0)).cell? ⟨g, 10, none⟩ = some (.int .i64 d.keep) := e10'
    have e11' : (w.setCell ⟨g, 9, none⟩ (.int .i64 0)).cell? ⟨g, 11, none⟩ = some (.int .i64 d.tear) := e11'
    rw [h1] at e9
    have HK : Hid (d.tick.keep = d.keep ∧ d.tick.tear = d.tear) := ⟨rfl, rfl⟩
    generalize d.tick = t at HT HD HTA hr HK ⊢
    generalize d.keep = K at e10 e10' HK ⊢
    generalize d.tear = T at e11 e11' HK ⊢
    clear H hG hf hg hab h0 h1 hr hl hy hroom hoff
    go_enter Try.func47, Try.ntmps47
    go_wp2_with fail
    have E1 := Lib.hid ((Ext.refl (Only g) w).og 9 (.int .i64 0))
    generalize w.setCell ⟨g, 9, none⟩ (.int .i64 0) = w1 at HD E1 e10' e11' ⊢
    have HD2 := Lib.hid (HD.out.ext (Ext.refl Non w1).drew)
    clear e8 e9 e10 e11 y9
    go_region_held3 (fun W => W.cell? ⟨g, 10, none⟩ = some (.int .i64 K) ∧ W.cell? ⟨g, 11, none⟩ = some (.int .i64 T)) (first | exact ⟨e10', e11'⟩ | trivial) (first
      | (go_at_call 19
         refine (crash_up HD2.out HT.out (fun k hk => HF.out k (Nat.le_trans E1.out.size hk)) HGG.out HTA.out K T).mono ?_
         rintro e w2 ⟨rfl, hd, he⟩
         obtain ⟨-, e8, -, e10', e11', -, -⟩ := hd.cells
         have e8 : w2.cell? ⟨g, 8, none⟩ = some (.bool true) := e8
         have e10' : w2.cell? ⟨g, 10, none⟩ = some (.int .i64 t.keep) := e10'
         have e11' : w2.cell? ⟨g, 11, none⟩ = some (.int .i64 t.tear) := e11'
         rw [HK.out.1] at e10'
         rw [HK.out.2] at e11'
         have HD3 := Lib.hid hd
         have E3 := Lib.hid ((E1.out.drew).trans he (fun _ _ e => e))
         clear hd he)
      | fail)
    rename (∀ (a : Act) (w1 : World), Code.wp Try.prog _ _ a w1 → _) => hK0
    simp only [Exit.then]
    refine hK0 _ _ ?_
    clear e10' e11'
    go_wp2_with fail
    go_ret
    exact ⟨rfl, HD3.out, E3.out⟩
  · have hr : d.fuse = (false, d.tick) := by unfold Dk.fuse; rw [if_neg h0, if_neg h1, hoff]
    rw [hr]
    obtain ⟨L, hL⟩ : ∃ L, d.left = L := ⟨_, rfl⟩
    have hl := hG.left
    have HD := HD.out
    obtain ⟨-, e8', -, -, -, -, -⟩ := HD.cells
    have e8' : (w.setCell ⟨g, 9, none⟩ (.int .i64 (d.left - 1))).cell? ⟨g, 8, none⟩ = some (.bool d.off) := e8'
    rw [hoff] at e8'
    rw [hL] at e9 h0 h1 hl HD e8'
    have q1 : (L == 0) = false := by simpa using h0
    have q2 : (L - 1 == 0) = false := by simp; omega
    have q3 : 0 ≤ L - 1 := by omega
    have q4 : 1 ≤ L := by omega
    have q5 : L ≤ 9223372036854775807 := hl.2
    have HD := Lib.hid HD
    clear H hG hf hg hab h0 h1 hr hL hl hy hroom hoff HG HAB
    go_enter Try.func47, Try.ntmps47
    go_wp2_with fail
    go_ret
    exact ⟨rfl, HD.out, (Ext.refl (Only g) w).og 9 _⟩
end Go.Proofs.Ytpmncppfopbaaaa
