/- Sessions: Clone, List, New. -/
import Derived.Test.YtiebnjkjgobklaaS2
namespace Go.Proofs.Ytiebnjkjgobklaa
open Go.RowKit Go.TM

theorem info47 : (Try.prog.info? 47).map (fun i => (i.zero, i.size, i.bytes)) = some (some (.agg #[.int .i64 0, .int .i64 0, .int .i64 0, .int .i64 0]), seatK.sz, 32) := by kernel_rfl

def ClonePost (ok : Nat → Prop) (xs : List Seat) (w : World) (e : Ending) (w' : World) : Prop := ∃ v', e = .returned v' ∧ Own seatK 47 w' w.heap.size ok v' xs ∧ Ext Non w w'

theorem Clone_calls {w : World} {ok : Nat → Prop} {v : Value} {xs : List Seat} (hr : Rd seatK w ok v xs) (hf : ∀ k, w.heap.size ≤ k → ok k) (hl : xs.length * 32 ≤ 140737488355328) :
    Calls Try.prog 36 #[v] w (ClonePost ok xs w) := by
  obtain ⟨A, c, rfl, hc, hm⟩ := hr.slice
  have hq := Lib.run_eql_slice_nil (P := Try.prog) w 38 47 A xs.length c 0 0 Try.underlying38
  cases A with
  | none =>
    have h0 : xs = [] := by
      obtain ⟨_, inner, _, h⟩ := hr.cells_
      rcases Nat.eq_zero_or_pos xs.length with h0 | h0
      · exact List.eq_nil_of_length_eq_zero h0
      · obtain ⟨g, off, h1, _⟩ := h h0
        cases h1
    subst h0
    simp at hq
    go_enter Try.func36, Try.ntmps36
    go_wp2_with fail
    go_ret
    exact ⟨_, rfl, Own.nil _ _ _ _ _, Ext.refl _ _⟩
  | some ad =>
    have HR := Lib.hid hr
    clear hr
    go_enter Try.func36, Try.ntmps36
    go_wp2_with (at_builtin; refine wpList_app seatK (v := .slice (some ⟨w.heap.size, 0, none⟩) 0 0) (vx := .slice (some ad) xs.length c) (ok := ok) (xs := ([] : List Seat)) (ys := xs) w.heap.size rfl _ _ 38 47 _ 32 rfl Try.underlying38 info47 rfl (by decide) rfl rfl ?_ ?_ ?_ ?_ ?_ ?_ ?_)
    · exact Own.lit (Reps.nil _ _ _) (Nat.le_refl _) (by simp) (hf _ (Nat.le_refl _))
    · refine ((HR.out.bound.ext0 ((Ext.refl Non w).alloc _)).mono fun k hk => ⟨hk.1, fun e => ?_⟩)
      simp [Value.ownBlock] at e
      omega
    · intro k hk
      exact hf k (by simp at hk; omega)
    · simpa using hl
    · simpa using hm
    · simp
    intro v' w' hown hext hblk
    go_wp2_with fail
    go_ret
    exact ⟨_, rfl, by simpa using hown, ((Ext.refl Non w).alloc _).trans hext (fun i hi e => by simp [Value.ownBlock] at e; omega)⟩

theorem List_calls {w : World} {ok : Nat → Prop} {g : Nat} {t : Tab} (hT : TabAt w ok g t) (h8 : t.seats.length ≤ 8) (hf : ∀ k, w.heap.size ≤ k → ok k) :
    Calls Try.prog 23 #[.pointer (some ⟨g, 0, none⟩)] w (ClonePost ok t.seats w) := by
  obtain ⟨v, hb, hr⟩ := hT
  have c0 := blk_cell hb 0
  have c2 := blk_cell hb 2
  simp at c0 c2
  have HR := Lib.hid hr
  clear hb hr
  go_enter Try.func23, Try.ntmps23
  go_wp2_with (first | (go_at_call 38; refine (dead_at g _ true c2).mono ?_; rintro e w1 ⟨rfl, rfl⟩) | (go_at_call 36; refine (Clone_calls HR.out hf (by omega)).mono ?_; rintro e w1 ⟨v', rfl, h1, h2⟩))
  go_ret
  exact ⟨v', rfl, h1, h2⟩

def NewPost (w : World) (e : Ending) (w' : World) : Prop := ∃ g, e = .returned (.pointer (some ⟨g, 0, none⟩)) ∧ w.heap.size ≤ g ∧ g < w'.heap.size ∧ (∀ ok, TabAt w' ok g ⟨[], 0⟩) ∧ Ext Non w w'
theorem New_calls (w : World) : Calls Try.prog 16 #[] w (NewPost w) := by
  go_enter Try.func16, Try.ntmps16
  go_wp2_with fail
  go_ret
  exact ⟨_, rfl, Nat.le_refl _, by simp, fun ok => ⟨_, heap_alloc_new _ _, Rd.nil _ _ _⟩, (Ext.refl _ _).alloc _⟩
theorem Good.zero : Good [] 0 := ⟨List.Pairwise.nil, by simp, by simp, by omega, by omega, by simp, by simp, by simp⟩

structure OpenR where
  id : Int
  e : Int
  tab : Tab
def open_ (t : Tab) : OpenR :=
  if 8 ≤ t.seats.length then ⟨0, 7, t⟩ else if 1099511627776 ≤ t.last then ⟨0, 5, t⟩ else ⟨t.last + 1, 0, ⟨t.seats ++ [⟨t.last + 1, 0, 0, 0⟩], t.last + 1⟩⟩
def OpenPost (ok : Nat → Prop) (g : Nat) (r : OpenR) (w : World) (e : Ending) (w' : World) : Prop :=
  e = .returned (.tuple #[.int .i64 r.id, .int .i64 r.e]) ∧ TabAt w' ok g r.tab ∧ Ext (Only g) w w'

set_option maxHeartbeats 1000000 in
theorem Open_calls {w : World} {ok : Nat → Prop} {g : Nat} {t : Tab} (hT : TabAt w ok g t) (hl0 : 0 ≤ t.last) (hf : ∀ k, w.heap.size ≤ k → ok k) (hg : ¬ ok g) :
    Calls Try.prog 18 #[.pointer (some ⟨g, 0, none⟩)] w (OpenPost ok g (open_ t) w) := by
  have HT := Lib.hid hT
  obtain ⟨v, hb, hr⟩ := hT
  obtain ⟨A, c, rfl, hc, hm⟩ := hr.slice
  have c0 := blk_cell hb 0
  have c1 := blk_cell hb 1
  have c2 := blk_cell hb 2
  have z0 := blk_frozen hb 0
  have z1 := blk_frozen hb 1
  simp at c0 c1 c2
  have HR := Lib.hid hr
  have HB := Lib.hid hb
  clear hb hr
  by_cases h1 : 8 ≤ t.seats.length
  · have hA : open_ t = ⟨0, 7, t⟩ := if_pos h1
    rw [hA]
    clear hA
    go_enter Try.func18, Try.ntmps18
    go_wp2_with (first | (go_at_call 38; refine (dead_at g _ true c2).mono ?_; rintro e w1 ⟨rfl, rfl⟩))
    go_ret2
    exact ⟨rfl, HT.out, Ext.refl _ _⟩
  by_cases h2 : 1099511627776 ≤ t.last
  · have hA : open_ t = ⟨0, 5, t⟩ := by unfold open_; rw [if_neg h1, if_pos h2]
    rw [hA]
    clear hA
    go_enter Try.func18, Try.ntmps18
    go_wp2_with (first | (go_at_call 38; refine (dead_at g _ true c2).mono ?_; rintro e w1 ⟨rfl, rfl⟩))
    go_ret2
    exact ⟨rfl, HT.out, Ext.refl _ _⟩
  have hA : open_ t = ⟨t.last + 1, 0, ⟨t.seats ++ [⟨t.last + 1, 0, 0, 0⟩], t.last + 1⟩⟩ := by unfold open_; rw [if_neg h1, if_neg h2]
  rw [hA]
  clear hA
  go_enter Try.func18, Try.ntmps18
  go_wp2_with (first | (go_at_call 38; refine (dead_at g _ true c2).mono ?_; rintro e w1 ⟨rfl, rfl⟩))
  have e1 : Ext (Only g) w (w.setCell ⟨g, 1, none⟩ (.int .i64 (t.last + 1))) := (Ext.refl (Only g) w).setCell (p := ⟨g, 1, none⟩) (fun _ => rfl) _
  have b1 := blk_set HB.out 1 (.int .i64 (t.last + 1))
  have s1 : (w.setCell ⟨g, 1, none⟩ (.int .i64 (t.last + 1))).heap.size = w.heap.size := by simp [World.setCell]
  have r1 := HR.out.ext e1 (fun k hk _ e => hg (e ▸ hk))
  generalize w.setCell ⟨g, 1, none⟩ (.int .i64 (t.last + 1)) = w1 at e1 b1 r1 s1 ⊢
  simp at b1
  have d0 := blk_cell b1 0
  have d1 := blk_cell b1 1
  have y0 := blk_frozen b1 0
  have hlt := blk_lt b1
  simp at d0 d1
  have B1 := Lib.hid b1
  have E1 := Lib.hid e1
  have R1 := Lib.hid r1
  have S1 := Lib.hid s1
  have HF := Lib.hid hf
  clear b1 e1 r1 s1 hf c0 c1 c2 z0 z1
  go_region_law (first
    | (go_simp; go_at_call 36
       refine (Clone_calls (ok := ok) (xs := t.seats) (R1.out.ext0 (by repeat (first | exact Ext.refl _ _ | refine Ext.alloc ?_ _ | refine Ext.drew ?_))) (fun k hk => HF.out k (by simp at hk; have := S1.out; omega)) (by omega)).mono ?_
       rintro e w2 ⟨v', rfl, h3, h4⟩
       have E2 : Ext Non w1 w2 := Ext.trans0 (by repeat (first | exact Ext.refl _ _ | refine Ext.alloc ?_ _ | refine Ext.drew ?_)) h4
       have d0 := E2.cell d0 (fun e => e)
       have d1 := E2.cell d1 (fun e => e)
       have y0 := blk_frozen (E2.obj B1.out (fun e => e)) 0
       have hlt := blk_lt (E2.obj B1.out (fun e => e))
       try have bl := h4.obj (heap_alloc_new w1.drew _) (fun e => e)
       have E3 := Lib.hid E2
       have O3 := Lib.hid h3
       clear E2 h3 h4)
    | (refine step_app seatK (ok := ok) (v := v') (xs := t.seats) (ys := [⟨t.last + 1, 0, 0, 0⟩]) w1.heap.size (by rfl) _ _ 38 47 _ 32 (by rfl) Try.underlying38 info47 rfl (by decide) (by simp [Act.eval]) (vx := .slice _ _ _) (by simp [Act.eval]; exact ⟨rfl, rfl, rfl⟩) ?o1 ?o2 ?o3 ?o4 ?o5 ?o6 ?_
       case o1 => exact (O3.out.lower (by simp)).ext0 (by repeat (first | exact Ext.refl _ _ | refine Ext.alloc ?_ _ | refine Ext.drew ?_))
       case o2 =>
         have hbl := O3.out.base_le
         first
           | (refine Rd.lit_at (cs := [.int .i64 (t.last + 1), .int .i64 0, .int .i64 0, .int .i64 0]) (e := 47) (fr := (0, 0)) (heap_alloc_new w2 _) rfl ⟨?_, ?_⟩
              · exact HF.out _ (by have := E3.out.size; have := S1.out; omega)
              · exact fun h => by have := hbl _ h.symm; omega)
           | (refine Rd.lit_at (cs := [.int .i64 (t.last + 1), .int .i64 0, .int .i64 0, .int .i64 0]) (e := 47) (fr := (0, 0)) bl rfl ⟨?_, ?_⟩
              · exact HF.out _ (by have := S1.out; (try simp); omega)
              · exact fun h => by have := hbl _ h.symm; simp at this; omega)
       case o3 => exact fun k hk => HF.out k (by (try simp at hk); have := E3.out.size; have := S1.out; omega)
       case o4 => simp; omega
       case o5 => simp; omega
       case o6 => have := E3.out.size; (try simp); omega
       intro v2 w3 hown2 hext2 hblk2
       have E4 : Ext Non w1 w3 := Ext.trans (b := w2) E3.out (Ext.trans (M := fun k => some k = v'.ownBlock) (by repeat (first | exact Ext.refl _ _ | refine Ext.alloc ?_ _ | refine Ext.drew ?_)) hext2 (fun i _ h => h)) (fun i hi h => by have := (O3.out.base_le _ h.symm).1; simp at this; omega)
       have B4 := Lib.hid (E4.obj B1.out (fun e => e))
       have y0 := blk_frozen B4.out 0
       have d1 := E4.cell (p := ⟨g, 1, none⟩) (v := .int .i64 (t.last + 1)) (by have := blk_cell B1.out 1; simpa using this) (fun e => e)
       have d0 := E4.cell (p := ⟨g, 0, none⟩) (v := .slice A t.seats.length c) (by have := blk_cell B1.out 0; simpa using this) (fun e => e)
       have E5 := Lib.hid E4
       obtain ⟨A2, k2, rfl, hk2, hm2⟩ := hown2.slice
       have O5 := Lib.hid hown2
       clear E4 hown2 hext2 hblk2 hk2 hm2))
  all_goals
    go_wp2_with fail
    go_ret2
    refine ⟨rfl, ⟨_, (by simpa using blk_set B4.out 0 _), ?_⟩, ?_⟩
    · exact Rd.ext (w := w3) (by simpa using O5.out.rd) ((Ext.refl (Only g) _).setCell (p := ⟨g, 0, none⟩) (fun _ => rfl) _) (fun k hk _ e => hg (e ▸ hk))
    · exact (E1.out.trans0 E5.out).setCell (p := ⟨g, 0, none⟩) (fun _ => rfl) _
end Go.Proofs.Ytiebnjkjgobklaa
