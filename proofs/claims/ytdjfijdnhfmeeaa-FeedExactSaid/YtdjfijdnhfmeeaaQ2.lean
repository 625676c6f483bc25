/- Subscribers and feeds, as they lie in memory; dead, Top, Kept; slices.Clone of events and of subscribers. -/
import Derived.Test.YtdjfijdnhfmeeaaM7
import Derived.Test.YtdjfijdnhfmeeaaQ1
namespace Go.Proofs.Ytdjfijdnhfmeeaa
open Go.RowKit Go.TM
structure Sb where
  id : Int
  fr : Int
  at_ : Int
  q : Flt
  gone : Bool
/-- A subscriber, as it lies in memory. -/
def sbK (n : Nat) : Kd Sb where
  sz := 8
  K := fun w ok x cs => ∃ v, cs = [.int .i64 x.id, .int .i64 x.fr, .int .i64 x.at_, .int .i64 x.q.op, .string x.q.key, .string x.q.val, v, .bool x.gone] ∧ Rd (fltK n) w ok v x.q.kids
  len := fun ⟨_, h, _⟩ => by rw [h]; rfl
  one := fun ⟨v, h, hr⟩ u hu => by
    rw [h] at hu
    simp only [List.mem_cons, List.not_mem_nil, or_false] at hu
    obtain ⟨A, c, rfl, _⟩ := hr.slice
    rcases hu with rfl | rfl | rfl | rfl | rfl | rfl | rfl | rfl <;> rfl
  mono := fun hok ⟨v, h, hr⟩ => ⟨v, h, hr.mono hok⟩
  bound := fun ⟨v, h, hr⟩ => ⟨v, h, hr.bound⟩
  move := fun hm ⟨v, h, hr⟩ => ⟨v, h, hr.move' hm⟩
theorem sb_at {n : Nat} {w : World} {ok : Nat → Prop} {A : Option Addr} {m c : Nat} {xs : List Sb} (h : Rd (sbK n) w ok (.slice A m c) xs) {j : Nat} {x : Sb} (hs : xs[j]? = some x) :
    ∃ g off B l d, A = some ⟨g, off, none⟩ ∧ ok g ∧ g < w.heap.size ∧ w.cell? ⟨g, off + j * 8, none⟩ = some (.int .i64 x.id) ∧ w.cell? ⟨g, off + j * 8 + 1, none⟩ = some (.int .i64 x.fr) ∧ w.cell? ⟨g, off + j * 8 + 2, none⟩ = some (.int .i64 x.at_) ∧
      w.cell? ⟨g, off + j * 8 + 3, none⟩ = some (.int .i64 x.q.op) ∧ w.cell? ⟨g, off + j * 8 + 4, none⟩ = some (.string x.q.key) ∧ w.cell? ⟨g, off + j * 8 + 5, none⟩ = some (.string x.q.val) ∧
      w.cell? ⟨g, off + j * 8 + 6, none⟩ = some (.slice B l d) ∧ w.cell? ⟨g, off + j * 8 + 7, none⟩ = some (.bool x.gone) ∧ Rd (fltK n) w ok (.slice B l d) x.q.kids := by
  obtain ⟨g, off, cs, rfl, hg, hgl, ⟨v, rfl, hr⟩, hcs⟩ := h.at_ hs
  obtain ⟨B, l, d, rfl, _⟩ := rd_abs hr
  have hc : ∀ i u, ([.int .i64 x.id, .int .i64 x.fr, .int .i64 x.at_, .int .i64 x.q.op, .string x.q.key, .string x.q.val, .slice B l d, .bool x.gone] : List Value)[i]? = some u → w.cell? ⟨g, off + j * 8 + i, none⟩ = some u := fun i u hu => by
    have := hcs i u hu
    rw [← Nat.add_assoc] at this
    exact this
  exact ⟨g, off, B, l, d, rfl, hg, hgl, hc 0 _ rfl, hc 1 _ rfl, hc 2 _ rfl, hc 3 _ rfl, hc 4 _ rfl, hc 5 _ rfl, hc 6 _ rfl, hc 7 _ rfl, hr⟩
/-- A feed's contents. -/
structure Fdr where
  evs : List Ev
  subs : List Sb
  next : Int
  top : Int
def FdB (w : World) (g : Nat) (se ss : Value) (nx tp : Int) : Prop := w.heap[g]? = some (.cells #[se, ss, .int .i64 nx, .int .i64 tp] 72 (0, 0))
/-- A feed, as it lies in memory. -/
def Fd (n : Nat) (ok : Nat → Prop) (w : World) (g : Nat) (D : Fdr) : Prop := ∃ A1 n1 c1 A2 n2 c2, FdB w g (.slice A1 n1 c1) (.slice A2 n2 c2) D.next D.top ∧ Rd evK w ok (.slice A1 n1 c1) D.evs ∧ Rd (sbK n) w ok (.slice A2 n2 c2) D.subs ∧ ¬ ok g
theorem Fd.ext {n : Nat} {ok M : Nat → Prop} {w w1 : World} {g : Nat} {D : Fdr} (h : Fd n ok w g D) (he : Ext M w w1) (hm : ∀ k, ok k → ¬ M k) (hg : ¬ M g) : Fd n ok w1 g D := by
  obtain ⟨A1, n1, c1, A2, n2, c2, hb, h1, h2, h3⟩ := h
  exact ⟨A1, n1, c1, A2, n2, c2, he.obj hb hg, h1.ext he (fun k hk _ => hm k hk), h2.ext he (fun k hk _ => hm k hk), h3⟩
theorem Fd.ext0 {n : Nat} {ok : Nat → Prop} {w w1 : World} {g : Nat} {D : Fdr} (h : Fd n ok w g D) (he : Ext Non w w1) : Fd n ok w1 g D := h.ext he (fun _ _ e => e) (fun e => e)
/-- Which blocks a feed lives in: all new ones. -/
def Fresh (ok : Nat → Prop) (w : World) : Prop := ∀ k, w.heap.size ≤ k → ok k
theorem Fresh.ext {ok M : Nat → Prop} {w w1 : World} (h : Fresh ok w) (he : Ext M w w1) : Fresh ok w1 := fun k hk => h k (Nat.le_trans he.size hk)
section
variable {w : World} {g : Nat} {se ss : Value} {nx tp : Int}
theorem FdB.c0 (h : FdB w g se ss nx tp) : w.cell? ⟨g, 0, none⟩ = some se := blk_cell h 0
theorem FdB.c1 (h : FdB w g se ss nx tp) : w.cell? ⟨g, 1, none⟩ = some ss := blk_cell h 1
theorem FdB.c2 (h : FdB w g se ss nx tp) : w.cell? ⟨g, 2, none⟩ = some (.int .i64 nx) := blk_cell h 2
theorem FdB.c3 (h : FdB w g se ss nx tp) : w.cell? ⟨g, 3, none⟩ = some (.int .i64 tp) := blk_cell h 3
theorem FdB.fz (h : FdB w g se ss nx tp) (i : Nat) : w.frozen? ⟨g, i, none⟩ = false := blk_frozen h i
theorem dead_nil : Calls Try.prog 48 #[.pointer none] w fun e w' => e = .returned (.bool true) ∧ w = w' := by
  go_enter Try.func48, Try.ntmps48
  go_wp2_with fail
  go_ret
  exact ⟨rfl, rfl⟩
theorem dead_zero (h : FdB w g se ss 0 tp) : Calls Try.prog 48 #[.pointer (some ⟨g, 0, none⟩)] w fun e w' => e = .returned (.bool true) ∧ w = w' := by
  have b2 := h.c2
  clear h
  go_enter Try.func48, Try.ntmps48
  go_wp2_with fail
  go_ret
  exact ⟨rfl, rfl⟩
theorem dead_live (h : FdB w g se ss nx tp) (hn : nx ≠ 0) : Calls Try.prog 48 #[.pointer (some ⟨g, 0, none⟩)] w fun e w' => e = .returned (.bool false) ∧ w = w' := by
  have b2 := h.c2
  clear h
  go_enter Try.func48, Try.ntmps48
  go_wp2_with fail
  go_ret
  exact ⟨by show Ending.returned (.bool (nx == 0)) = _; rw [show (nx == 0) = false from by simpa using hn], rfl⟩
theorem Top_live (h : FdB w g se ss nx tp) (hn : nx ≠ 0) : Calls Try.prog 31 #[.pointer (some ⟨g, 0, none⟩)] w fun e w' => e = .returned (.int .i64 tp) ∧ w = w' := by
  have b3 := h.c3
  have HB := Lib.hid h
  clear h
  go_enter Try.func31, Try.ntmps31
  go_wp2_with fail
  refine (dead_live HB.out hn).mono ?_
  rintro e w5 ⟨rfl, rfl⟩
  go_wp2_with fail
  go_ret
  exact ⟨rfl, rfl⟩
end
theorem none_nil {α : Type} {d : Kd α} {w : World} {ok : Nat → Prop} {n c : Nat} {xs : List α} (h : Rd d w ok (.slice none n c) xs) : xs = [] := by
  obtain ⟨A', c', h1, h2, h3, h4⟩ := h
  by_cases h0 : 0 < xs.length
  · obtain ⟨g, off, h5, -⟩ := h4 h0
    rw [h5] at h1
    cases h1
  · exact List.length_eq_zero_iff.1 (by omega)
set_option maxRecDepth 100000 in
set_option maxHeartbeats 2000000 in
theorem CloneE_own {w : World} {ok : Nat → Prop} {A : Option Addr} {n c : Nat} {l : List Ev} (H : Rd evK w ok (.slice A n c) l) (hl : l.length ≤ 1048576000) (hf : Fresh ok w) :
    Calls Try.prog 29 #[.slice A n c] w fun e w' => ∃ B m d, e = .returned (.slice B m d) ∧ Own evK 43 w' w.heap.size ok (.slice B m d) l ∧ Ext Non w w' := by
  have HH := Lib.hid H.bound
  have HL := Lib.hid hl
  have HF := Lib.hid hf
  have hq := Lib.run_eql_slice_nil (P := Try.prog) w 34 43 A n c 0 0 Try.underlying34
  cases A with
  | none =>
    have hl0 : l = [] := none_nil H
    subst hl0
    clear H hl hf
    go_enter Try.func29, Try.ntmps29
    go_wp2_with fail
    go_ret
    exact ⟨none, 0, 0, rfl, Own.nil _ _ _ _ _, Ext.refl _ _⟩
  | some a =>
    clear H hl hf
    go_enter Try.func29, Try.ntmps29
    go_wp2_with (first
      | (at_builtin
         refine wpList_app evK (ok := ok) (v := .slice (some ⟨w.heap.size, 0, none⟩) 0 0) (vx := .slice (some a) n c) (xs := []) (ys := l) w.heap.size rfl _ _ 34 43 _ 72 rfl Try.underlying34 info43 rfl (by decide) (by simp [Act.eval]) (by simp [Act.eval]) (Own.lit (xs := []) (inner := []) (Reps.nil _ _ _) (Nat.le_refl _) (by simp) (HF.out _ (Nat.le_refl _))) ((HH.out.move (by simp) (fun k hk => Below.heap_alloc _ _ _ hk.2)).mono (fun k hk => ⟨hk.1, fun e => by simp [Value.ownBlock] at e; omega⟩)) (fun k hk => HF.out k (by simp at hk; omega)) (by have := HL.out; simp; omega) (by have := HL.out; simp; omega) (by simp) ?_
         intro v' w' hown hext hblk)
      | fail)
    obtain ⟨A4, n4, c4, rfl⟩ : ∃ A n c, v' = .slice A n c := by obtain ⟨A4, c4, h4, _, _⟩ := hown.slice; exact ⟨_, _, _, h4⟩
    go_ret
    exact ⟨_, _, _, rfl, hown, ((Ext.refl Non w).alloc (.cells #[] 43)).trans hext (fun i hi h => by simp [Value.ownBlock] at h; omega)⟩
set_option maxRecDepth 100000 in
theorem info64 (n : Nat) : (Try.prog.info? 64).map (fun i => (i.zero, i.size, i.bytes)) = some (some (.agg #[.int .i64 0, .int .i64 0, .int .i64 0, .int .i64 0, .string ⟨#[]⟩, .string ⟨#[]⟩, .slice none 0 0, .bool false]), (sbK n).sz, 96) := by kernel_rfl
set_option maxRecDepth 100000 in
set_option maxHeartbeats 2000000 in
theorem CloneS_own {w : World} {ok : Nat → Prop} {A : Option Addr} {k n c : Nat} {l : List Sb} (H : Rd (sbK k) w ok (.slice A n c) l) (hl : l.length ≤ 1000) (hf : Fresh ok w) :
    Calls Try.prog 49 #[.slice A n c] w fun e w' => ∃ B m d, e = .returned (.slice B m d) ∧ Own (sbK k) 64 w' w.heap.size ok (.slice B m d) l ∧ Ext Non w w' := by
  have HH := Lib.hid H.bound
  have HL := Lib.hid hl
  have HF := Lib.hid hf
  have hq := Lib.run_eql_slice_nil (P := Try.prog) w 53 64 A n c 0 0 Try.underlying53
  cases A with
  | none =>
    have hl0 : l = [] := none_nil H
    subst hl0
    clear H hl hf
    go_enter Try.func49, Try.ntmps49
    go_wp2_with fail
    go_ret
    exact ⟨none, 0, 0, rfl, Own.nil _ _ _ _ _, Ext.refl _ _⟩
  | some a =>
    clear H hl hf
    go_enter Try.func49, Try.ntmps49
    go_wp2_with (first
      | (at_builtin
         refine wpList_app (sbK k) (ok := ok) (v := .slice (some ⟨w.heap.size, 0, none⟩) 0 0) (vx := .slice (some a) n c) (xs := []) (ys := l) w.heap.size rfl _ _ 53 64 _ 96 rfl Try.underlying53 (info64 k) rfl (by show 0 < 8; decide) (by simp [Act.eval]) (by simp [Act.eval]) (Own.lit (xs := []) (inner := []) (Reps.nil _ _ _) (Nat.le_refl _) (by simp) (HF.out _ (Nat.le_refl _))) ((HH.out.move (by simp) (fun k hk => Below.heap_alloc _ _ _ hk.2)).mono (fun k hk => ⟨hk.1, fun e => by simp [Value.ownBlock] at e; omega⟩)) (fun k hk => HF.out k (by simp at hk; omega)) (by have := HL.out; simp; omega) (by have := HL.out; simp; omega) (by simp) ?_
         intro v' w' hown hext hblk)
      | fail)
    obtain ⟨A4, n4, c4, rfl⟩ : ∃ A n c, v' = .slice A n c := by obtain ⟨A4, c4, h4, _, _⟩ := hown.slice; exact ⟨_, _, _, h4⟩
    go_ret
    exact ⟨_, _, _, rfl, hown, ((Ext.refl Non w).alloc (.cells #[] 64)).trans hext (fun i hi h => by simp [Value.ownBlock] at h; omega)⟩
theorem Kept_calls {w : World} {n g : Nat} {ok : Nat → Prop} {D : Fdr} (h : Fd n ok w g D) (hn : D.next ≠ 0) (hl : D.evs.length ≤ 1048576000) (hf : Fresh ok w) :
    Calls Try.prog 32 #[.pointer (some ⟨g, 0, none⟩)] w fun e w' => ∃ B m d, e = .returned (.slice B m d) ∧ Own evK 43 w' w.heap.size ok (.slice B m d) D.evs ∧ Ext Non w w' := by
  obtain ⟨A1, n1, c1, A2, n2, c2, hb, h1, h2, h3⟩ := h
  have b0 := hb.c0
  have HB := Lib.hid hb
  have H1 := Lib.hid h1
  have HF := Lib.hid hf
  clear hb h1 h2 h3 hf
  go_enter Try.func32, Try.ntmps32
  go_wp2_with fail
  refine (dead_live HB.out hn).mono ?_
  rintro e w5 ⟨rfl, rfl⟩
  go_wp2_with fail
  refine (CloneE_own H1.out hl HF.out).mono ?_
  rintro e w5 ⟨B, m, d, rfl, ho, he⟩
  have HO := Lib.hid ho
  have HE := Lib.hid he
  clear ho he
  go_wp2_with fail
  go_ret
  exact ⟨B, m, d, rfl, HO.out, HE.out⟩
end Go.Proofs.Ytdjfijdnhfmeeaa
