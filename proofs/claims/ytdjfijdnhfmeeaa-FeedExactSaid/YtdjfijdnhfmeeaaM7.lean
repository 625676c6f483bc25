/- slices.Equal of two lists of events that are the same; slices.Clone. -/
import Derived.Test.YtdjfijdnhfmeeaaM5
namespace Go.Proofs.Ytdjfijdnhfmeeaa
open Go.RowKit Go.TM
set_option maxRecDepth 100000 in
set_option maxHeartbeats 8000000 in
theorem EqualE_calls {w : World} {ok ok2 : Nat → Prop} {A B : Option Addr} {n m c d : Nat} {l : List Ev} (H : Rd evK w ok (.slice A n c) l) (K : Rd evK w ok2 (.slice B m d) l) : Calls Try.prog 19 #[.slice A n c, .slice B m d] w fun e w' => e = .returned (.bool true) ∧ Ext Non w w' := by
  obtain ⟨_, _, hs, _, hm⟩ := H.slice
  simp only [Value.slice.injEq] at hs
  obtain ⟨-, hn, -⟩ := hs
  obtain ⟨_, _, hs, _, -⟩ := K.slice
  simp only [Value.slice.injEq] at hs
  obtain ⟨-, hn2, -⟩ := hs
  obtain rfl : m = n := hn2.trans hn.symm
  have hmx : (m : Int) ≤ 9223372036854775807 := by omega
  have HH := Lib.hid H
  have HK := Lib.hid K
  have HN := Lib.hid hn
  clear H K hn hn2 hm
  go_enter Try.func19, Try.ntmps19
  go_wp2_with fail
  go_loopw [13] (fun i wr => ∃ j : Nat, i = .int .i64 (j : Int) ∧ j ≤ m ∧ Hid (Ext Non w wr)) (fun i _ => m - (intOf i).toNat)
  case atStart => exact ⟨0, rfl, by omega, Ext.refl _ _⟩
  case round =>
    obtain ⟨j, rfl, hj, HE⟩ := hrel
    by_cases hlt : j < m
    · obtain ⟨e, he0⟩ : ∃ e, l[j]? = some e := ⟨_, List.getElem?_eq_getElem (by have := HN.out; omega)⟩
      obtain ⟨ga, offa, rfl, hga, hgla, a0, a1, a2, a3, a4, a5⟩ := ev_at (HH.out.ext0 HE.out) he0
      obtain ⟨gb, offb, rfl, hgb, hglb, b0, b1, b2, b3, b4, b5⟩ := ev_at (HK.out.ext0 HE.out) he0
      clear he0
      go_wp2_with fail
      go_region
      go_wp2_with fail
      go_roundw
      case rel => exact ⟨j + 1, by go_num, by omega, by repeat (first | exact HE.out | refine Ext.drew ?_)⟩
      case measure => simp [intOf]; omega
    · obtain rfl : j = m := by omega
      go_wp2_with fail
      go_ret
      exact ⟨rfl, HE.out⟩
set_option maxRecDepth 100000 in
set_option maxHeartbeats 2000000 in
theorem CloneE_calls {w : World} {ok : Nat → Prop} {A : Option Addr} {n c : Nat} {l : List Ev} (H : Rd evK w ok (.slice A n c) l) (hl : l.length ≤ 1048576000) :
    Calls Try.prog 29 #[.slice A n c] w fun e w' => ∃ B m d, e = .returned (.slice B m d) ∧ Rd evK w' (fun _ => True) (.slice B m d) l ∧ Ext Non w w' := by
  have HH := Lib.hid H.bound
  have HL := Lib.hid hl
  have hq := Lib.run_eql_slice_nil (P := Try.prog) w 34 43 A n c 0 0 Try.underlying34
  cases A with
  | none =>
    have hl0 : l = [] := by
      obtain ⟨A', c', h1, h2, h3, h4⟩ := H
      by_cases h0 : 0 < l.length
      · obtain ⟨g, off, h5, -⟩ := h4 h0
        rw [h5] at h1
        cases h1
      · exact List.length_eq_zero_iff.1 (by omega)
    subst hl0
    clear H hl
    go_enter Try.func29, Try.ntmps29
    go_wp2_with fail
    go_ret
    exact ⟨none, 0, 0, rfl, Rd.nil _ _ _, Ext.refl _ _⟩
  | some a =>
    clear H hl
    go_enter Try.func29, Try.ntmps29
    go_wp2_with (first
      | (at_builtin
         refine wpList_app evK (ok := fun k => w.heap.size ≤ k ∨ ok k) (v := .slice (some ⟨w.heap.size, 0, none⟩) 0 0) (vx := .slice (some a) n c) (xs := []) (ys := l) w.heap.size rfl _ _ 34 43 _ 72 rfl Try.underlying34 info43 rfl (by decide) (by simp [Act.eval]) (by simp [Act.eval]) (Own.lit (xs := []) (inner := []) (Reps.nil _ _ _) (Nat.le_refl _) (by simp) (.inl (Nat.le_refl _))) ((HH.out.ext0 ((Ext.refl _ _).alloc _)).mono (fun k hk => ⟨.inr hk.1, fun h => by simp [Value.ownBlock] at h; have := hk.2; omega⟩)) (fun k hk => by simp at hk; exact .inl (by omega)) (by have := HL.out; simp; omega) (by have := HL.out; simp; omega) (by simp) ?_
         intro v' w' hown hext hblk)
      | fail)
    obtain ⟨A4, n4, c4, rfl⟩ : ∃ A n c, v' = .slice A n c := by obtain ⟨A4, c4, h4, _, _⟩ := hown.slice; exact ⟨_, _, _, h4⟩
    go_ret
    refine ⟨_, _, _, rfl, hown.rd.mono (fun _ _ => trivial), ((Ext.refl Non w).alloc (.cells #[] 43)).trans hext (fun i hi h => by simp [Value.ownBlock] at h; omega)⟩
end Go.Proofs.Ytdjfijdnhfmeeaa
