/- Lists of events; the verifier's few. -/
import Derived.Test.YtooafilbmjnfmaaM2
import Derived.Test.YtooafilbmjnfmaaW1
namespace Go.Proofs.Ytooafilbmjnfmaa
open Go.RowKit Go.TM Go.ChangeShapes Go.WideShapes Go.ChangeAt Go.Deep
def Ev.cells (e : Ev) : List Value := [.int .i64 e.pos, .string e.key, .bool e.had, .string e.old, .bool e.has, .string e.now]
theorem evV_cells (e : Ev) : evV e = .agg e.cells.toArray := rfl
def evK : Kd Ev := Kd.flat 6 Ev.cells (fun _ => rfl) (fun x u hu => by
  simp only [Ev.cells, List.mem_cons, List.not_mem_nil, or_false] at hu
  rcases hu with rfl | rfl | rfl | rfl | rfl | rfl <;> rfl)
def Ev.small (e : Ev) : Prop := e.key.size ≤ 8192 ∧ e.old.size ≤ 8192 ∧ e.now.size ≤ 8192
def Ev.ok (e : Ev) : Prop := e.key.size ≤ maxLen ∧ e.old.size ≤ maxLen ∧ e.now.size ≤ maxLen
theorem ev_at {w : World} {ok : Nat → Prop} {A : Option Addr} {n c : Nat} {xs : List Ev} (h : Rd evK w ok (.slice A n c) xs) {j : Nat} {e : Ev} (hs : xs[j]? = some e) :
    ∃ g off, A = some ⟨g, off, none⟩ ∧ ok g ∧ g < w.heap.size ∧ w.cell? ⟨g, off + j * 6, none⟩ = some (.int .i64 e.pos) ∧ w.cell? ⟨g, off + j * 6 + 1, none⟩ = some (.string e.key) ∧ w.cell? ⟨g, off + j * 6 + 2, none⟩ = some (.bool e.had) ∧
      w.cell? ⟨g, off + j * 6 + 3, none⟩ = some (.string e.old) ∧ w.cell? ⟨g, off + j * 6 + 4, none⟩ = some (.bool e.has) ∧ w.cell? ⟨g, off + j * 6 + 5, none⟩ = some (.string e.now) := by
  obtain ⟨g, off, rfl, hg, hgl, hc⟩ := h.flat_at hs
  exact ⟨g, off, rfl, hg, hgl, hc 0 _ rfl, hc 1 _ rfl, hc 2 _ rfl, hc 3 _ rfl, hc 4 _ rfl, hc 5 _ rfl⟩
def FewPost (l : List Ev) (w : World) (e : Ending) (w' : World) : Prop := ∃ b, e = .returned (.bool b) ∧ Ext Non w w' ∧ (b = true → l.length ≤ 200 ∧ ∀ x ∈ l, x.small)
set_option maxRecDepth 100000 in
set_option maxHeartbeats 8000000 in
theorem few_calls {w : World} {ok : Nat → Prop} {A : Option Addr} {n c : Nat} {l : List Ev} (H : Rd evK w ok (.slice A n c) l) (hok : ∀ x ∈ l, x.ok) : Calls Try.prog 23 #[.slice A n c] w (FewPost l w) := by
  obtain ⟨_, _, hs, _, hm⟩ := H.slice
  simp only [Value.slice.injEq] at hs
  obtain ⟨-, hn, -⟩ := hs
  have hmx : (n : Int) ≤ 9223372036854775807 := by omega
  have HH := Lib.hid H
  have HN := Lib.hid hn
  have HO := Lib.hid hok
  clear H hn hok hm
  go_enter Try.func23, Try.ntmps23
  go_wp2_with fail
  go_loopw [3, 4] (fun s i wr => ∃ (j : Nat) (N : Int), i = .int .i64 (j : Int) ∧ s = .int .i64 N ∧ j ≤ n ∧ 0 ≤ N ∧ N ≤ 40000 ∧ Hid (N ≤ 8192 → ∀ (k : Nat) x, k < j → l[k]? = some x → x.small) ∧ Hid (Ext Non w wr)) (fun _ i _ => n - (intOf i).toNat)
  case atStart => exact ⟨0, 0, rfl, rfl, by omega, by omega, by omega, fun _ k x h => absurd h (Nat.not_lt_zero k), Ext.refl _ _⟩
  case round =>
    obtain ⟨j, N, rfl, rfl, hj, n0, n1, HS, HE⟩ := hrel
    by_cases hgo : (j : Int) < (n : Int) ∧ (j : Int) ≤ 200 ∧ N ≤ 8192
    · obtain ⟨g1, g2, g3⟩ := hgo
      obtain ⟨x, hx⟩ : ∃ x, l[j]? = some x := ⟨_, List.getElem?_eq_getElem (by have := HN.out; omega)⟩
      obtain ⟨ge, off, rfl, hge, hgl, d0, d1, d2, d3, d4, d5⟩ := ev_at (HH.out.ext0 HE.out) hx
      obtain ⟨o1, o2, o3⟩ := HO.out x (List.mem_of_getElem? hx)
      have s1 : (x.key.size : Int) ≤ 9223372036854775807 := by simp only [maxLen] at o1; omega
      have s2 : (x.old.size : Int) ≤ 9223372036854775807 := by simp only [maxLen] at o2; omega
      have s3 : (x.now.size : Int) ≤ 9223372036854775807 := by simp only [maxLen] at o3; omega
      have HX := Lib.hid hx
      clear o1 o2 o3 hx
      rcases (show 8192 < (x.key.size : Int) ∨ (x.key.size : Int) ≤ 8192 by omega) with k1 | k1
      all_goals rcases (show 8192 < (x.old.size : Int) ∨ (x.old.size : Int) ≤ 8192 by omega) with k2 | k2
      all_goals rcases (show 8192 < (x.now.size : Int) ∨ (x.now.size : Int) ≤ 8192 by omega) with k3 | k3
      all_goals
        go_wp2_with fail
        go_region
        go_wp2_with fail
        go_roundw
        case rel =>
          refine ⟨j + 1, _, by go_num, rfl, by omega, by omega, by omega, ?_, by repeat (first | exact HE.out | refine Ext.drew ?_)⟩
          intro hle k y hk hy
          rcases Nat.lt_or_ge k j with h | h
          · exact HS.out (by omega) k y h hy
          · have hkj : k = j := by omega
            subst hkj
            rw [HX.out] at hy
            cases hy
            exact ⟨by omega, by omega, by omega⟩
        case measure => simp [intOf]; omega
    · have hfin : Hid (n ≤ 200 → N ≤ 8192 → l.length ≤ 200 ∧ ∀ x ∈ l, x.small) := by
        intro h1 h2
        have h3 : j = n := by omega
        refine ⟨by have := HN.out; omega, fun x hx => ?_⟩
        obtain ⟨k, hk⟩ := List.getElem?_of_mem hx
        have h4 := (List.getElem?_eq_some_iff.1 hk).1
        exact HS.out h2 k x (by have := HN.out; omega) hk
      rcases (show (j : Int) < (n : Int) ∨ (n : Int) ≤ (j : Int) by omega) with h1 | h1
      · rcases (show 200 < (j : Int) ∨ (j : Int) ≤ 200 by omega) with h2 | h2
        · go_wp2_with fail
          all_goals go_ret
          all_goals exact ⟨false, by first | rfl | (simp; omega), HE.out, fun h => by cases h⟩
        · have h3 : 8192 < N := by omega
          go_wp2_with fail
          all_goals go_ret
          all_goals exact ⟨false, by first | rfl | (simp; omega), HE.out, fun h => by cases h⟩
      · rcases (show 200 < (n : Int) ∨ (n : Int) ≤ 200 by omega) with h2 | h2
        · go_wp2_with fail
          all_goals go_ret
          all_goals exact ⟨false, by first | rfl | (simp; omega), HE.out, fun h => by cases h⟩
        · rcases (show 8192 < N ∨ N ≤ 8192 by omega) with h3 | h3
          · go_wp2_with fail
            all_goals go_ret
            all_goals exact ⟨false, by first | rfl | (simp; omega), HE.out, fun h => by cases h⟩
          · go_wp2_with fail
            all_goals go_ret
            all_goals exact ⟨true, by first | rfl | (simp; omega), HE.out, fun _ => hfin.out (by omega) h3⟩
end Go.Proofs.Ytooafilbmjnfmaa
