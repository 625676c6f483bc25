/- slices.Grow of nothing, slices.Concat of lists of events. -/
import Derived.Test.YtooafilbmjnfmaaM7
import Derived.Lib.AppendZeros
namespace Go.Proofs.Ytooafilbmjnfmaa
open Go.RowKit Go.TM
def listK : Kd (List Ev) where
  sz := 1
  K := fun w ok x cs => ∃ v, cs = [v] ∧ Rd evK w ok v x
  len := fun ⟨_, h, _⟩ => by rw [h]; rfl
  one := fun ⟨v, h, hr⟩ u hu => by
    rw [h] at hu
    simp only [List.mem_cons, List.not_mem_nil, or_false] at hu
    subst hu
    obtain ⟨A, c, rfl, _⟩ := hr.slice
    rfl
  mono := fun hok ⟨v, h, hr⟩ => ⟨v, h, hr.mono hok⟩
  bound := fun ⟨v, h, hr⟩ => ⟨v, h, hr.bound⟩
  move := fun hm ⟨v, h, hr⟩ => ⟨v, h, hr.move' hm⟩
theorem erd_abs {w : World} {ok : Nat → Prop} {v : Value} {xs : List Ev} (h : Rd evK w ok v xs) : ∃ A n c, v = .slice A n c ∧ n = xs.length := by
  obtain ⟨A, c, h1, _, _⟩ := h.slice
  exact ⟨A, _, c, h1, rfl⟩
def OwnE (l : List Ev) (w : World) (e : Ending) (w' : World) : Prop :=
  ∃ A n c, e = .returned (.slice A n c) ∧ Hid (Own evK 42 w' w.heap.size (fun _ => True) (.slice A n c) l) ∧ Hid (Ext Non w w')
theorem own_zerosE (w : World) (cap : Nat) (cells : Array Value) (hc : cap ≤ maxLen) (hs : cells.size = cap * 6) : Own evK 42 (w.drew.alloc (.cells cells 42)) w.heap.size (fun _ => True) (.slice (some ⟨w.heap.size, 0, none⟩) 0 cap) [] :=
  Own.of_blk (sz := 6) (enc := Ev.cells) (hl := fun _ => rfl) (xs := []) (g := w.heap.size) (c := cap) (cur := cells) ⟨trivial, Nat.le_refl _, heap_alloc_new w.drew _, Nat.zero_le _, hc, hs, rfl⟩
def zeroE : Value := .agg #[.int .i64 0, .string ⟨#[]⟩, .bool false, .string ⟨#[]⟩, .bool false, .string ⟨#[]⟩]
set_option maxRecDepth 100000 in
set_option maxHeartbeats 4000000 in
theorem grow_calls (w : World) (n : Nat) (hn : n ≤ 1000000000) : Calls Try.prog 50 #[.slice none 0 0, .int .i64 (n : Int)] w (OwnE [] w) := by
  rcases Nat.eq_zero_or_pos n with rfl | h0
  · go_enter Try.func50, Try.ntmps50
    go_wp2_with fail
    go_ret
    exact ⟨_, _, _, rfl, Own.nil _ _ _ _ _, Ext.refl _ _⟩
  · obtain ⟨i0, hi, hzz⟩ := Option.map_eq_some_iff.1 info42
    simp only [Prod.mk.injEq] at hzz
    obtain ⟨hz0, hz1, hz2⟩ := hzz
    have hz0' : i0.zero = some zeroE := hz0
    have hs1 : i0.size = 6 := hz1
    have hcap : n ≤ grownCap w n 0 42 := grownCap_ge w n 0 42
    have hcm : grownCap w n 0 42 ≤ maxLen := by have := grownCap_le_maxLen w n 0 42 (by unfold maxLen; omega); simpa using this
    have hr := Lib.run_append_nil_zeros (P := Try.prog) w 44 3 44 42 i0 zeroE .i64 .i64 Try.underlying44 Try.underlying3 hi hz0' n h0 (by omega) (by omega) (by rw [hz2]; omega)
    obtain ⟨cap, hcp⟩ : ∃ cap, cap = grownCap w n 0 42 := ⟨_, rfl⟩
    obtain ⟨cells, hcl⟩ : ∃ cells, cells = Builtin.zeroCells zeroE.cells n ++ Builtin.zeroCells zeroE.cells (grownCap w n 0 42 - n) := ⟨_, rfl⟩
    have hsz : cells.size = cap * 6 := by
      rw [hcl, hcp, Array.size_append]
      have hcz : zeroE.cells.size = 6 := rfl
      simp [Builtin.zeroCells, hcz]
      omega
    rw [← hcl, ← hcp] at hr
    rw [← hcp] at hcm hcap
    have HO := Lib.hid (own_zerosE w cap cells hcm hsz)
    have HRr := Lib.hid hr
    have q1 : (0 : Int) < (n : Int) := by omega
    have q2 : ¬ (n : Int) < 0 := by omega
    have q3 : (n : Int) ≤ 1000000000 := by omega
    clear hi hz0 hz1 hz2 hs1 hcap hcm hr hcp hcl hsz h0 hz0'
    go_enter Try.func50, Try.ntmps50
    go_wp2_with (at_builtin; refine Lib.wpList_append_run _ rfl _ _ 44 3 rfl _ _ rfl rfl _ _ HRr.out ?_)
    go_ret
    exact ⟨_, _, _, rfl, HO.out, ((Ext.refl Non w).drew).alloc _⟩
theorem list_at {w : World} {ok : Nat → Prop} {A : Option Addr} {n c : Nat} {ls : List (List Ev)} (h : Rd listK w ok (.slice A n c) ls) {j : Nat} {b : List Ev} (hx : ls[j]? = some b) :
    ∃ g off B m d, A = some ⟨g, off, none⟩ ∧ g < w.heap.size ∧ w.cell? ⟨g, off + j, none⟩ = some (.slice B m d) ∧ Rd evK w ok (.slice B m d) b ∧ m = b.length := by
  obtain ⟨g, off, cs, rfl, hg, hgl, hk, hcs⟩ := h.at_ hx
  obtain ⟨v, rfl, hv⟩ := hk
  obtain ⟨B, m, d, rfl, hm⟩ := erd_abs hv
  refine ⟨g, off, B, m, d, rfl, hgl, ?_, hv, hm⟩
  have := hcs 0 _ rfl
  rwa [show off + (j * listK.sz + 0) = off + j from by show off + (j * 1 + 0) = _; omega] at this
theorem flat_take {ls : List (List Ev)} {j : Nat} {b : List Ev} (hx : ls[j]? = some b) : (ls.take (j + 1)).flatten = (ls.take j).flatten ++ b := by
  rw [List.take_add_one, hx]
  simp
theorem flat_le (ls : List (List Ev)) (j : Nat) : (ls.take j).flatten.length ≤ ls.flatten.length := by
  have h : ls.flatten = (ls.take j).flatten ++ (ls.drop j).flatten := by rw [← List.flatten_append, List.take_append_drop]
  rw [h, List.length_append]
  omega
set_option maxRecDepth 100000 in
set_option maxHeartbeats 4000000 in
theorem concat_calls {w : World} {ok : Nat → Prop} {A : Option Addr} {n c : Nat} {ls : List (List Ev)} (R : Rd listK w ok (.slice A n c) ls) (hn : n = ls.length) (hl : ls.length ≤ 1000000) (ht : ls.flatten.length ≤ 1000000000) :
    Calls Try.prog 37 #[.slice A n c] w (OwnE ls.flatten w) := by
  have HR := Lib.hid R
  have HN := Lib.hid hn
  have HT := Lib.hid ht
  have q0 : (n : Int) ≤ 1000000 := by omega
  clear R hn hl ht
  go_enter Try.func37, Try.ntmps37
  go_wp2_with fail
  go_loop [3, 11] (fun t i => ∃ j m : Nat, t = .int .i64 (m : Int) ∧ i = .int .i64 j ∧ j ≤ n ∧ Hid (m = (ls.take j).flatten.length)) (fun _ i => n - (intOf i).toNat)
  case atStart => exact ⟨0, 0, rfl, rfl, by omega, by show 0 = _; simp⟩
  case round =>
    obtain ⟨j, m, rfl, rfl, hj, HM⟩ := hrel
    by_cases hlt : j < n
    · obtain ⟨b, hx⟩ : ∃ b, ls[j]? = some b := ⟨_, List.getElem?_eq_getElem (by have := HN.out; omega)⟩
      obtain ⟨g, off, B, mb, d, rfl, hgl, e0, hv, hmb⟩ := list_at HR.out hx
      have h1 := flat_le ls (j + 1)
      have hft := flat_take hx
      have hnx : m + mb = (ls.take (j + 1)).flatten.length := by rw [hft, List.length_append, HM.out, hmb]
      have q1 : (m : Int) + (mb : Int) ≤ 1000000000 := by have := HT.out; omega
      have q2 : (0 : Int) ≤ (m : Int) + (mb : Int) := by omega
      have HNX := Lib.hid hnx
      clear hx hv hmb h1 hft hnx
      go_wp2_with fail
      go_round
      case rel => exact ⟨j + 1, m + mb, by go_num, by go_num, by omega, HNX.out⟩
      case measure => simp [intOf]; omega
    · obtain rfl : n = j := by omega
      have hm : m = ls.flatten.length := by rw [HM.out, List.take_of_length_le (by have := HN.out; omega)]
      have HM2 := Lib.hid hm
      have hmb : m ≤ 1000000000 := by have := HT.out; omega
      clear hlt hm
      go_wp2_with fail
      refine (grow_calls w m hmb).mono ?_
      rintro e w1 ⟨A1, n1, c1, rfl, ho, he⟩
      go_wp2_with fail
      go_loopw [6, 27] (fun v i wr => ∃ (j : Nat) (A2 : Option Addr) (n2 c2 : Nat), v = .slice A2 n2 c2 ∧ i = .int .i64 j ∧ j ≤ n ∧ Hid (Own evK 42 wr w.heap.size (fun _ => True) (.slice A2 n2 c2) (ls.take j).flatten) ∧ Hid (Ext Non w wr)) (fun _ i _ => n - (intOf i).toNat)
      case atStart => exact ⟨0, _, _, _, rfl, rfl, by omega, Lib.hid (by simpa using ho.out), he.out⟩
      case round =>
        obtain ⟨j, A2, n2, c2, rfl, rfl, hj2, HO, HEr⟩ := hrel
        by_cases hlt : j < n
        · obtain ⟨b, hx⟩ : ∃ b, ls[j]? = some b := ⟨_, List.getElem?_eq_getElem (by have := HN.out; omega)⟩
          obtain ⟨g, off, B, mb, d, rfl, hgl, e0, hv, hmb⟩ := list_at HR.out hx
          have e0 := HEr.out.cell e0 (fun e => e)
          have hft := flat_take hx
          have hle : ((ls.take j).flatten.length + b.length) * 72 ≤ 140737488355328 := by
            have h1 := flat_le ls (j + 1)
            rw [hft, List.length_append] at h1
            have := HT.out
            omega
          have HV := Lib.hid hv
          have HFT := Lib.hid hft
          have HLE := Lib.hid hle
          have HBL := Lib.hid HO.out.base_le
          have hszw := HEr.out.size
          clear hx hv hft hle hgl hmb
          go_wp2_with (at_builtin; refine wpList_app evK (ok := fun _ => True) (v := .slice A2 n2 c2) (vx := .slice B mb d) (xs := (ls.take j).flatten) (ys := b) w.heap.size rfl _ _ 44 42 _ 72 rfl Try.underlying44 info42 rfl (by decide) rfl rfl HO.out ((HV.out.bound.ext0 HEr.out).mono fun k hk => ⟨trivial, fun e => by have := (HBL.out k e.symm).1; have := hk.2; omega⟩) (fun _ _ => trivial) HLE.out (by have := HLE.out; omega) hszw ?_; intro v' w' hown hext hblk)
          obtain ⟨A4, n4, c4, rfl⟩ : ∃ A n c, v' = .slice A n c := by obtain ⟨A4, c4, h4, _, _⟩ := hown.slice; exact ⟨_, _, _, h4⟩
          have O4 := Lib.hid hown
          have E4 := Lib.hid (HEr.out.trans hext (fun i hi h => by have := (HBL.out _ h.symm).1; omega))
          clear hown hext hblk
          go_roundw
          case rel => exact ⟨j + 1, A4, n4, c4, rfl, by go_num, by omega, by show Own _ _ _ _ _ _ _; rw [HFT.out]; exact O4.out, E4.out⟩
          case measure => simp [intOf]; omega
        · obtain rfl : n = j := by omega
          have HF : Hid (Own evK 42 wr w.heap.size (fun _ => True) (.slice A2 n2 c2) ls.flatten) := by
            have h := HO.out
            rw [List.take_of_length_le (by have := HN.out; omega)] at h
            exact h
          go_wp2_with fail
          go_ret
          exact ⟨_, _, _, rfl, HF, HEr⟩
end Go.Proofs.Ytooafilbmjnfmaa
