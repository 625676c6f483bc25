/- slices.IndexFunc over subscribers and events, with any function value that tells a plain law. -/
import Derived.Test.YtdjfijdnhfmeeaaQ2
namespace Go.Proofs.Ytdjfijdnhfmeeaa
open Go.RowKit Go.TM
/-- A function value tells a plain law of elements. -/
structure PredOn {α : Type} (d : Kd α) (fn : FuncId) (lb : Array Value) (p : α → Bool) (M ok : Nat → Prop) (w : World) : Prop where
  enters : ∀ args w, (callFunc fn args).run Try.prog w = .ok (.enter fn args) w
  tells : ∀ w1, Ext M w w1 → ∀ x cs, d.K w1 ok x cs → Calls Try.prog fn (#[.agg cs.toArray] ++ lb) w1 fun e w2 => e = .returned (.bool (p x)) ∧ Ext Non w1 w2
def findI {α : Type} (p : α → Bool) (xs : List α) : Int := match xs.findIdx? p with
  | some i => (i : Int)
  | none => -1
theorem findI_at {α : Type} {p : α → Bool} {xs : List α} {j : Nat} {x : α} (hx : xs[j]? = some x) (hp : p x = true) (ha : ∀ k y, k < j → xs[k]? = some y → p y = false) : findI p xs = (j : Int) := by
  have hj := (List.getElem?_eq_some_iff.1 hx).1
  have : xs.findIdx? p = some j := by
    rw [List.findIdx?_eq_some_iff_getElem]
    refine ⟨hj, ?_, fun k hk => ?_⟩
    · rw [(List.getElem?_eq_some_iff.1 hx).2]
      exact hp
    · rw [ha k _ hk (List.getElem?_eq_getElem (by omega))]
      simp
  unfold findI
  rw [this]
theorem findI_none {α : Type} {p : α → Bool} {xs : List α} (ha : ∀ (k : Nat) y, xs[k]? = some y → p y = false) : findI p xs = -1 := by
  have : xs.findIdx? p = none := by
    rw [List.findIdx?_eq_none_iff]
    intro x hx
    obtain ⟨k, hk⟩ := List.mem_iff_getElem?.1 hx
    exact ha k x hk
  unfold findI
  rw [this]
theorem findI_cases {α : Type} (p : α → Bool) (xs : List α) : (findI p xs = -1 ∧ ∀ x ∈ xs, p x = false) ∨ ∃ (i : Nat) (x : α), findI p xs = (i : Int) ∧ xs[i]? = some x ∧ p x = true ∧ ∀ k y, k < i → xs[k]? = some y → p y = false := by
  cases h : xs.findIdx? p with
  | none =>
    left
    refine ⟨by unfold findI; rw [h], ?_⟩
    exact List.findIdx?_eq_none_iff.1 h
  | some i =>
    right
    rw [List.findIdx?_eq_some_iff_getElem] at h
    obtain ⟨hi, h1, h2⟩ := h
    refine ⟨i, xs[i], ?_, List.getElem?_eq_getElem hi, h1, fun k y hk hy => ?_⟩
    · exact findI_at (List.getElem?_eq_getElem hi) h1 (fun k y hk hy => by
        have := h2 k hk
        rw [(List.getElem?_eq_some_iff.1 hy).2] at this
        simpa using this)
    · have := h2 k hk
      rw [(List.getElem?_eq_some_iff.1 hy).2] at this
      simpa using this
set_option maxRecDepth 100000 in
set_option maxHeartbeats 4000000 in
theorem IndexS_calls {w : World} {ok : Nat → Prop} {A : Option Addr} {k n c : Nat} {l : List Sb} {fn : FuncId} {lb : Array Value} {p : Sb → Bool} (H : Rd (sbK k) w ok (.slice A n c) l) (hp : PredOn (sbK k) fn lb p Non ok w) :
    Calls Try.prog 38 #[.slice A n c, .func (.func fn) #[] lb] w fun e w' => e = .returned (.int .i64 (findI p l)) ∧ Ext Non w w' := by
  obtain ⟨_, _, hs, _, hm⟩ := H.slice
  simp only [Value.slice.injEq] at hs
  obtain ⟨-, hn, -⟩ := hs
  have hmx : (n : Int) ≤ 9223372036854775807 := by omega
  have HH := Lib.hid H
  have HP := Lib.hid hp
  have HN := Lib.hid hn
  clear H hp hn hm
  go_enter Try.func38, Try.ntmps38
  go_wp2_with fail
  go_loopw [8] (fun i wr => ∃ j : Nat, i = .int .i64 (j : Int) ∧ j ≤ n ∧ Hid (Ext Non w wr) ∧ Hid (∀ k y, k < j → l[k]? = some y → p y = false)) (fun i _ => n - (intOf i).toNat)
  case atStart => exact ⟨0, rfl, by omega, Ext.refl _ _, fun k y hk => by omega⟩
  case round =>
    obtain ⟨j, rfl, hj, HE, HA⟩ := hrel
    by_cases hlt : j < n
    · obtain ⟨x, hx⟩ : ∃ x, l[j]? = some x := ⟨_, List.getElem?_eq_getElem (by have := HN.out; omega)⟩
      obtain ⟨ga, offa, B, bl, bd, rfl, hga, hgla, a0, a1, a2, a3, a4, a5, a6, a7, ar⟩ := sb_at (HH.out.ext0 HE.out) hx
      have hcall := HP.out.tells wr HE.out x _ ⟨_, rfl, ar⟩
      have HX := Lib.hid hx
      have eg := HP.out.enters
      clear hx ar
      cases hq : p x with
      | true =>
        rw [hq] at hcall
        have HQ := Lib.hid hq
        have HC := Lib.hid hcall
        clear hcall
        go_wp2_with fail
        refine HC.out.mono ?_
        rintro e w5 ⟨rfl, he⟩
        have HE5 := Lib.hid he
        clear he
        go_wp2_with fail
        go_ret
        refine ⟨?_, HE.out.trans0 HE5.out⟩
        rw [findI_at HX.out HQ.out HA.out]
        rfl
      | false =>
        rw [hq] at hcall
        have HQ := Lib.hid hq
        have HC := Lib.hid hcall
        clear hcall
        go_wp2_with fail
        refine HC.out.mono ?_
        rintro e w5 ⟨rfl, he⟩
        have HE5 := Lib.hid he
        clear he
        go_wp2_with fail
        go_roundw
        case rel =>
          refine ⟨j + 1, by go_num, by omega, HE.out.trans0 HE5.out, fun k y hk hy => ?_⟩
          rcases Nat.lt_succ_iff_lt_or_eq.1 hk with h | rfl
          · exact HA.out k y h hy
          · have := HX.out
            rw [hy] at this
            cases this
            exact HQ.out
        case measure => simp [intOf]; omega
    · obtain rfl : j = n := by omega
      go_wp2_with fail
      go_ret
      refine ⟨?_, HE.out⟩
      rw [findI_none (fun k y hk => HA.out k y (by have := (List.getElem?_eq_some_iff.1 hk).1; have := HN.out; omega) hk)]
      rfl
set_option maxRecDepth 100000 in
set_option maxHeartbeats 4000000 in
theorem IndexE_calls {w : World} {ok : Nat → Prop} {A : Option Addr} {n c : Nat} {l : List Ev} {fn : FuncId} {lb : Array Value} {p : Ev → Bool} (H : Rd evK w ok (.slice A n c) l) (hp : PredOn evK fn lb p Non ok w) :
    Calls Try.prog 91 #[.slice A n c, .func (.func fn) #[] lb] w fun e w' => e = .returned (.int .i64 (findI p l)) ∧ Ext Non w w' := by
  obtain ⟨_, _, hs, _, hm⟩ := H.slice
  simp only [Value.slice.injEq] at hs
  obtain ⟨-, hn, -⟩ := hs
  have hmx : (n : Int) ≤ 9223372036854775807 := by omega
  have HH := Lib.hid H
  have HP := Lib.hid hp
  have HN := Lib.hid hn
  clear H hp hn hm
  go_enter Try.func91, Try.ntmps91
  go_wp2_with fail
  go_loopw [8] (fun i wr => ∃ j : Nat, i = .int .i64 (j : Int) ∧ j ≤ n ∧ Hid (Ext Non w wr) ∧ Hid (∀ k y, k < j → l[k]? = some y → p y = false)) (fun i _ => n - (intOf i).toNat)
  case atStart => exact ⟨0, rfl, by omega, Ext.refl _ _, fun k y hk => by omega⟩
  case round =>
    obtain ⟨j, rfl, hj, HE, HA⟩ := hrel
    by_cases hlt : j < n
    · obtain ⟨x, hx⟩ : ∃ x, l[j]? = some x := ⟨_, List.getElem?_eq_getElem (by have := HN.out; omega)⟩
      obtain ⟨ga, offa, rfl, hga, hgla, a0, a1, a2, a3, a4, a5⟩ := ev_at (HH.out.ext0 HE.out) hx
      have hcall := HP.out.tells wr HE.out x _ rfl
      have HX := Lib.hid hx
      have eg := HP.out.enters
      clear hx
      cases hq : p x with
      | true =>
        rw [hq] at hcall
        have HQ := Lib.hid hq
        have HC := Lib.hid hcall
        clear hcall
        go_wp2_with fail
        refine HC.out.mono ?_
        rintro e w5 ⟨rfl, he⟩
        have HE5 := Lib.hid he
        clear he
        go_wp2_with fail
        go_ret
        refine ⟨?_, HE.out.trans0 HE5.out⟩
        rw [findI_at HX.out HQ.out HA.out]
        rfl
      | false =>
        rw [hq] at hcall
        have HQ := Lib.hid hq
        have HC := Lib.hid hcall
        clear hcall
        go_wp2_with fail
        refine HC.out.mono ?_
        rintro e w5 ⟨rfl, he⟩
        have HE5 := Lib.hid he
        clear he
        go_wp2_with fail
        go_roundw
        case rel =>
          refine ⟨j + 1, by go_num, by omega, HE.out.trans0 HE5.out, fun k y hk hy => ?_⟩
          rcases Nat.lt_succ_iff_lt_or_eq.1 hk with h | rfl
          · exact HA.out k y h hy
          · have := HX.out
            rw [hy] at this
            cases this
            exact HQ.out
        case measure => simp [intOf]; omega
    · obtain rfl : j = n := by omega
      go_wp2_with fail
      go_ret
      refine ⟨?_, HE.out⟩
      rw [findI_none (fun k y hk => HA.out k y (by have := (List.getElem?_eq_some_iff.1 hk).1; have := HN.out; omega) hk)]
      rfl
end Go.Proofs.Ytdjfijdnhfmeeaa
