/- SessNumbers: the walk. -/
import Derived.Test.YtiebnjkjgobklaaS7
namespace Go.Proofs.Ytiebnjkjgobklaa
open Go.RowKit Go.TM

theorem cmp26 (a b c d a' b' c' d' : Int) (w : World) : Calls Try.prog 26 #[.agg #[.int .i64 a, .int .i64 b, .int .i64 c, .int .i64 d], .agg #[.int .i64 a', .int .i64 b', .int .i64 c', .int .i64 d']] w fun e w' => e = .returned (.int .i64 (wrap64 (a - a'))) ∧ Ext Non w w' := by
  go_enter Try.func26, Try.ntmps26
  go_wp2
  go_ret
  exact ⟨rfl, ((Ext.refl _ _).alloc _).alloc _⟩

set_option maxHeartbeats 1000000 in
theorem sorted_calls {w : World} {ok : Nat → Prop} {A : Option Addr} {c : Nat} {xs : List Seat} {last : Int} (H : Rd seatK w ok (.slice A xs.length c) xs) (HG : Good xs last) :
    Calls Try.prog 25 #[.slice A xs.length c, .func (.func 26) #[] #[]] w fun e w' => e = .returned (.bool true) ∧ Ext Non w w' := by
  have HH := Lib.hid H
  have hfew := HG.few
  clear H
  go_enter Try.func25, Try.ntmps25
  go_wp2_with fail
  go_loopw [5] (fun i wr => ∃ j : Int, -1 ≤ j ∧ j < xs.length ∧ i = .int .i64 j ∧ Hid (Ext Non w wr)) (fun i _ => (intOf i).toNat)
  case atStart => exact ⟨(xs.length : Int) - 1, by omega, by omega, rfl, Ext.refl _ _⟩
  case round =>
    obtain ⟨j, hj0, hj, rfl, HE⟩ := hrel
    by_cases hlt : 0 < j
    · obtain ⟨k, rfl⟩ : ∃ k : Nat, j = (k : Int) + 1 := ⟨(j - 1).toNat, by omega⟩
      obtain ⟨s, hs⟩ : ∃ s, xs[k + 1]? = some s := ⟨_, List.getElem?_eq_getElem (by omega)⟩
      obtain ⟨t, ht⟩ : ∃ t, xs[k]? = some t := ⟨_, List.getElem?_eq_getElem (by omega)⟩
      obtain ⟨gl, off, rfl, _, hgl, hc⟩ := (HH.out.ext0 HE.out).flat_at hs
      obtain ⟨gl', off', he, _, hgl', hc'⟩ := (HH.out.ext0 HE.out).flat_at ht
      simp only [Option.some.injEq, Addr.mk.injEq, and_true] at he
      obtain ⟨rfl, rfl⟩ := he
      have d0 := hc 0 _ rfl
      have d1 := hc 1 _ rfl
      have d2 := hc 2 _ rfl
      have d3 := hc 3 _ rfl
      have f0 := hc' 0 _ rfl
      have f1 := hc' 1 _ rfl
      have f2 := hc' 2 _ rfl
      have f3 := hc' 3 _ rfl
      simp only [Nat.add_zero] at d0 f0
      have q1 : ((k : Int) + 1).toNat = k + 1 := by omega
      have q2 : (k : Int) + 1 - 1 = (k : Int) := by omega
      have hlt' := HG.lt ht hs (by omega)
      have g1 := HG.get hs
      have g2 := HG.get ht
      have hl1 := HG.last1
      have hge : ¬ wrap64 (s.ses - t.ses) < 0 := by unfold wrap64; omega
      have hge' : decide (wrap64 (s.ses - t.ses) < 0) = false := by simpa using hge
      have q3 : (0 : Int) ≤ (k : Int) + 1 := by omega
      have q4 : IntKind.i64.wrap (k : Int) = (k : Int) := IntWalk.i64_in _ (by omega)
      have q5 : (k : Int) < (xs.length : Int) := by omega
      clear hc hc' hs ht
      go_wp2_with fail
      go_region_law (go_simp; go_at_call 26; refine (cmp26 _ _ _ _ _ _ _ _ _).mono ?_; rintro e w1 ⟨rfl, he1⟩; have HE1 := Lib.hid he1; clear he1)
      all_goals
        go_wp2_with fail
        go_roundw
        case rel => exact ⟨k, by omega, by omega, rfl, (HE.out.drew).trans0 HE1.out⟩
        case measure => simp [intOf]
    · have hlt' : decide (0 < j) = false := by simpa using hlt
      go_wp2_with fail
      go_ret
      exact ⟨rfl, HE.out⟩

theorem step_kind {t : Tab} {k : Do} (h : k.kind < 2) : step t k = ((open_ t).e, (open_ t).tab) := if_pos h

/-- A session's number is the next one. -/
theorem open_id (t : Tab) : ((open_ t).e = 0 ∧ (open_ t).id = t.last + 1 ∧ (open_ t).tab.last = t.last + 1) ∨ ((open_ t).e ≠ 0 ∧ (open_ t).tab = t) := by
  unfold open_
  split
  · exact .inr ⟨by simp, rfl⟩
  · split
    · exact .inr ⟨by simp, rfl⟩
    · exact .inl ⟨rfl, rfl, rfl⟩
theorem step_last {t : Tab} {k : Do} (h : ¬ k.kind < 2) : (step t k).2.last = t.last := by
  unfold step
  rw [if_neg h]
  split
  · unfold close
    split <;> rfl
  · split
    · rfl
    · unfold keep
      split
      · rfl
      · split <;> rfl

set_option maxHeartbeats 2000000 in
set_option maxRecDepth 100000 in
theorem numbers_calls {w : World} {ok : Nat → Prop} {A : Option Addr} {c : Nat} {l : List Do} (H : Rd doK w ok (.slice A l.length c) l) (hl : ∀ k ∈ l, k.ok) :
    Calls Try.prog 6 #[.slice A l.length c] w fun e w' => e = .returned (.bool true) ∧ Ext Non w w' := by
  have HH := Lib.hid H
  have HL := Lib.hid hl
  clear H hl
  go_enter Try.func6, Try.ntmps6
  go_wp2_with (first | (go_at_call 11; refine (awake_calls _).mono ?_; rintro e w1 ⟨rfl, he⟩; have HE := Lib.hid he; clear he) | fail)
  · go_ret
    exact ⟨rfl, HE.out⟩
  refine (New_calls w).mono ?_
  rintro e w1 ⟨g, rfl, hg0, hg1, hT, hE⟩
  have HT := Lib.hid (hT (Mine w.heap.size g))
  have HE := Lib.hid hE
  clear hT hE
  go_wp2_with fail
  go_loopw [17, 4] (fun i n wr => ∃ (j : Nat) (t : Tab), j ≤ l.length ∧ i = .int .i64 j ∧ n = .int .i64 t.last ∧ Hid (Good t.seats t.last) ∧ Hid (TabAt wr (Mine w.heap.size g) g t) ∧ Hid (Ext Non w wr) ∧ g < wr.heap.size) (fun i _ _ => l.length - (intOf i).toNat)
  case atStart => exact ⟨0, ⟨[], 0⟩, by omega, rfl, rfl, Good.zero, HT.out, HE.out, hg1⟩
  case round =>
    obtain ⟨j, t, hj, rfl, rfl, hG, hTt, HEr, hgr⟩ := hrel
    by_cases hlt : j < l.length
    · obtain ⟨x, hx⟩ : ∃ x, l[j]? = some x := ⟨_, List.getElem?_eq_getElem hlt⟩
      obtain ⟨gl, off, rfl, _, hgl, hc⟩ := (HH.out.ext0 HEr.out).flat_at hx
      have d0 := hc 0 _ rfl
      have d1 := hc 1 _ rfl
      have d2 := hc 2 _ rfl
      have d3 := hc 3 _ rfl
      have d4 := hc 4 _ rfl
      simp only [Nat.add_zero] at d0
      have HX := Lib.hid (HL.out x (List.mem_of_getElem? hx))
      have hsz := HEr.out.size
      have hl0 := hG.out.last0
      have hl1 := hG.out.last1
      clear hc hx
      -- what follows the call: the list, its length, that it is sorted
      by_cases hk : x.kind < 2
      · have hk' : decide (1 < x.kind) = false := by simp; omega
        unfold Do.kind at hk'
        go_wp2_with fail
        refine (Open_calls (ok := Mine w.heap.size g) (hTt.out.ext ((Ext.refl Non wr).alloc _)) hG.out.last0 (fun i hi => ⟨by simp at hi; omega, by simp at hi; omega⟩) (fun h => h.2 rfl)).mono ?_
        rintro e w2 ⟨rfl, h3, h4⟩
        have HT2 := Lib.hid h3
        have E2 : Hid (Ext Non w w2) := (HEr.out.alloc _).trans h4 (fun i hi e => by
          have e' : i = g := e
          omega)
        have z2 := h4.size
        simp at z2
        have HG2 := Lib.hid hG.out.open_
        have hid := open_id t
        clear h3 h4
        generalize (open_ t).tab = t2 at HT2 HG2 hid
        generalize (open_ t).id = o1 at hid ⊢
        generalize (open_ t).e = o2 at hid ⊢
        rcases hid with ⟨rfl, rfl, hl2⟩ | ⟨h5, rfl⟩
        · have HLL := Lib.hid hl2
          clear hl2
          go_wp2_with fail
          refine (List_calls (ok := Mine w.heap.size g) HT2.out HG2.out.few (fun i hi => ⟨by omega, by omega⟩)).mono ?_
          rintro e w3 ⟨v', rfl, h3, h4⟩
          obtain ⟨A3, c3, rfl, hc3, hm3⟩ := h3.slice
          have R3 := Lib.hid h3.rd
          have E3 := Lib.hid (E2.out.trans0 h4)
          have HT3 := Lib.hid (HT2.out.ext h4)
          have z3 := h4.size
          have hfew := HG2.out.few
          clear h3 h4 hc3
          go_wp2_with (go_at_call 25; refine (sorted_calls R3.out HG2.out).mono ?_; rintro e w4 ⟨rfl, h4⟩; have E4 := Lib.hid h4; have z4 := h4.size; clear h4)
          go_roundw
          case rel => exact ⟨j + 1, t2, by omega, by go_num, by rw [HLL.out], HG2.out, HT3.out.ext E4.out, E3.out.trans0 E4.out, by omega⟩
          case measure => simp [intOf]; omega
        · have h5' : (o2 == 0) = false := by simpa using h5
          clear h5
          go_wp2_with fail
          refine (List_calls (ok := Mine w.heap.size g) HT2.out HG2.out.few (fun i hi => ⟨by omega, by omega⟩)).mono ?_
          rintro e w3 ⟨v', rfl, h3, h4⟩
          obtain ⟨A3, c3, rfl, hc3, hm3⟩ := h3.slice
          have R3 := Lib.hid h3.rd
          have E3 := Lib.hid (E2.out.trans0 h4)
          have HT3 := Lib.hid (HT2.out.ext h4)
          have z3 := h4.size
          have hfew := HG2.out.few
          clear h3 h4 hc3
          go_wp2_with (go_at_call 25; refine (sorted_calls R3.out HG2.out).mono ?_; rintro e w4 ⟨rfl, h4⟩; have E4 := Lib.hid h4; have z4 := h4.size; clear h4)
          go_roundw
          case rel => exact ⟨j + 1, _, by omega, by go_num, rfl, HG2.out, HT3.out.ext E4.out, E3.out.trans0 E4.out, by omega⟩
          case measure => simp [intOf]; omega
      · have hk' : (1 : Int) < x.kind := by omega
        unfold Do.kind at hk'
        go_wp2_with fail
        refine (does_calls (ok := Mine w.heap.size g) (hTt.out.ext ((Ext.refl Non wr).alloc _)) hG.out x HX.out (fun i hi => ⟨by simp at hi; omega, by simp at hi; omega⟩) (fun h => h.2 rfl)).mono ?_
        rintro e w2 ⟨rfl, h3, h4⟩
        have HT2 := Lib.hid h3
        have E2 : Hid (Ext Non w w2) := (HEr.out.alloc _).trans h4 (fun i hi e => by
          have e' : i = g := e
          omega)
        have z2 := h4.size
        simp at z2
        have HG2 := Lib.hid (hG.out.step x HX.out)
        have HLL := Lib.hid (step_last (t := t) (k := x) (by omega))
        clear h3 h4
        generalize (step t x).2 = t2 at HT2 HG2 HLL
        generalize (step t x).1 = o2
        go_wp2_with fail
        refine (List_calls (ok := Mine w.heap.size g) HT2.out HG2.out.few (fun i hi => ⟨by omega, by omega⟩)).mono ?_
        rintro e w3 ⟨v', rfl, h3, h4⟩
        obtain ⟨A3, c3, rfl, hc3, hm3⟩ := h3.slice
        have R3 := Lib.hid h3.rd
        have E3 := Lib.hid (E2.out.trans0 h4)
        have HT3 := Lib.hid (HT2.out.ext h4)
        have z3 := h4.size
        have hfew := HG2.out.few
        clear h3 h4 hc3
        go_wp2_with (go_at_call 25; refine (sorted_calls R3.out HG2.out).mono ?_; rintro e w4 ⟨rfl, h4⟩; have E4 := Lib.hid h4; have z4 := h4.size; clear h4)
        go_roundw
        case rel => exact ⟨j + 1, t2, by omega, by go_num, by rw [HLL.out], HG2.out, HT3.out.ext E4.out, E3.out.trans0 E4.out, by omega⟩
        case measure => simp [intOf]; omega
    · obtain rfl : j = l.length := by omega
      go_wp2_with (first | (go_at_call 11; refine (awake_calls _).mono ?_; rintro e w4 ⟨rfl, he⟩; have HE4 := Lib.hid he; clear he) | fail)
      go_ret
      exact ⟨rfl, HEr.out.trans0 HE4.out⟩
end Go.Proofs.Ytiebnjkjgobklaa
