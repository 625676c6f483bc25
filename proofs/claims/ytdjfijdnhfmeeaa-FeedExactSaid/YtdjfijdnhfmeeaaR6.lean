/- A feed stays within bounds; made. -/
import Derived.Test.YtdjfijdnhfmeeaaR5
namespace Go.Proofs.Ytdjfijdnhfmeeaa
open Go.RowKit Go.TM
theorem trimE_sub (l : List Sb) (evs : List Ev) : ∀ e ∈ trimE l evs, e ∈ evs := by
  intro e he
  unfold trimE at he
  cases h : lastS l with
  | none => rw [h] at he; cases he
  | some a => rw [h] at he; exact (List.mem_filter.1 he).1
theorem setAt_len (l : List Sb) (i : Nat) (f : Sb → Sb) : (setAt l i f).length = l.length := by
  unfold setAt
  split
  · rw [List.length_set]
  · rfl
theorem setAt_mem {l : List Sb} {i : Nat} {f : Sb → Sb} {s : Sb} (h : s ∈ setAt l i f) : s ∈ l ∨ ∃ y ∈ l, s = f y := by
  unfold setAt at h
  split at h
  · rename_i y hy
    rcases List.mem_or_eq_of_mem_set h with h | h
    · exact .inl h
    · exact .inr ⟨y, List.mem_of_getElem? hy, h⟩
  · exact .inl h
theorem Good.trim {n : Nat} {D : Fdr} (h : Good n D) : Good n (trimD D) :=
  ⟨h.next, h.top, Nat.le_trans (trimE_len _ _) h.evs, h.subs, fun e he => h.now e (trimE_sub _ _ e he), h.q⟩
/-- What does not hang on how many events are kept. -/
structure Most (n : Nat) (D : Fdr) : Prop where
  next : 1 ≤ D.next ∧ D.next ≤ 1099511627776
  top : 0 ≤ D.top ∧ D.top ≤ 1099511627776
  subs : D.subs.length ≤ 4
  now : ∀ e ∈ D.evs, e.now.size ≤ 1048576
  q : ∀ s ∈ D.subs, okF (n + 1) s.q ∧ okK (n + 1) s.q ∧ checkE (n + 1) s.q = 0
theorem Most.trim {n : Nat} {D : Fdr} (h : Most n D) : Most n (trimD D) :=
  ⟨h.next, h.top, h.subs, fun e he => h.now e (trimE_sub _ _ e he), h.q⟩
theorem goneD_eq (D : Fdr) : goneD D = D ∨ ∃ a, lastS D.subs = some a ∧ goneD D = { D with subs := setAt D.subs a toGone } := by
  unfold goneD
  cases h : lastS D.subs with
  | none => exact .inl rfl
  | some a => exact .inr ⟨a, rfl, rfl⟩
theorem Most.gone {n : Nat} {D : Fdr} (h : Most n D) : Most n (goneD D) := by
  rcases goneD_eq D with e | ⟨a, _, e⟩
  · rw [e]; exact h
  · rw [e]
    refine ⟨h.next, h.top, by show (setAt _ _ _).length ≤ 4; rw [setAt_len]; exact h.subs, h.now, fun s hs => ?_⟩
    rcases setAt_mem hs with hs | ⟨y, hy, rfl⟩
    · exact h.q s hs
    · exact h.q y hy
theorem Most.evict {n : Nat} : ∀ {k : Nat} {D : Fdr}, Most n D → Most n (evict k D)
  | 0, _, h => h
  | k + 1, D, h => by
    unfold Proofs.Ytdjfijdnhfmeeaa.evict
    split
    · exact Most.evict h.gone.trim
    · exact h
theorem liveN_zero {l : List Sb} (h : liveN l = 0) : lastS l = none := by
  cases hl : lastS l with
  | none => rfl
  | some a =>
    obtain ⟨s, hs, hg⟩ := lastTo_spec hl
    have := List.countP_eq_zero.1 h s (List.mem_of_getElem? hs)
    simp [hg] at this
theorem evict_le : ∀ {k : Nat} {D : Fdr}, liveN D.subs = k → (lastS D.subs = none → D.evs = []) → (evict k D).evs.length ≤ 32
  | 0, D, h, hn => by
    show D.evs.length ≤ 32
    rw [hn (liveN_zero h)]
    exact Nat.zero_le _
  | k + 1, D, h, hn => by
    unfold evict
    split
    · rename_i h32
      cases hl : lastS D.subs with
      | none =>
        rw [hn hl] at h32
        simp at h32
      | some a =>
        obtain ⟨s, hs, hg⟩ := lastTo_spec hl
        have hlv := liveN_gone hs hg
        have he : goneD D = { D with subs := D.subs.set a (toGone s) } := by unfold goneD; rw [hl]; simp only [setAt, hs]
        refine evict_le ?_ (fun hx => trimD_none hx)
        rw [he]
        show liveN (D.subs.set a (toGone s)) = k
        omega
    · omega
theorem note_good {n : Nat} {D : Fdr} {pos : Int} {l : List Ev} (h : Good n D) (hl : ∀ e ∈ l, e.now.size ≤ 32768) : Good n (noteR D pos l).2 := by
  unfold noteR
  split
  · exact h
  · split
    · exact h
    · rename_i h1 h2
      have hm : Most n (noteD D pos l) := by
        refine Most.trim ⟨h.next, ⟨?_, ?_⟩, h.subs, fun e he => ?_, h.q⟩
        · have := h.top.1
          show 0 ≤ pos
          omega
        · show pos ≤ _
          omega
        · rcases List.mem_append.1 he with he | he
          · exact h.now e he
          · obtain ⟨y, hy, rfl⟩ := List.mem_map.1 he
            have := hl y hy
            show y.now.size ≤ _
            omega
      have he := hm.evict (k := liveN (noteD D pos l).subs)
      exact ⟨he.next, he.top, evict_le rfl (fun hx => trimD_none hx), he.subs, he.now, he.q⟩
theorem step_good {n : Nat} {D : Fdr} {k : Dc} (h : Good n D) (hk : CallOk n k) : Good n (stepR n D k).2 := by
  unfold stepR
  split
  · rename_i h4
    show Good n (addR n D k.q).2
    unfold addR
    split
    · exact h
    · split
      · exact h
      · split
        · exact h
        · rename_i hc h1 h2
          refine ⟨⟨?_, ?_⟩, h.top, h.evs, ?_, h.now, fun s hs => ?_⟩
          · have := h.next.1
            show 1 ≤ D.next + 1
            omega
          · show D.next + 1 ≤ _
            omega
          · show (D.subs ++ [_]).length ≤ 4
            rw [List.length_append, List.length_singleton]
            omega
          · rcases List.mem_append.1 hs with hs | hs
            · exact h.q s hs
            · rw [List.mem_singleton] at hs
              subst hs
              exact ⟨hk.okf, hk.okk h4, by simpa using hc⟩
  · split
    · unfold dropR
      split
      · exact h
      · refine Good.trim ⟨h.next, h.top, h.evs, Nat.le_trans (List.length_filter_le _ _) h.subs, h.now, fun s hs => h.q s (List.mem_filter.1 hs).1⟩
    · split
      · unfold ackR
        split
        · exact h
        · split
          · exact h
          · split
            · exact h
            · refine Good.trim ⟨h.next, h.top, h.evs, by show (setAt _ _ _).length ≤ 4; rw [setAt_len]; exact h.subs, h.now, fun s hs => ?_⟩
              rcases setAt_mem hs with hs | ⟨y, hy, rfl⟩
              · exact h.q s hs
              · exact h.q y hy
      · split
        · exact h
        · exact note_good h hk.now
theorem newD_good (n : Nat) : Good n newD := ⟨by decide, by decide, Nat.zero_le _, Nat.zero_le _, fun e he => (by cases he), fun s hs => (by cases hs)⟩
/-- A feed behind calls. -/
def madeD (n : Nat) (l : List Dc) : Fdr := l.foldl (fun D k => (stepR n D k).2) newD
theorem madeD_snoc (n : Nat) (l : List Dc) (k : Dc) : madeD n (l ++ [k]) = (stepR n (madeD n l) k).2 := by unfold madeD; rw [List.foldl_append]; rfl
theorem good_fold {n : Nat} : ∀ {l : List Dc} {D : Fdr}, Good n D → (∀ k ∈ l, CallOk n k) → Good n (l.foldl (fun D k => (stepR n D k).2) D)
  | [], _, h, _ => h
  | k :: l, _, h, hk => good_fold (l := l) (step_good h (hk k (List.mem_cons_self ..))) (fun y hy => hk y (List.mem_cons_of_mem _ hy))
theorem madeD_good {n : Nat} {l : List Dc} (h : ∀ k ∈ l, CallOk n k) : Good n (madeD n l) := good_fold (newD_good n) h
theorem Fd.re {n : Nat} {ok ok' : Nat → Prop} {w : World} {g : Nat} {D : Fdr} (h : Fd n ok w g D) (hk : ∀ k, ok k → k < w.heap.size → ok' k) (hg : ¬ ok' g) : Fd n ok' w g D := by
  obtain ⟨A1, n1, c1, A2, n2, c2, hb, h1, h2, h3⟩ := h
  exact ⟨A1, n1, c1, A2, n2, c2, hb, h1.bound.mono (fun k hk' => hk k hk'.1 hk'.2), h2.bound.mono (fun k hk' => hk k hk'.1 hk'.2), hg⟩
set_option maxRecDepth 100000 in
set_option maxHeartbeats 4000000 in
theorem made_calls {w : World} {n : Nat} {ok okX : Nat → Prop} (hg : ¬ ok w.heap.size) (hf : ∀ k, w.heap.size < k → ok k) {A : Option Addr} {m c : Nat} {l : List Dc} (hr : Rd (doK n) w okX (.slice A m c) l) (hk : ∀ k ∈ l, CallOk n k) :
    Calls Try.prog 40 #[.slice A m c] w fun e w' => e = .returned (.pointer (some ⟨w.heap.size, 0, none⟩)) ∧ Fd n ok w' w.heap.size (madeD n l) ∧ Ext Non w w' := by
  obtain ⟨_, _, hs, _, hm⟩ := hr.slice
  simp only [Value.slice.injEq] at hs
  obtain ⟨-, hml, -⟩ := hs
  have hmx : (m : Int) ≤ 9223372036854775807 := by omega
  have HG := Lib.hid hg
  have HFR := Lib.hid hf
  have HR := Lib.hid hr.bound
  have HK := Lib.hid hk
  have HML := Lib.hid hml
  clear hg hf hr hk hml hm
  go_enter Try.func40, Try.ntmps40
  go_wp2_with fail
  refine (New_calls (n := n) HG.out).mono ?_
  rintro e w1 ⟨rfl, hf1, he1⟩
  have F1 := Lib.hid hf1
  have E1 := Lib.hid he1
  clear hf1 he1
  go_wp2_with fail
  go_loopw [9] (fun i wr => ∃ j : Nat, i = .int .i64 (j : Int) ∧ j ≤ m ∧ Hid (Ext Non w wr) ∧ Hid (Fd n ok wr w.heap.size (madeD n (l.take j)))) (fun i _ => m - (intOf i).toNat)
  case atStart => exact ⟨0, rfl, by omega, E1.out, F1.out⟩
  case round =>
    obtain ⟨j, rfl, hj, HE, HF⟩ := hrel
    by_cases hlt : j < m
    · obtain ⟨x, hx⟩ : ∃ x, l[j]? = some x := ⟨_, List.getElem?_eq_getElem (by have := HML.out; omega)⟩
      obtain ⟨ga, offa, B, bl, bd, C, ck, cf, rfl, hga, hgla, a0, a1, a2, a3, a4, a5, a6, a7, a8, a9, hu, hv⟩ := do_at (HR.out.ext0 HE.out) hx
      have HX := Lib.hid hx
      have HU := Lib.hid hu
      have HV := Lib.hid hv
      clear hu hv hx hga
      go_wp2_with fail
      have hgl : w.heap.size < wr.heap.size := by
        obtain ⟨se, ss, hb⟩ := HF.out.blk
        exact blk_lt hb
      obtain ⟨w2, hw2⟩ : ∃ w2, wr.alloc (.cells #[.int .i64 x.op, .int .i64 x.step, .int .i64 x.id, .int .i64 x.pos, .int .i64 x.most, .slice B bl bd, .int .i64 x.q.op, .string x.q.key, .string x.q.val, .slice C ck cf] 36) = w2 := ⟨_, rfl⟩
      have E2 : Hid (Ext Non wr w2) := by rw [← hw2]; exact (Ext.refl _ _).alloc _
      rw [hw2]
      refine (does_calls (n := n) (k := x) (HF.out.ext0 E2.out) (madeD_good (fun k hk => HK.out k (List.mem_of_mem_take hk))) (fun k hk => HFR.out k (by have := E2.out.size; omega)) ⟨_, _, rfl, HU.out.ext0 E2.out, HV.out.ext0 E2.out⟩ (fun h => by have := h.2; omega) (HK.out x (List.mem_of_getElem? HX.out))).mono ?_
      rintro e w5 ⟨rfl, hf5, he5⟩
      have F5 := Lib.hid hf5
      have E5 : Hid (Ext Non w w5) := (HE.out.trans0 E2.out).trans he5 (fun i hi h => by have h' : i = w.heap.size := h; omega)
      clear hf5 he5
      go_wp2_with fail
      go_roundw
      case rel =>
        refine ⟨j + 1, by go_num, by omega, E5.out, ?_⟩
        rw [List.take_succ_eq_append_getElem (by rw [← HML.out]; exact hlt), (List.getElem?_eq_some_iff.1 HX.out).2, madeD_snoc]
        exact F5.out
      case measure => simp [intOf]; omega
    · obtain rfl : j = m := by omega
      go_wp2_with fail
      go_ret
      have := HF.out
      rw [List.take_of_length_le (by rw [← HML.out]; exact Nat.le_refl _)] at this
      exact ⟨rfl, this, HE.out⟩
end Go.Proofs.Ytdjfijdnhfmeeaa
