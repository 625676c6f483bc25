/- A feed stays within bounds; made. The law's example. The law's short. What the laws' arguments read as: calls. -/
import Derived.Test.YtdjfijdnhfmeeaaR5
import Derived.Test.YtdjfijdnhfmeeaaMB
import Derived.Test.YtdjfijdnhfmeeaaHC
namespace Go.Proofs.Ytdjfijdnhfmeeaa
open Go.RowKit Go.TM
theorem trimE_sub (l : List Sb) (evs : List Ev) : ∀ e ∈ trimE l evs, e ∈ evs := by
  intro e he
  unfold trimE at he
  cases h : lastS l with
  | none => rw [h] at he; cases he
  | some a => rw [h] at he; exact (List.mem_filter.1 he).1
theorem setAt_len (l : List Sb) (i : Nat) (f : Sb → Sb) : (setAt l i f).length = l.length := by
  unfold setAt
  split
  · rw [List.length_set]
  · rfl
theorem setAt_mem {l : List Sb} {i : Nat} {f : Sb → Sb} {s : Sb} (h : s ∈ setAt l i f) : s ∈ l ∨ ∃ y ∈ l, s = f y := by
  unfold setAt at h
  split at h
  · rename_i y hy
    rcases List.mem_or_eq_of_mem_set h with h | h
    · exact .inl h
    · exact .inr ⟨y, List.mem_of_getElem? hy, h⟩
  · exact .inl h
theorem Good.trim {n : Nat} {D : Fdr} (h : Good n D) : Good n (trimD D) :=
  ⟨h.next, h.top, Nat.le_trans (trimE_len _ _) h.evs, h.subs, fun e he => h.now e (trimE_sub _ _ e he), h.q⟩
/-- What does not hang on how many events are kept. -/
structure Most (n : Nat) (D : Fdr) : Prop where
  next : 1 ≤ D.next ∧ D.next ≤ 1099511627776
  top : 0 ≤ D.top ∧ D.top ≤ 1099511627776
  subs : D.subs.length ≤ 4
  now : ∀ e ∈ D.evs, e.now.size ≤ 1048576
  q : ∀ s ∈ D.subs, okF (n + 1) s.q ∧ okK (n + 1) s.q ∧ checkE (n + 1) s.q = 0
theorem Most.trim {n : Nat} {D : Fdr} (h : Most n D) : Most n (trimD D) :=
  ⟨h.next, h.top, h.subs, fun e he => h.now e (trimE_sub _ _ e he), h.q⟩
theorem goneD_eq (D : Fdr) : goneD D = D ∨ ∃ a, lastS D.subs = some a ∧ goneD D = { D with subs := setAt D.subs a toGone } := by
  unfold goneD
  cases h : lastS D.subs with
  | none => exact .inl rfl
  | some a => exact .inr ⟨a, rfl, rfl⟩
theorem Most.gone {n : Nat} {D : Fdr} (h : Most n D) : Most n (goneD D) := by
  rcases goneD_eq D with e | ⟨a, _, e⟩
  · rw [e]; exact h
  · rw [e]
    refine ⟨h.next, h.top, by show (setAt _ _ _).length ≤ 4; rw [setAt_len]; exact h.subs, h.now, fun s hs => ?_⟩
    rcases setAt_mem hs with hs | ⟨y, hy, rfl⟩
    · exact h.q s hs
    · exact h.q y hy
theorem Most.evict {n : Nat} : ∀ {k : Nat} {D : Fdr}, Most n D → Most n (evict k D)
  | 0, _, h => h
  | k + 1, D, h => by
    unfold Proofs.Ytdjfijdnhfmeeaa.evict
    split
    · exact Most.evict h.gone.trim
    · exact h
theorem liveN_zero {l : List Sb} (h : liveN l = 0) : lastS l = none := by
  cases hl : lastS l with
  | none => rfl
  | some a =>
    obtain ⟨s, hs, hg⟩ := lastTo_spec hl
    have := List.countP_eq_zero.1 h s (List.mem_of_getElem? hs)
    simp [hg] at this
theorem evict_le : ∀ {k : Nat} {D : Fdr}, liveN D.subs = k → (lastS D.subs = none → D.evs = []) → (evict k D).evs.length ≤ 32
  | 0, D, h, hn => by
    show D.evs.length ≤ 32
    rw [hn (liveN_zero h)]
    exact Nat.zero_le _
  | k + 1, D, h, hn => by
    unfold evict
    split
    · rename_i h32
      cases hl : lastS D.subs with
      | none =>
        rw [hn hl] at h32
        simp at h32
      | some a =>
        obtain ⟨s, hs, hg⟩ := lastTo_spec hl
        have hlv := liveN_gone hs hg
        have he : goneD D = { D with subs := D.subs.set a (toGone s) } := by unfold goneD; rw [hl]; simp only [setAt, hs]
        refine evict_le ?_ (fun hx => trimD_none hx)
        rw [he]
        show liveN (D.subs.set a (toGone s)) = k
        omega
    · omega
theorem note_good {n : Nat} {D : Fdr} {pos : Int} {l : List Ev} (h : Good n D) (hl : ∀ e ∈ l, e.now.size ≤ 32768) : Good n (noteR D pos l).2 := by
  unfold noteR
  split
  · exact h
  · split
    · exact h
    · rename_i h1 h2
      have hm : Most n (noteD D pos l) := by
        refine Most.trim ⟨h.next, ⟨?_, ?_⟩, h.subs, fun e he => ?_, h.q⟩
        · have := h.top.1
          show 0 ≤ pos
          omega
        · show pos ≤ _
          omega
        · rcases List.mem_append.1 he with he | he
          · exact h.now e he
          · obtain ⟨y, hy, rfl⟩ := List.mem_map.1 he
            have := hl y hy
            show y.now.size ≤ _
            omega
      have he := hm.evict (k := liveN (noteD D pos l).subs)
      exact ⟨he.next, he.top, evict_le rfl (fun hx => trimD_none hx), he.subs, he.now, he.q⟩
theorem step_good {n : Nat} {D : Fdr} {k : Dc} (h : Good n D) (hk : CallOk n k) : Good n (stepR n D k).2 := by
  unfold stepR
  split
  · rename_i h4
    show Good n (addR n D k.q).2
    unfold addR
    split
    · exact h
    · split
      · exact h
      · split
        · exact h
        · rename_i hc h1 h2
          refine ⟨⟨?_, ?_⟩, h.top, h.evs, ?_, h.now, fun s hs => ?_⟩
          · have := h.next.1
            show 1 ≤ D.next + 1
            omega
          · show D.next + 1 ≤ _
            omega
          · show (D.subs ++ [_]).length ≤ 4
            rw [List.length_append, List.length_singleton]
            omega
          · rcases List.mem_append.1 hs with hs | hs
            · exact h.q s hs
            · rw [List.mem_singleton] at hs
              subst hs
              exact ⟨hk.okf, hk.okk h4, by simpa using hc⟩
  · split
    · unfold dropR
      split
      · exact h
      · refine Good.trim ⟨h.next, h.top, h.evs, Nat.le_trans (List.length_filter_le _ _) h.subs, h.now, fun s hs => h.q s (List.mem_filter.1 hs).1⟩
    · split
      · unfold ackR
        split
        · exact h
        · split
          · exact h
          · split
            · exact h
            · refine Good.trim ⟨h.next, h.top, h.evs, by show (setAt _ _ _).length ≤ 4; rw [setAt_len]; exact h.subs, h.now, fun s hs => ?_⟩
              rcases setAt_mem hs with hs | ⟨y, hy, rfl⟩
              · exact h.q s hs
              · exact h.q y hy
      · split
        · exact h
        · exact note_good h hk.now
theorem newD_good (n : Nat) : Good n newD := ⟨by decide, by decide, Nat.zero_le _, Nat.zero_le _, fun e he => (by cases he), fun s hs => (by cases hs)⟩
/-- A feed behind calls. -/
def madeD (n : Nat) (l : List Dc) : Fdr := l.foldl (fun D k => (stepR n D k).2) newD
theorem madeD_snoc (n : Nat) (l : List Dc) (k : Dc) : madeD n (l ++ [k]) = (stepR n (madeD n l) k).2 := by unfold madeD; rw [List.foldl_append]; rfl
theorem good_fold {n : Nat} : ∀ {l : List Dc} {D : Fdr}, Good n D → (∀ k ∈ l, CallOk n k) → Good n (l.foldl (fun D k => (stepR n D k).2) D)
  | [], _, h, _ => h
  | k :: l, _, h, hk => good_fold (l := l) (step_good h (hk k (List.mem_cons_self ..))) (fun y hy => hk y (List.mem_cons_of_mem _ hy))
theorem madeD_good {n : Nat} {l : List Dc} (h : ∀ k ∈ l, CallOk n k) : Good n (madeD n l) := good_fold (newD_good n) h
theorem Fd.re {n : Nat} {ok ok' : Nat → Prop} {w : World} {g : Nat} {D : Fdr} (h : Fd n ok w g D) (hk : ∀ k, ok k → k < w.heap.size → ok' k) (hg : ¬ ok' g) : Fd n ok' w g D := by
  obtain ⟨A1, n1, c1, A2, n2, c2, hb, h1, h2, h3⟩ := h
  exact ⟨A1, n1, c1, A2, n2, c2, hb, h1.bound.mono (fun k hk' => hk k hk'.1 hk'.2), h2.bound.mono (fun k hk' => hk k hk'.1 hk'.2), hg⟩
set_option maxRecDepth 100000 in
set_option maxHeartbeats 4000000 in
theorem made_calls {w : World} {n : Nat} {ok okX : Nat → Prop} (hg : ¬ ok w.heap.size) (hf : ∀ k, w.heap.size < k → ok k) {A : Option Addr} {m c : Nat} {l : List Dc} (hr : Rd (doK n) w okX (.slice A m c) l) (hk : ∀ k ∈ l, CallOk n k) :
    Calls Try.prog 40 #[.slice A m c] w fun e w' => e = .returned (.pointer (some ⟨w.heap.size, 0, none⟩)) ∧ Fd n ok w' w.heap.size (madeD n l) ∧ Ext Non w w' := by
  obtain ⟨_, _, hs, _, hm⟩ := hr.slice
  simp only [Value.slice.injEq] at hs
  obtain ⟨-, hml, -⟩ := hs
  have hmx : (m : Int) ≤ 9223372036854775807 := by omega
  have HG := Lib.hid hg
  have HFR := Lib.hid hf
  have HR := Lib.hid hr.bound
  have HK := Lib.hid hk
  have HML := Lib.hid hml
  clear hg hf hr hk hml hm
  go_enter Try.func40, Try.ntmps40
  go_wp2_with fail
  refine (New_calls (n := n) HG.out).mono ?_
  rintro e w1 ⟨rfl, hf1, he1⟩
  have F1 := Lib.hid hf1
  have E1 := Lib.hid he1
  clear hf1 he1
  go_wp2_with fail
  go_loopw [9] (fun i wr => ∃ j : Nat, i = .int .i64 (j : Int) ∧ j ≤ m ∧ Hid (Ext Non w wr) ∧ Hid (Fd n ok wr w.heap.size (madeD n (l.take j)))) (fun i _ => m - (intOf i).toNat)
  case atStart => exact ⟨0, rfl, by omega, E1.out, F1.out⟩
  case round =>
    obtain ⟨j, rfl, hj, HE, HF⟩ := hrel
    by_cases hlt : j < m
    · obtain ⟨x, hx⟩ : ∃ x, l[j]? = some x := ⟨_, List.getElem?_eq_getElem (by have := HML.out; omega)⟩
      obtain ⟨ga, offa, B, bl, bd, C, ck, cf, rfl, hga, hgla, a0, a1, a2, a3, a4, a5, a6, a7, a8, a9, hu, hv⟩ := do_at (HR.out.ext0 HE.out) hx
      have HX := Lib.hid hx
      have HU := Lib.hid hu
      have HV := Lib.hid hv
      clear hu hv hx hga
      go_wp2_with fail
      have hgl : w.heap.size < wr.heap.size := by
        obtain ⟨se, ss, hb⟩ := HF.out.blk
        exact blk_lt hb
      obtain ⟨w2, hw2⟩ : ∃ w2, wr.alloc (.cells #[.int .i64 x.op, .int .i64 x.step, .int .i64 x.id, .int .i64 x.pos, .int .i64 x.most, .slice B bl bd, .int .i64 x.q.op, .string x.q.key, .string x.q.val, .slice C ck cf] 36) = w2 := ⟨_, rfl⟩
      have E2 : Hid (Ext Non wr w2) := by rw [← hw2]; exact (Ext.refl _ _).alloc _
      rw [hw2]
      refine (does_calls (n := n) (k := x) (HF.out.ext0 E2.out) (madeD_good (fun k hk => HK.out k (List.mem_of_mem_take hk))) (fun k hk => HFR.out k (by have := E2.out.size; omega)) ⟨_, _, rfl, HU.out.ext0 E2.out, HV.out.ext0 E2.out⟩ (fun h => by have := h.2; omega) (HK.out x (List.mem_of_getElem? HX.out))).mono ?_
      rintro e w5 ⟨rfl, hf5, he5⟩
      have F5 := Lib.hid hf5
      have E5 : Hid (Ext Non w w5) := (HE.out.trans0 E2.out).trans he5 (fun i hi h => by have h' : i = w.heap.size := h; omega)
      clear hf5 he5
      go_wp2_with fail
      go_roundw
      case rel =>
        refine ⟨j + 1, by go_num, by omega, E5.out, ?_⟩
        rw [List.take_succ_eq_append_getElem (by rw [← HML.out]; exact hlt), (List.getElem?_eq_some_iff.1 HX.out).2, madeD_snoc]
        exact F5.out
      case measure => simp [intOf]; omega
    · obtain rfl : j = m := by omega
      go_wp2_with fail
      go_ret
      have := HF.out
      rw [List.take_of_length_le (by rw [← HML.out]; exact Nat.le_refl _)] at this
      exact ⟨rfl, this, HE.out⟩
end Go.Proofs.Ytdjfijdnhfmeeaa

namespace Go.Proofs.Ytdjfijdnhfmeeaa
open Go.RowKit Go.TM
def qA : Flt := .mk 0 ⟨#[]⟩ ⟨#[]⟩ []
def evC (c : UInt8) (p : Int) : Ev := ⟨p, ⟨#[c]⟩, false, ⟨#[]⟩, false, ⟨#[]⟩⟩
def aw1 : Fdr := ⟨[], [⟨1, 0, 0, qA, false⟩], 2, 0⟩
def aw2 : Fdr := ⟨[evC 97 5, evC 98 5], [⟨1, 0, 0, qA, false⟩], 2, 5⟩
def aw3 : Fdr := ⟨[evC 97 5, evC 98 5], [⟨1, 0, 0, qA, false⟩], 2, 6⟩
def aw4 : Fdr := ⟨[evC 97 5, evC 98 5, evC 99 7], [⟨1, 0, 0, qA, false⟩], 2, 7⟩
def aw5 : Fdr := ⟨[evC 99 7], [⟨1, 0, 6, qA, false⟩], 2, 7⟩
set_option maxRecDepth 100000 in
theorem aw_add : addR 0 newD qA = ((1, 0), aw1) := by kernel_rfl
set_option maxRecDepth 100000 in
theorem aw_n1 : noteR aw1 5 [evC 97 0, evC 98 0] = (0, aw2) := by kernel_rfl
set_option maxRecDepth 100000 in
theorem aw_n2 : noteR aw2 6 [] = (0, aw3) := by kernel_rfl
set_option maxRecDepth 100000 in
theorem aw_n3 : noteR aw3 7 [evC 99 0] = (0, aw4) := by kernel_rfl
set_option maxRecDepth 100000 in
theorem aw_r1 : readR 0 aw4 1 0 1 = ([evC 97 5, evC 98 5], 5, 0) := by kernel_rfl
set_option maxRecDepth 100000 in
theorem aw_r2 : readR 0 aw4 1 5 9 = ([evC 99 7], 7, 0) := by kernel_rfl
set_option maxRecDepth 100000 in
theorem aw_a1 : ackR aw4 1 6 = (0, aw5) := by kernel_rfl
set_option maxRecDepth 100000 in
theorem aw_a2 : ackR aw5 1 5 = (82, aw5) := by kernel_rfl
theorem okf_qA : okF 1 qA := ⟨by unfold inI; decide, by decide, by decide, by decide, fun k hk => by cases hk⟩
theorem okk_qA : okK 1 qA := ⟨by decide, fun k hk => by cases hk⟩
theorem aw_ok {D : Fdr} (h : D.subs = [⟨1, 0, 0, qA, false⟩]) : ∀ s ∈ D.subs, okF (0 + 1) s.q := by
  intro s hs
  rw [h, List.mem_singleton] at hs
  subst hs
  exact okf_qA
set_option maxRecDepth 100000 in
set_option maxHeartbeats 8000000 in
theorem awake_calls (w : World) : Calls Try.prog 13 #[] w fun e w' => e = .returned (.bool true) ∧ Ext Non w w' := by
  obtain ⟨g, hg⟩ : ∃ g, w.heap.size = g := ⟨_, rfl⟩
  obtain ⟨ok, hok⟩ : ∃ ok : Nat → Prop, ok = fun k => g < k := ⟨_, rfl⟩
  have FR : Hid (∀ w1 : World, g < w1.heap.size → Fresh ok w1) := fun w1 h k hk => by rw [hok]; show g < k; omega
  have HNO : Hid (¬ ok g) := by rw [hok]; exact Nat.lt_irrefl _
  have HKO : Hid (∀ k, g < k → ok k) := fun k h => by rw [hok]; exact h
  clear hok
  go_enter Try.func13, Try.ntmps13
  go_wp2_with fail
  refine (New_calls (n := 0) (ok := ok) (by rw [hg]; exact HNO.out)).mono ?_
  rintro e w1 ⟨rfl, hf1, he1⟩
  rw [hg] at hf1 ⊢
  have F1 := Lib.hid hf1
  have E1 := Lib.hid he1
  have hl1 : g < w1.heap.size := by
    obtain ⟨se, ss, hb⟩ := hf1.blk
    exact blk_lt hb
  clear hf1 he1
  go_wp2_with fail
  refine (Add_calls (n := 0) (okX := fun _ => False) (f := qA) F1.out (by decide) (by decide) (FR.out _ hl1) ⟨_, rfl, Rd.nil _ _ _⟩ okf_qA okk_qA).mono ?_
  rintro e w2 ⟨rfl, hf2, he2⟩
  rw [aw_add] at hf2 ⊢
  have F2 : Hid (Fd 0 ok w2 g aw1) := hf2
  have E2 : Hid (Ext (Only g) w w2) := E1.out.of0.trans he2 (fun _ _ h => h)
  have hl2 := Nat.lt_of_lt_of_le hl1 he2.size
  clear hf2 he2
  go_wp2_with fail
  have R2 : Rd evK (w2.alloc (.cells ([evC 97 0, evC 98 0].flatMap Ev.cells).toArray 43)) ok (.slice (some ⟨w2.heap.size, 0, none⟩) 2 2) [evC 97 0, evC 98 0] :=
    (Own.lit (d := evK) (e := 43) (base := 0) (w := w2) (ok := ok) (Reps.flat [evC 97 0, evC 98 0]) (Nat.zero_le _) (by decide) (HKO.out _ hl2)).rd
  refine (Note_calls (n := 0) (l := [evC 97 0, evC 98 0]) (F2.out.ext0 ((Ext.refl Non w2).alloc _)) (by decide) (by decide) (by decide) (FR.out _ (by simp; omega)) R2 HNO.out (by decide) 5).mono ?_
  rintro e w3 ⟨rfl, hf3, he3⟩
  rw [aw_n1] at hf3 ⊢
  have F3 : Hid (Fd 0 ok w3 g aw2) := hf3
  have E3 : Hid (Ext (Only g) w w3) := E2.out.trans (((Ext.refl (Only g) w2).alloc _).trans he3 (fun _ _ h => h)) (fun _ _ h => h)
  have hl3 : g < w3.heap.size := Nat.lt_of_lt_of_le (by simp; omega) he3.size
  clear hf3 he3 R2
  go_wp2_with fail
  refine (Note_calls (n := 0) (l := []) (okA := fun _ => False) F3.out (by decide) (by decide) (by decide) (FR.out _ hl3) (Rd.nil _ _ _) (fun h => h) (by decide) 6).mono ?_
  rintro e w4 ⟨rfl, hf4, he4⟩
  rw [aw_n2] at hf4 ⊢
  have F4 : Hid (Fd 0 ok w4 g aw3) := hf4
  have E4 : Hid (Ext (Only g) w w4) := E3.out.trans he4 (fun _ _ h => h)
  have hl4 : g < w4.heap.size := Nat.lt_of_lt_of_le hl3 he4.size
  clear hf4 he4
  go_wp2_with fail
  have R4 : Rd evK (w4.alloc (.cells ([evC 99 0].flatMap Ev.cells).toArray 43)) ok (.slice (some ⟨w4.heap.size, 0, none⟩) 1 1) [evC 99 0] :=
    (Own.lit (d := evK) (e := 43) (base := 0) (w := w4) (ok := ok) (Reps.flat [evC 99 0]) (Nat.zero_le _) (by decide) (HKO.out _ hl4)).rd
  refine (Note_calls (n := 0) (l := [evC 99 0]) (F4.out.ext0 ((Ext.refl Non w4).alloc _)) (by decide) (by decide) (by decide) (FR.out _ (by simp; omega)) R4 HNO.out (by decide) 7).mono ?_
  rintro e w5 ⟨rfl, hf5, he5⟩
  rw [aw_n3] at hf5 ⊢
  have F5 : Hid (Fd 0 ok w5 g aw4) := hf5
  have E5 : Hid (Ext (Only g) w w5) := E4.out.trans (((Ext.refl (Only g) w4).alloc _).trans he5 (fun _ _ h => h)) (fun _ _ h => h)
  have hl5 : g < w5.heap.size := Nat.lt_of_lt_of_le (by simp; omega) he5.size
  clear hf5 he5 R4
  go_wp2_with fail
  refine (Read_calls (n := 0) F5.out (by decide) (by decide) (by decide) (aw_ok rfl) 1 0 1).mono ?_
  rintro e w6 ⟨B6, m6, d6, rfl, ho6, he6⟩
  rw [aw_r1] at ho6 ⊢
  have hm6 : m6 = 2 := by
    obtain ⟨_, _, hs, _, _⟩ := ho6.slice
    simp only [Value.slice.injEq] at hs
    exact hs.2.1
  subst hm6
  have F6 : Hid (Fd 0 ok w6 g aw4) := F5.out.ext0 he6
  have E6 : Hid (Ext (Only g) w w6) := E5.out.trans0 he6
  have hl6 : g < w6.heap.size := Nat.lt_of_lt_of_le hl5 he6.size
  clear ho6 he6
  go_wp2_with fail
  refine (Read_calls (n := 0) F6.out (by decide) (by decide) (by decide) (aw_ok rfl) 1 5 9).mono ?_
  rintro e w7 ⟨B7, m7, d7, rfl, ho7, he7⟩
  rw [aw_r2] at ho7 ⊢
  have hm7 : m7 = 1 := by
    obtain ⟨_, _, hs, _, _⟩ := ho7.slice
    simp only [Value.slice.injEq] at hs
    exact hs.2.1
  subst hm7
  obtain ⟨ga, offa, rfl, hga, hgla, d0, d1, d2, d3, d4, d5⟩ := ev_at ho7.rd (j := 0) (e := evC 99 7) rfl
  have F7 : Hid (Fd 0 ok w7 g aw4) := F6.out.ext0 he7
  have E7 : Hid (Ext (Only g) w w7) := E6.out.trans0 he7
  have hl7 : g < w7.heap.size := Nat.lt_of_lt_of_le hl6 he7.size
  have a0 : w7.cell? ⟨ga, offa, none⟩ = some (.int .i64 7) := by simpa [evC] using d0
  have a1 : w7.cell? ⟨ga, offa + 1, none⟩ = some (.string ⟨#[99]⟩) := by simpa [evC] using d1
  have a2 : w7.cell? ⟨ga, offa + 2, none⟩ = some (.bool false) := by simpa [evC] using d2
  have a3 : w7.cell? ⟨ga, offa + 3, none⟩ = some (.string ⟨#[]⟩) := by simpa [evC] using d3
  have a4 : w7.cell? ⟨ga, offa + 4, none⟩ = some (.bool false) := by simpa [evC] using d4
  have a5 : w7.cell? ⟨ga, offa + 5, none⟩ = some (.string ⟨#[]⟩) := by simpa [evC] using d5
  clear ho7 he7 hga d0 d1 d2 d3 d4 d5
  go_wp2_with fail
  refine (Ack_calls F7.out (by decide) (by decide) (by decide) (FR.out _ hl7) 1 6).mono ?_
  rintro e w8 ⟨rfl, hf8, he8⟩
  rw [aw_a1] at hf8 ⊢
  have F8 : Hid (Fd 0 ok w8 g aw5) := hf8
  have E8 : Hid (Ext (Only g) w w8) := E7.out.trans he8 (fun _ _ h => h)
  have hl8 : g < w8.heap.size := Nat.lt_of_lt_of_le hl7 he8.size
  clear hf8 he8 a0 a1 a2 a3 a4 a5
  go_wp2_with fail
  refine (Kept_calls F8.out (by decide) (by decide) (FR.out _ hl8)).mono ?_
  rintro e w9 ⟨B9, m9, d9, rfl, ho9, he9⟩
  have hm9 : m9 = 1 := by
    obtain ⟨_, _, hs, _, _⟩ := ho9.slice
    simp only [Value.slice.injEq] at hs
    exact hs.2.1
  subst hm9
  have F9 : Hid (Fd 0 ok w9 g aw5) := F8.out.ext0 he9
  have E9 : Hid (Ext (Only g) w w9) := E8.out.trans0 he9
  have hl9 : g < w9.heap.size := Nat.lt_of_lt_of_le hl8 he9.size
  clear ho9 he9
  go_wp2_with fail
  refine (Ack_calls F9.out (by decide) (by decide) (by decide) (FR.out _ hl9) 1 5).mono ?_
  rintro e w10 ⟨rfl, hf10, he10⟩
  rw [aw_a2] at hf10 ⊢
  have E10 : Hid (Ext Non w w10) := (E9.out.trans he10 (fun _ _ h => h)).mono (fun i hi h => by have h' : i = g := h; omega)
  clear hf10 he10
  go_wp2_with fail
  go_ret
  exact ⟨rfl, E10.out⟩
end Go.Proofs.Ytdjfijdnhfmeeaa

namespace Go.Proofs.Ytdjfijdnhfmeeaa
open Go.RowKit Go.TM
def EvS (e : Ev) : Prop := e.key.size ≤ 32768 ∧ e.old.size ≤ 32768 ∧ e.now.size ≤ 32768
def EvsS (k : Dc) : Prop := k.evs.length ≤ 32768 ∧ ∀ e ∈ k.evs, EvS e
def LitS (n : Nat) (k : Dc) : Prop := opc k = 4 → lightF (n + 1) k.q = true
/-- What any call is, by its type. -/
def DcV (n : Nat) (k : Dc) : Prop := okF (n + 1) k.q ∧ ∀ e ∈ k.evs, e.ok
theorem callOk {n : Nat} {k : Dc} (hv : DcV n k) (he : EvsS k) (hl : LitS n k) : CallOk n k := ⟨hv.1, fun h => light_okK (hl h), he.1, fun e h => (he.2 e h).2.2⟩
def ShortPost (n : Nat) (l : List Dc) (w : World) (e : Ending) (w' : World) : Prop := ∃ b, e = .returned (.bool b) ∧ Ext Non w w' ∧ (b = true → l.length ≤ 120 ∧ ∀ k ∈ l, EvsS k ∧ LitS n k)
set_option maxRecDepth 100000 in
set_option maxHeartbeats 16000000 in
theorem short_calls {w : World} {n : Nat} {ok : Nat → Prop} {A : Option Addr} {m c : Nat} {l : List Dc} (hr : Rd (doK n) w ok (.slice A m c) l) (hv : ∀ k ∈ l, DcV n k) : Calls Try.prog 11 #[.slice A m c] w (ShortPost n l w) := by
  obtain ⟨_, _, hs, _, hm⟩ := hr.slice
  simp only [Value.slice.injEq] at hs
  obtain ⟨-, hml, -⟩ := hs
  have hmx : (m : Int) ≤ 9223372036854775807 := by omega
  have HR := Lib.hid hr
  have HV := Lib.hid hv
  have HML := Lib.hid hml
  clear hr hv hml hm
  go_enter Try.func11, Try.ntmps11
  go_wp2_with fail
  go_loopw [3, 4] (fun s i wr => ∃ (j : Nat) (N : Int), i = .int .i64 (j : Int) ∧ s = .int .i64 N ∧ j ≤ m ∧ 0 ≤ N ∧ N ≤ 140000 ∧ Hid (N ≤ 32768 → ∀ (k : Nat) x, k < j → l[k]? = some x → EvsS x) ∧ Hid (∀ (k : Nat) x, k < j → l[k]? = some x → LitS n x) ∧ Hid (Ext Non w wr)) (fun _ i _ => m - (intOf i).toNat)
  case atStart => exact ⟨0, 0, rfl, rfl, by omega, by omega, by omega, fun _ k x h => absurd h (Nat.not_lt_zero k), fun k x h => absurd h (Nat.not_lt_zero k), Ext.refl _ _⟩
  case round =>
    obtain ⟨j, N, rfl, rfl, hj, n0, n1, HS, HL, HE⟩ := hrel
    by_cases hgo : (j : Int) < (m : Int) ∧ (j : Int) ≤ 120 ∧ N ≤ 32768
    · obtain ⟨g1, g2, g3⟩ := hgo
      obtain ⟨x, hx⟩ : ∃ x, l[j]? = some x := ⟨_, List.getElem?_eq_getElem (by have := HML.out; omega)⟩
      obtain ⟨ga, offa, B, bl, bd, C, ck, cf, rfl, hga, hgla, a0, a1, a2, a3, a4, a5, a6, a7, a8, a9, hu, hq⟩ := do_at (HR.out.ext0 HE.out) hx
      obtain ⟨hv1, hv2⟩ := HV.out x (List.mem_of_getElem? hx)
      have hbl : bl = x.evs.length := by
        obtain ⟨_, _, hs, _, _⟩ := hu.slice
        simp only [Value.slice.injEq] at hs
        exact hs.2.1
      have hbx : (bl : Int) ≤ 9223372036854775807 := by
        obtain ⟨_, _, _, _, h⟩ := hu.slice
        omega
      have HX := Lib.hid hx
      have HU := Lib.hid hu
      have HQ := Lib.hid hq
      have HBL := Lib.hid hbl
      have HF := Lib.hid hv1
      have HO := Lib.hid hv2
      have hdef : bits BinOp.and IntKind.i64 x.op 7 = opc x := rfl
      have A0 := Lib.hid a0
      have A5 := Lib.hid a5
      have A6 := Lib.hid a6
      have A7 := Lib.hid a7
      have A8 := Lib.hid a8
      have A9 := Lib.hid a9
      clear hx hu hq hbl hv1 hv2 hga a0 a1 a2 a3 a4 a6 a7 a8 a9
      go_wp2_with fail
      go_loopw [3, 5] (fun s i wr2 => ∃ (j2 : Nat) (M : Int), i = .int .i64 (j2 : Int) ∧ s = .int .i64 M ∧ j2 ≤ bl ∧ (j2 : Int) ≤ M ∧ 0 ≤ M ∧ M ≤ 140000 ∧ N ≤ M ∧ Hid (M ≤ 32768 → ∀ (k : Nat) e, k < j2 → x.evs[k]? = some e → EvS e) ∧ Hid (Ext Non wr wr2)) (fun _ i _ => bl - (intOf i).toNat)
      case atStart => exact ⟨0, N, rfl, rfl, by omega, by omega, by omega, by omega, by omega, fun _ k e h => absurd h (Nat.not_lt_zero k), Ext.refl _ _⟩
      case round =>
        obtain ⟨j2, M, rfl, rfl, hj2, m0, m1, m2, m3, HS2, HE2⟩ := hrel
        have a5 := HE2.out.cell A5.out (fun e => e)
        by_cases hgo2 : (j2 : Int) < (bl : Int) ∧ M ≤ 32768
        · obtain ⟨k1, k2⟩ := hgo2
          obtain ⟨e, he⟩ : ∃ e, x.evs[j2]? = some e := ⟨_, List.getElem?_eq_getElem (by have := HBL.out; omega)⟩
          obtain ⟨ge, off, rfl, hge, hgl, d0, d1, d2, d3, d4, d5⟩ := ev_at (HU.out.ext0 HE2.out) he
          obtain ⟨o1, o2, o3⟩ := HO.out e (List.mem_of_getElem? he)
          have s1 : (e.key.size : Int) ≤ 9223372036854775807 := by simp only [maxLen] at o1; omega
          have s2 : (e.old.size : Int) ≤ 9223372036854775807 := by simp only [maxLen] at o2; omega
          have s3 : (e.now.size : Int) ≤ 9223372036854775807 := by simp only [maxLen] at o3; omega
          have HEE := Lib.hid he
          clear o1 o2 o3 he
          rcases (show 32768 < (e.key.size : Int) ∨ (e.key.size : Int) ≤ 32768 by omega) with q1 | q1
          all_goals rcases (show 32768 < (e.old.size : Int) ∨ (e.old.size : Int) ≤ 32768 by omega) with q2 | q2
          all_goals rcases (show 32768 < (e.now.size : Int) ∨ (e.now.size : Int) ≤ 32768 by omega) with q3 | q3
          all_goals
            go_wp2_with fail
            go_roundw
            case rel =>
              refine ⟨j2 + 1, _, by go_num, rfl, by omega, by omega, by omega, by omega, by omega, ?_, HE2.out.trans0 ?_⟩
              · intro hle k y hk hy
                rcases Nat.lt_or_ge k j2 with h | h
                · exact HS2.out (by omega) k y h hy
                · have hkj : k = j2 := by omega
                  subst hkj
                  rw [HEE.out] at hy
                  cases hy
                  exact ⟨by omega, by omega, by omega⟩
              · repeat (first | exact Ext.refl _ _ | refine Ext.drew ?_ | refine Ext.alloc ?_ _ | refine Ext.setNew ?_ (Nat.le_refl _) _)
            case measure => simp [intOf]; omega
        · have hfin : Hid (M ≤ 32768 → EvsS x) := by
            intro h2
            have h3 : j2 = bl := by omega
            refine ⟨by have := HBL.out; omega, fun e he => ?_⟩
            obtain ⟨k, hk⟩ := List.getElem?_of_mem he
            have h4 := (List.getElem?_eq_some_iff.1 hk).1
            exact HS2.out h2 k e (by have := HBL.out; omega) hk
          have a0 := HE2.out.cell A0.out (fun e => e)
          have a6 := HE2.out.cell A6.out (fun e => e)
          have a7 := HE2.out.cell A7.out (fun e => e)
          have a8 := HE2.out.cell A8.out (fun e => e)
          have a9 := HE2.out.cell A9.out (fun e => e)
          have hnext : ∀ w3, Ext Non wr w3 → LitS n x → ∃ (j' : Nat) (N' : Int), Value.int .i64 ((j : Int) + 1) = .int .i64 (j' : Int) ∧ Value.int .i64 M = .int .i64 N' ∧ j' ≤ m ∧ 0 ≤ N' ∧ N' ≤ 140000 ∧ Hid (N' ≤ 32768 → ∀ (k : Nat) x, k < j' → l[k]? = some x → EvsS x) ∧ Hid (∀ (k : Nat) x, k < j' → l[k]? = some x → LitS n x) ∧ Hid (Ext Non w w3) := fun w3 he3 hlit => by
            refine ⟨j + 1, M, by go_num, rfl, by omega, by omega, by omega, fun hle k y hk hy => ?_, fun k y hk hy => ?_, (HE.out.trans0 HE2.out).trans0 he3⟩
            · rcases Nat.lt_or_ge k j with h | h
              · exact HS.out (by omega) k y h hy
              · have hkj : k = j := by omega
                subst hkj
                rw [HX.out] at hy
                cases hy
                exact hfin.out hle
            · rcases Nat.lt_or_ge k j with h | h
              · exact HL.out k y h hy
              · have hkj : k = j := by omega
                subst hkj
                rw [HX.out] at hy
                cases hy
                exact hlit
          have HNX := Lib.hid hnext
          clear hnext
          have hex : ¬ (j2 : Int) < (bl : Int) ∨ ((j2 : Int) < (bl : Int) ∧ ¬ M ≤ 32768) := by omega
          by_cases c4 : opc x = 4
          · have b4 : (opc x == 4) = true := by rw [c4]; rfl
            have HLC := Lib.hid (light_calls (n := n) (f := x.q) (w := wr) ⟨_, rfl, (HQ.out.ext0 HE2.out)⟩ HF.out)
            cases hlt : lightF (n + 1) x.q with
            | true =>
              rw [hlt] at HLC
              have HLT := Lib.hid hlt
              clear hlt
              rcases hex with h1 | ⟨h1, h2⟩
              all_goals
                go_wp2_with fail
                refine HLC.out.mono ?_
                rintro e w6 ⟨rfl, he⟩
                have HE6 := Lib.hid he
                clear he
                go_wp2_with fail
                go_roundw
                case rel => exact HNX.out _ HE6.out (fun _ => HLT.out)
                case measure => simp [intOf]; omega
            | false =>
              rw [hlt] at HLC
              clear hlt
              rcases hex with h1 | ⟨h1, h2⟩
              all_goals
                go_wp2_with fail
                refine HLC.out.mono ?_
                rintro e w6 ⟨rfl, he⟩
                have HE6 := Lib.hid he
                clear he
                go_wp2_with fail
                go_ret
                exact ⟨false, rfl, (HE.out.trans0 HE2.out).trans0 HE6.out, fun h => by cases h⟩
          · have b4 : (opc x == 4) = false := beq_eq_false_iff_ne.2 c4
            have HC4 : Hid (LitS n x) := fun h => absurd h c4
            rcases hex with h1 | ⟨h1, h2⟩
            all_goals
              go_wp2_with fail
              go_roundw
              case rel => exact HNX.out _ (Ext.refl _ _) HC4.out
              case measure => simp [intOf]; omega
    · have hfin : Hid (m ≤ 120 → N ≤ 32768 → l.length ≤ 120 ∧ ∀ k ∈ l, EvsS k ∧ LitS n k) := by
        intro h1 h2
        have h3 : j = m := by omega
        refine ⟨by have := HML.out; omega, fun x hx => ?_⟩
        obtain ⟨k, hk⟩ := List.getElem?_of_mem hx
        have h4 := (List.getElem?_eq_some_iff.1 hk).1
        have h5 : k < j := by have := HML.out; omega
        exact ⟨HS.out h2 k x h5 hk, HL.out k x h5 hk⟩
      rcases (show (j : Int) < (m : Int) ∨ (m : Int) ≤ (j : Int) by omega) with h1 | h1
      · rcases (show 120 < (j : Int) ∨ (j : Int) ≤ 120 by omega) with h2 | h2
        · go_wp2_with fail
          all_goals go_ret
          all_goals exact ⟨false, by first | rfl | (simp; omega), HE.out, fun h => by cases h⟩
        · have h3 : 32768 < N := by omega
          go_wp2_with fail
          all_goals go_ret
          all_goals exact ⟨false, by first | rfl | (simp; omega), HE.out, fun h => by cases h⟩
      · rcases (show 120 < (m : Int) ∨ (m : Int) ≤ 120 by omega) with h2 | h2
        · go_wp2_with fail
          all_goals go_ret
          all_goals exact ⟨false, by first | rfl | (simp; omega), HE.out, fun h => by cases h⟩
        · rcases (show 32768 < N ∨ N ≤ 32768 by omega) with h3 | h3
          · go_wp2_with fail
            all_goals go_ret
            all_goals exact ⟨false, by first | rfl | (simp; omega), HE.out, fun h => by cases h⟩
          · go_wp2_with fail
            all_goals go_ret
            all_goals exact ⟨true, by first | rfl | (simp; omega), HE.out, fun _ => hfin.out (by omega) h3⟩
end Go.Proofs.Ytdjfijdnhfmeeaa

namespace Go.Proofs.Ytdjfijdnhfmeeaa
open Go.RowKit Go.TM Go.ChangeShapes Go.WideShapes Go.ChangeAt Go.Deep
theorem doK_le {n m : Nat} (hnm : n ≤ m) {w : World} {ok : Nat → Prop} {x : Dc} {cs : List Value} (h : (doK n).K w ok x cs) : (doK m).K w ok x cs := by
  obtain ⟨u, v, rfl, hu, hr⟩ := h
  exact ⟨u, v, rfl, hu, rd_up hnm hr⟩
theorem dos_up {n m : Nat} (hnm : n ≤ m) {w : World} {ok : Nat → Prop} {v : Value} {l : List Dc} (h : Rd (doK n) w ok v l) : Rd (doK m) w ok v l := h.kind rfl (fun _ _ _ hk => doK_le hnm hk)
theorem DV.up {n m : Nat} (hnm : n ≤ m) {w : World} {ok : Nat → Prop} {x : Value} {k : Dc} (h : DV n w ok x k) : DV m w ok x k := by
  obtain ⟨u, v, rfl, hu, hr⟩ := h
  exact ⟨u, v, rfl, hu, rd_up hnm hr⟩
theorem DcV.up {n m : Nat} (hnm : n ≤ m) {k : Dc} (h : DcV n k) : DcV m k := ⟨okF_le (by omega) h.1, h.2⟩
section
variable {H : Type} {enc : TypeId × Value → H} {w : World} {base b0 : Nat} {spare : Nat → Bool} {held : Bool} {r : Reach}
set_option maxRecDepth 100000 in
theorem trod_do {fuel : Nat} {cs : List Value} {y : DataW H × List MemPlace} (h : DataW.trod enc Try.prog w base spare held fuel 36 cs = some y) : ∃ k : Dc, (doK fuel).K w (fun k => k < w.heap.size) k cs ∧ DcV fuel k := by
  obtain ⟨xs, n, rfl, rfl, hl, hlen, hf⟩ := DataW.trod_struct Try.underlying36 h
  have hC : Try.prog.cellsOf 36 = 10 := by kernel_rfl
  have hC0 : Try.prog.cellsOf 3 = 1 := by kernel_rfl
  have hC1 : Try.prog.cellsOf 34 = 1 := by kernel_rfl
  have hC2 : Try.prog.cellsOf 24 = 4 := by kernel_rfl
  rw [hC] at hl
  match xs, hlen with
  | [y0, y1, y2, y3, y4, y5, y6], _ =>
    have h0 := hf 0 _ rfl
    have h1 := hf 1 _ rfl
    have h2 := hf 2 _ rfl
    have h3 := hf 3 _ rfl
    have h4 := hf 4 _ rfl
    have h5 := hf 5 _ rfl
    have h6 := hf 6 _ rfl
    match cs, hl with
    | [c0, c1, c2, c3, c4, c5, c6, c7, c8, c9], _ =>
      simp [hC0, hC1, hC2] at h0 h1 h2 h3 h4 h5 h6
      obtain ⟨a0, g0, _, _⟩ := DataW.trod_int Try.underlying3 h0
      obtain ⟨a1, g1, _, _⟩ := DataW.trod_int Try.underlying3 h1
      obtain ⟨a2, g2, _, _⟩ := DataW.trod_int Try.underlying3 h2
      obtain ⟨a3, g3, _, _⟩ := DataW.trod_int Try.underlying3 h3
      obtain ⟨a4, g4, _, _⟩ := DataW.trod_int Try.underlying3 h4
      have hs : ∃ A len cap, [c5] = [Value.slice A len cap] := by
        rcases open_elems Try.underlying34 h5 with h | ⟨a, len, cap, _, _, h, _⟩
        · exact ⟨_, _, _, h⟩
        · exact ⟨_, _, _, h⟩
      obtain ⟨A, len, cap, g5⟩ := hs
      simp at g0 g1 g2 g3 g4 g5
      subst g0 g1 g2 g3 g4 g5
      obtain ⟨l, rfl, hr, hok⟩ := open_rd evK Ev.ok Try.underlying34 (by kernel_rfl) (by decide) (fun n cs y _ hy => let ⟨e, he, ho⟩ := trod_ev hy; ⟨e, he, ho⟩) h5
      obtain ⟨f, hk, ho⟩ := trod_flt n h6
      match n, hk, ho with
      | m + 1, hk, ho =>
        obtain ⟨v, hcs, hv⟩ := hk
        simp only [List.cons.injEq, and_true] at hcs
        obtain ⟨rfl, rfl, rfl, rfl⟩ := hcs
        exact ⟨⟨a0, a1, a2, a3, a4, l, f⟩, ⟨_, _, rfl, hr, rd_up (by omega) hv⟩, okF_le (by omega) ho, hok⟩
set_option maxRecDepth 100000 in
theorem open_do {v : Value} {d : DataW H} {p : List MemPlace} (hv : Value.okWide Try.prog w r b0 36 v) (h : DataW.Trod enc Try.prog w base spare held 36 v d p) : ∃ n, ∃ k : Dc, DV n w (fun k => k < w.heap.size) v k ∧ DcV n k := by
  obtain ⟨fuel, hf⟩ := h
  obtain ⟨k, ⟨u, x, hcs, hu, hr⟩, ho⟩ := trod_do hf
  obtain ⟨cs, rfl, _⟩ := okWide_struct Try.underlying36 hv
  refine ⟨fuel, k, ⟨u, x, ?_, hu, hr⟩, ho⟩
  have h2 : cs.toList = _ := hcs
  rw [← Array.toArray_toList (xs := cs), h2]
set_option maxRecDepth 100000 in
theorem open_dos {v : Value} {d : DataW H} {p : List MemPlace} (hv : Value.okWide Try.prog w r b0 25 v) (h : DataW.Trod enc Try.prog w base spare held 25 v d p) :
    ∃ n A c, ∃ l : List Dc, v = .slice A l.length c ∧ Rd (doK n) w (fun k => k < w.heap.size) (.slice A l.length c) l ∧ ∀ x ∈ l, DcV n x := by
  obtain ⟨A, len, cap, rfl⟩ := okWide_slice Try.underlying25 hv
  obtain ⟨fuel, hf⟩ := h
  obtain ⟨l, rfl, hr, hok⟩ := open_rd (doK fuel) (DcV fuel) Try.underlying25 (by kernel_rfl) (by show 0 < 10; decide) (fun n cs y hn hy => let ⟨e, he, ho⟩ := trod_do hy; ⟨e, doK_le (by omega) he, ho.up (by omega)⟩) hf
  exact ⟨fuel, A, cap, l, rfl, hr, hok⟩
end
end Go.Proofs.Ytdjfijdnhfmeeaa

