/- Sessions: does, made. -/
import Derived.Test.YtiebnjkjgobklaaS5
namespace Go.Proofs.Ytiebnjkjgobklaa
open Go.RowKit Go.TM

def I64 (x : Int) : Prop := -9223372036854775808 ≤ x ∧ x ≤ 9223372036854775807

structure Do where
  op : Int
  ses : Int
  seq : Int
  err : Int
  n : Int
structure Do.ok (k : Do) : Prop where
  op : I64 k.op
  ses : I64 k.ses
  seq : I64 k.seq
  err : I64 k.err
  n : I64 k.n
def Do.cells (k : Do) : List Value := [.int .i64 k.op, .int .i64 k.ses, .int .i64 k.seq, .int .i64 k.err, .int .i64 k.n]

/-- A table behind a call, and its error. -/
def Do.kind (k : Do) : Int := bits BinOp.and IntKind.i64 k.op 7
def step (t : Tab) (k : Do) : Int × Tab :=
  if k.kind < 2 then ((open_ t).e, (open_ t).tab) else if k.kind = 2 then close t k.ses else if k.kind = 3 then ((ask t.seats k.ses k.seq).e, t) else keep t k.ses k.seq k.err k.n

set_option maxHeartbeats 1000000 in
theorem does_calls {w : World} {ok : Nat → Prop} {g : Nat} {t : Tab} (hT : TabAt w ok g t) (HG : Good t.seats t.last) (k : Do) (hk : k.ok) (hf : ∀ k, w.heap.size ≤ k → ok k) (hg : ¬ ok g) :
    Calls Try.prog 15 #[.pointer (some ⟨g, 0, none⟩), .agg #[.int .i64 k.op, .int .i64 k.ses, .int .i64 k.seq, .int .i64 k.err, .int .i64 k.n]] w (EPost ok g (step t k) w) := by
  have HT := Lib.hid (hT.ext ((Ext.refl Non w).alloc (.cells #[.int .i64 k.op, .int .i64 k.ses, .int .i64 k.seq, .int .i64 k.err, .int .i64 k.n] 27)))
  have HF : Hid (∀ i, (w.alloc (.cells #[.int .i64 k.op, .int .i64 k.ses, .int .i64 k.seq, .int .i64 k.err, .int .i64 k.n] 27)).heap.size ≤ i → ok i) := fun i hi => hf i (by simp at hi; omega)
  have H0 : Hid (Ext Non w (w.alloc (.cells #[.int .i64 k.op, .int .i64 k.ses, .int .i64 k.seq, .int .i64 k.err, .int .i64 k.n] 27))) := (Ext.refl Non w).alloc _
  obtain ⟨_, ⟨s1, s2⟩, ⟨q1, q2⟩, _, _⟩ := hk
  clear hT hf
  by_cases h1 : k.kind < 2
  · have hA : step t k = ((open_ t).e, (open_ t).tab) := if_pos h1
    rw [hA]
    clear hA
    unfold Do.kind at h1
    go_enter Try.func15, Try.ntmps15
    go_wp2_with fail
    refine (Open_calls HT.out HG.last0 HF.out hg).mono ?_
    rintro e w1 ⟨rfl, h3, h4⟩
    have H3 := Lib.hid h3
    have H4 := Lib.hid h4
    clear h3 h4
    go_wp2_with fail
    go_ret
    exact ⟨rfl, H3.out, H0.out.of0.trans H4.out (fun _ _ h => h)⟩
  by_cases h2 : k.kind = 2
  · have hA : step t k = close t k.ses := by unfold step; rw [if_neg h1, if_pos h2]
    rw [hA]
    have h2' : (k.kind == 2) = true := by simpa using h2
    clear hA h2
    unfold Do.kind at h1 h2'
    go_enter Try.func15, Try.ntmps15
    go_wp2_with fail
    refine (Close_calls HT.out HG k.ses s1 s2 HF.out hg).mono ?_
    rintro e w1 ⟨rfl, h3, h4⟩
    have H3 := Lib.hid h3
    have H4 := Lib.hid h4
    clear h3 h4
    go_wp2_with fail
    go_ret
    exact ⟨rfl, H3.out, H0.out.of0.trans H4.out (fun _ _ h => h)⟩
  have h2' : (k.kind == 2) = false := by simpa using h2
  by_cases h5 : k.kind = 3
  · have hA : step t k = ((ask t.seats k.ses k.seq).e, t) := by unfold step; rw [if_neg h1, if_neg h2, if_pos h5]
    rw [hA]
    have h5' : (k.kind == 3) = true := by simpa using h5
    clear hA h2 h5
    unfold Do.kind at h1 h2' h5'
    go_enter Try.func15, Try.ntmps15
    go_wp2_with fail
    refine (Ask_calls HT.out HG k.ses k.seq s1 s2 q2).mono ?_
    rintro e w1 ⟨rfl, h4⟩
    unfold AskR.val
    have H4 := Lib.hid h4
    clear h4
    go_wp2_with fail
    go_ret
    refine ⟨rfl, HT.out.ext ?_, Ext.of0 ?_⟩
    · exact H4.out.alloc _
    · exact (H0.out.trans0 H4.out).alloc _
  · have hA : step t k = keep t k.ses k.seq k.err k.n := by unfold step; rw [if_neg h1, if_neg h2, if_neg h5]
    rw [hA]
    have h5' : (k.kind == 3) = false := by simpa using h5
    clear hA h2 h5
    unfold Do.kind at h1 h2' h5'
    go_enter Try.func15, Try.ntmps15
    go_wp2_with fail
    refine (Keep_calls HT.out HG k.ses k.seq k.err k.n s1 s2 q2 HF.out).mono ?_
    rintro e w1 ⟨rfl, h3, h4⟩
    have H3 := Lib.hid h3
    have H4 := Lib.hid h4
    clear h3 h4
    go_wp2_with fail
    go_ret
    exact ⟨rfl, H3.out, H0.out.of0.trans H4.out (fun _ _ h => h)⟩

/-! Good tables stay good. -/
theorem Good.open_ {t : Tab} (h : Good t.seats t.last) : Good (open_ t).tab.seats (open_ t).tab.last := by
  unfold Ytiebnjkjgobklaa.open_
  split
  · exact h
  · split
    · exact h
    · rename_i h1 h2
      refine ⟨?_, ?_, ?_, ?_, ?_, ?_, ?_, ?_⟩
      · show List.Pairwise _ (t.seats ++ [_])
        rw [List.pairwise_append]
        refine ⟨h.rising, by simp, fun a ha b hb => ?_⟩
        simp only [List.mem_singleton] at hb
        subst hb
        have := h.high a ha
        show a.ses < t.last + 1
        omega
      · intro s hs
        rcases List.mem_append.1 hs with hs | hs
        · exact h.low s hs
        · simp only [List.mem_singleton] at hs
          subst hs
          have := h.last0
          show 1 ≤ t.last + 1
          omega
      · intro s hs
        show s.ses ≤ t.last + 1
        rcases List.mem_append.1 hs with hs | hs
        · have := h.high s hs
          omega
        · simp only [List.mem_singleton] at hs
          subst hs
          exact Int.le_refl _
      · have := h.last0
        show 0 ≤ t.last + 1
        omega
      · show t.last + 1 ≤ _
        omega
      · show (t.seats ++ [_]).length ≤ 8
        simp
        omega
      · intro s hs
        rcases List.mem_append.1 hs with hs | hs
        · exact h.seq0 s hs
        · simp only [List.mem_singleton] at hs
          subst hs
          exact Int.le_refl _
      · intro s hs
        rcases List.mem_append.1 hs with hs | hs
        · exact h.seq1 s hs
        · simp only [List.mem_singleton] at hs
          subst hs
          show (0 : Int) ≤ _
          omega
theorem Good.close {t : Tab} (h : Good t.seats t.last) (n : Int) : Good (close t n).2.seats (close t n).2.last := by
  unfold Ytiebnjkjgobklaa.close
  split
  · have hs := List.filter_sublist (l := t.seats) (p := fun x => !(x.ses == n))
    exact ⟨h.rising.sublist hs, fun s m => h.low s (hs.subset m), fun s m => h.high s (hs.subset m), h.last0, h.last1, Nat.le_trans hs.length_le h.few, fun s m => h.seq0 s (hs.subset m), fun s m => h.seq1 s (hs.subset m)⟩
  · exact h
theorem Good.keep {t : Tab} (h : Good t.seats t.last) (n seq re rn : Int) (hq : seq ≤ 9223372036854775807) : Good (keep t n seq re rn).2.seats (keep t n seq re rn).2.last := by
  unfold Ytiebnjkjgobklaa.keep
  split
  · exact h
  · split
    · exact h
    · rename_i h1 h2
      obtain ⟨k, s, hk, hs, h3, h4⟩ := ask_fresh (by simpa using h2 : (ask t.seats n seq).fresh = true)
      have hm : ∀ x, (if x.ses = n then (⟨n, seq, re, rn⟩ : Seat) else x).ses = x.ses := by
        intro x
        split
        · rename_i e
          exact e.symm
        · rfl
      refine ⟨?_, ?_, ?_, h.last0, h.last1, by rw [List.length_map]; exact h.few, ?_, ?_⟩
      · show List.Pairwise _ (List.map _ _)
        rw [List.pairwise_map]
        refine h.rising.imp (fun {a b} hab => ?_)
        rw [hm, hm]
        exact hab
      · intro x hx
        obtain ⟨y, hy, rfl⟩ := List.mem_map.1 hx
        rw [hm]
        exact h.low y hy
      · intro x hx
        obtain ⟨y, hy, rfl⟩ := List.mem_map.1 hx
        rw [hm]
        exact h.high y hy
      · intro x hx
        obtain ⟨y, hy, rfl⟩ := List.mem_map.1 hx
        split
        · show 0 ≤ seq
          omega
        · exact h.seq0 y hy
      · intro x hx
        obtain ⟨y, hy, rfl⟩ := List.mem_map.1 hx
        split
        · exact hq
        · exact h.seq1 y hy
theorem Good.step {t : Tab} (h : Good t.seats t.last) (k : Do) (hk : k.ok) : Good (step t k).2.seats (step t k).2.last := by
  unfold Ytiebnjkjgobklaa.step
  split
  · exact h.open_
  · split
    · exact h.close _
    · split
      · exact h
      · exact h.keep _ _ _ _ hk.seq.2

def doK : Kd Do := Kd.flat 5 Do.cells (fun _ => rfl) (by simp [Value.oneCell', Do.cells])
def run (l : List Do) : Tab := l.foldl (fun t k => (step t k).2) ⟨[], 0⟩
theorem run_snoc (l : List Do) (k : Do) : run (l ++ [k]) = (step (run l) k).2 := by unfold run; rw [List.foldl_append]; rfl
theorem Good.run (l : List Do) (hl : ∀ k ∈ l, k.ok) : Good (run l).seats (run l).last := by
  have key : ∀ n, n ≤ l.length → Good (Ytiebnjkjgobklaa.run (l.take n)).seats (Ytiebnjkjgobklaa.run (l.take n)).last := by
    intro n
    induction n with
    | zero => exact fun _ => Good.zero
    | succ n ih =>
      intro hn
      rw [List.take_succ_eq_append_getElem hn, run_snoc]
      exact (ih (by omega)).step _ (hl _ (List.getElem_mem _))
  have := key l.length (Nat.le_refl _)
  rwa [List.take_length] at this

/-- A table of the call's own: its lists lie in blocks from B on. -/
def Mine (B g : Nat) : Nat → Prop := fun k => B ≤ k ∧ k ≠ g
def MadePost (l : List Do) (w : World) (e : Ending) (w' : World) : Prop :=
  ∃ g, e = .returned (.pointer (some ⟨g, 0, none⟩)) ∧ w.heap.size ≤ g ∧ g < w'.heap.size ∧ TabAt w' (Mine w.heap.size g) g (run l) ∧ Ext Non w w'

theorem EPost.mono {ok : Nat → Prop} {g : Nat} {r : Int × Tab} {w : World} {e : Ending} {w' : World} (h : EPost ok g r w e w') : e = .returned (.int .i64 r.1) ∧ TabAt w' ok g r.2 ∧ Ext (Only g) w w' := h

set_option maxHeartbeats 1000000 in
theorem made_calls {w : World} {ok : Nat → Prop} {A : Option Addr} {c : Nat} {l : List Do} (H : Rd doK w ok (.slice A l.length c) l) (hl : ∀ k ∈ l, k.ok) :
    Calls Try.prog 12 #[.slice A l.length c] w (MadePost l w) := by
  have hm := H.slice
  obtain ⟨_, _, _, _, hm⟩ := hm
  have HH := Lib.hid H
  have HL := Lib.hid hl
  clear H hl
  go_enter Try.func12, Try.ntmps12
  go_wp2_with fail
  refine (New_calls w).mono ?_
  rintro e w1 ⟨g, rfl, hg0, hg1, hT, hE⟩
  have HT := Lib.hid (hT (Mine w.heap.size g))
  have HE := Lib.hid hE
  clear hT hE
  go_wp2_with fail
  go_loopw [9] (fun i wr => ∃ k : Nat, k ≤ l.length ∧ i = .int .i64 k ∧ g < wr.heap.size ∧ Hid (TabAt wr (Mine w.heap.size g) g (run (l.take k))) ∧ Hid (Ext Non w wr)) (fun i _ => l.length - (intOf i).toNat)
  case atStart => exact ⟨0, by omega, rfl, hg1, HT.out, HE.out⟩
  case round =>
    obtain ⟨k, hk, rfl, hgr, HTr, HEr⟩ := hrel
    by_cases hlt : k < l.length
    · obtain ⟨x, hx⟩ : ∃ x, l[k]? = some x := ⟨_, List.getElem?_eq_getElem hlt⟩
      obtain ⟨gl, off, rfl, _, hgl, hc⟩ := (HH.out.ext0 HEr.out).flat_at hx
      have d0 := hc 0 _ rfl
      have d1 := hc 1 _ rfl
      have d2 := hc 2 _ rfl
      have d3 := hc 3 _ rfl
      have d4 := hc 4 _ rfl
      simp only [Nat.add_zero] at d0
      have HX := Lib.hid hx
      clear hc hx
      have hsz := HEr.out.size
      go_wp2_with fail
      refine (does_calls (ok := Mine w.heap.size g) (t := run (l.take k)) (HTr.out.ext ((Ext.refl Non wr).alloc _)) (Good.run _ (fun q hq => HL.out q (List.mem_of_mem_take hq))) x (HL.out x (List.mem_of_getElem? HX.out)) ?_ ?_).mono ?_
      · intro i hi
        simp at hi
        exact ⟨by omega, by omega⟩
      · exact fun h => h.2 rfl
      rintro e w2 ⟨rfl, h3, h4⟩
      have H3 := Lib.hid h3
      have H4 := Lib.hid h4
      clear h3 h4
      go_wp2_with fail
      go_roundw
      case rel =>
        refine ⟨k + 1, by omega, by go_num, ?_, ?_, ?_⟩
        · have := H4.out.size
          simp at this
          omega
        · have e : l.take (k + 1) = l.take k ++ [x] := by
            rw [List.take_add_one, HX.out]
            rfl
          rw [e, run_snoc]
          exact H3.out
        · exact (HEr.out.alloc _).trans H4.out (fun i hi e => by
            have e' : i = g := e
            omega)
      case measure => simp [intOf]; omega
    · obtain rfl : k = l.length := by omega
      go_wp2_with fail
      go_ret
      exact ⟨g, rfl, hg0, hgr, by have := HTr.out; rwa [List.take_length] at this, HEr.out⟩
end Go.Proofs.Ytiebnjkjgobklaa
