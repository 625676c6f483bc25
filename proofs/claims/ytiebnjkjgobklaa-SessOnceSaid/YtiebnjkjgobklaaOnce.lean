/- SessOnce: the walk. -/
import Derived.Test.YtiebnjkjgobklaaS7
namespace Go.Proofs.Ytiebnjkjgobklaa
open Go.RowKit Go.TM

/-- What a kept number leaves: the session's number is known, and it stands there or is passed. -/
structure Past (t : Tab) (k : Do) : Prop where
  low : k.ses ≤ t.last
  one : 1 ≤ k.seq
  at_ : ∀ s ∈ t.seats, s.ses = k.ses → (s.seq = k.seq ∧ s.err = k.err ∧ s.n = k.n) ∨ k.seq < s.seq

theorem Past.keep {t : Tab} {k : Do} (HG : Good t.seats t.last) (h : (keep t k.ses k.seq k.err k.n).1 = 0) : Past (keep t k.ses k.seq k.err k.n).2 k := by
  unfold Ytiebnjkjgobklaa.keep at h ⊢
  split at h
  · rename_i h1
    exact absurd h h1
  · split at h
    · simp at h
    · rename_i h1 h2
      rw [if_neg h1, if_neg h2]
      obtain ⟨j, s, hj, hs, h3, h4⟩ := ask_fresh (by simpa using h2 : (ask t.seats k.ses k.seq).fresh = true)
      refine ⟨?_, h4, ?_⟩
      · have := (HG.get hj).2.1
        show k.ses ≤ t.last
        omega
      · intro x hx hxs
        obtain ⟨y, hy, rfl⟩ := List.mem_map.1 hx
        by_cases hy2 : y.ses = k.ses
        · rw [if_pos hy2]
          exact .inl ⟨rfl, rfl, rfl⟩
        · rw [if_neg hy2] at hxs
          exact absurd hxs hy2

theorem Past.step {t : Tab} {k : Do} (h : Past t k) (x : Do) : Past (step t x).2 k := by
  unfold Ytiebnjkjgobklaa.step
  split
  · unfold open_
    split
    · exact h
    · split
      · exact h
      · have := h.low
        refine ⟨by show k.ses ≤ t.last + 1; omega, h.one, fun s hs he => ?_⟩
        rcases List.mem_append.1 hs with hs | hs
        · exact h.at_ s hs he
        · simp only [List.mem_singleton] at hs
          subst hs
          have e' : t.last + 1 = k.ses := he
          omega
  · split
    · unfold close
      split
      · exact ⟨h.low, h.one, fun s hs he => h.at_ s (List.mem_filter.1 hs).1 he⟩
      · exact h
    · split
      · exact h
      · unfold Ytiebnjkjgobklaa.keep
        split
        · exact h
        · split
          · exact h
          · rename_i h1 h2
            obtain ⟨j, s, hj, hs, h3, h4⟩ := ask_fresh (by simpa using h2 : (ask t.seats x.ses x.seq).fresh = true)
            refine ⟨h.low, h.one, fun y hy he => ?_⟩
            obtain ⟨z, hz, rfl⟩ := List.mem_map.1 hy
            by_cases hz2 : z.ses = x.ses
            · rw [if_pos hz2] at he ⊢
              have e' : x.ses = k.ses := he
              have := h.at_ s (List.mem_of_getElem? hj) (by omega)
              refine .inr ?_
              show k.seq < x.seq
              omega
            · rw [if_neg hz2] at he ⊢
              exact h.at_ z hz he

/-- What is told of it. -/
theorem Past.ask {t : Tab} {k : Do} (h : Past t k) : (ask t.seats k.ses k.seq).fresh = false ∧
    (((ask t.seats k.ses k.seq).e = 0 ∧ (ask t.seats k.ses k.seq).err = k.err ∧ (ask t.seats k.ses k.seq).n = k.n) ∨ (ask t.seats k.ses k.seq).e = 91 ∨ (ask t.seats k.ses k.seq).e = 90) := by
  unfold Ytiebnjkjgobklaa.ask
  cases hf : t.seats.find? (fun s => s.ses == k.ses) with
  | none => exact ⟨rfl, .inr (.inr rfl)⟩
  | some s =>
    have hs := List.find?_some hf
    have := h.one
    have h1 := h.at_ s (List.mem_of_find?_eq_some hf) (by simpa using hs)
    simp only [askS]
    rcases h1 with ⟨h2, h3, h4⟩ | h2
    · rw [if_neg (by omega), if_pos h2.symm]
      exact ⟨rfl, .inl ⟨rfl, h3, h4⟩⟩
    · rw [if_pos (by omega)]
      exact ⟨rfl, .inr (.inl rfl)⟩

theorem Past.told {t : Tab} {k : Do} (HG : Good t.seats t.last) (hq : k.seq ≤ 9223372036854775807) (h : (Ytiebnjkjgobklaa.keep t k.ses k.seq k.err k.n).1 = 0) : Ytiebnjkjgobklaa.ask (Ytiebnjkjgobklaa.keep t k.ses k.seq k.err k.n).2.seats k.ses k.seq = ⟨k.err, k.n, false, 0⟩ := by
  have hp := Past.keep HG h
  have hg := HG.keep k.ses k.seq k.err k.n
  unfold Ytiebnjkjgobklaa.keep at h ⊢ hp hg
  split at h
  · rename_i h1
    exact absurd h h1
  · split at h
    · simp at h
    · rename_i h1 h2
      rw [if_neg h1, if_neg h2] at hp hg ⊢
      obtain ⟨j, s, hj, hs, h3, h4⟩ := ask_fresh (by simpa using h2 : (Ytiebnjkjgobklaa.ask t.seats k.ses k.seq).fresh = true)
      have hmem : (⟨k.ses, k.seq, k.err, k.n⟩ : Seat) ∈ t.seats.map (fun x => if x.ses = k.ses then ⟨k.ses, k.seq, k.err, k.n⟩ else x) := by
        rw [List.mem_map]
        exact ⟨s, List.mem_of_getElem? hj, by rw [if_pos hs]⟩
      obtain ⟨i, hi⟩ := List.getElem?_of_mem hmem
      have hg' := hg hq
      have := ask_yes hg' hi k.seq
      rw [this]
      simp [askS]
      omega

set_option maxHeartbeats 2000000 in
set_option maxRecDepth 100000 in
theorem once_calls {w : World} {ok : Nat → Prop} {A A' : Option Addr} {c c' : Nat} {l more : List Do} (H : Rd doK w ok (.slice A l.length c) l) (hl : ∀ k ∈ l, k.ok) (H' : Rd doK w ok (.slice A' more.length c') more) (hl' : ∀ k ∈ more, k.ok) (k : Do) (hk : k.ok) :
    Calls Try.prog 3 #[.slice A l.length c, .slice A' more.length c', .agg #[.int .i64 k.op, .int .i64 k.ses, .int .i64 k.seq, .int .i64 k.err, .int .i64 k.n]] w fun e w' => e = .returned (.bool true) ∧ Ext Non w w' := by
  have HH := Lib.hid H
  have HH' := Lib.hid H'
  have HL := Lib.hid hl
  have HL' := Lib.hid hl'
  have HKK := Lib.hid hk
  obtain ⟨_, ⟨s1, s2⟩, ⟨q1, q2⟩, _, _⟩ := hk
  clear H H' hl hl'
  go_enter Try.func3, Try.ntmps3
  go_wp2_with (first | (go_at_call 11; refine (awake_calls _).mono ?_; rintro e w1 ⟨rfl, he⟩; have HE := Lib.hid he; clear he) | fail)
  · go_ret
    exact ⟨rfl, ((Ext.refl Non w).alloc _).trans0 HE.out⟩
  rotate_left
  · go_ret
    exact ⟨rfl, ((Ext.refl Non w).alloc _).trans0 HE.out⟩
  have H1 := Lib.hid (HH.out.ext0 ((Ext.refl Non w).alloc (.cells #[.int .i64 k.op, .int .i64 k.ses, .int .i64 k.seq, .int .i64 k.err, .int .i64 k.n] 27)))
  refine (made_calls H1.out HL.out).mono ?_
  rintro e w1 ⟨g, rfl, hg0, hg1, hT, hE⟩
  simp at hg0 hT
  have b5 := hE.obj (heap_alloc_new w _) (fun e => e)
  have k0 := blk_cell b5 0
  have k1 := blk_cell b5 1
  have k2 := blk_cell b5 2
  have k3 := blk_cell b5 3
  have k4 := blk_cell b5 4
  simp at k0 k1 k2 k3 k4
  have B5 := Lib.hid b5
  have hG := Lib.hid (Good.run l HL.out)
  generalize run l = t0 at hT hG
  have HT := Lib.hid hT
  have HE := Lib.hid (((Ext.refl Non w).alloc _).trans0 hE)
  clear hT hE b5
  go_wp2_with fail
  refine (Keep_calls (ok := Mine (w.heap.size + 1) g) HT.out hG.out k.ses k.seq k.err k.n s1 s2 q2 (fun i hi => ⟨by omega, by omega⟩)).mono ?_
  rintro e w2 ⟨rfl, h3, h4⟩
  have b5 := h4.obj B5.out (fun e => by
    have e' : w.heap.size = g := e
    omega)
  have k0 := blk_cell b5 0
  have k1 := blk_cell b5 1
  have k2 := blk_cell b5 2
  have k3 := blk_cell b5 3
  have k4 := blk_cell b5 4
  simp at k0 k1 k2 k3 k4
  have E2 := Lib.hid (HE.out.trans (M := Non) h4 (fun i hi e => by
    have e' : i = g := e
    omega))
  have HT2 := Lib.hid h3
  have B52 := Lib.hid b5
  have hgl : g < w2.heap.size := Nat.lt_of_lt_of_le hg1 h4.size
  clear h3 h4 b5
  by_cases h0 : (keep t0 k.ses k.seq k.err k.n).1 = 0
  case neg =>
    have h0' : ((keep t0 k.ses k.seq k.err k.n).1 != 0) = true := by simpa using h0
    clear h0
    go_wp2_with (first | (go_at_call 11; refine (awake_calls _).mono ?_; rintro e w3 ⟨rfl, he⟩; have HE3 := Lib.hid he; clear he) | fail)
    go_ret
    exact ⟨rfl, E2.out.trans0 HE3.out⟩
  have h0' : ((keep t0 k.ses k.seq k.err k.n).1 != 0) = false := by simpa using h0
  have hP := Lib.hid (Past.keep hG.out h0)
  have hA := Lib.hid (Past.told hG.out q2 h0)
  have hG2 := Lib.hid (hG.out.keep k.ses k.seq k.err k.n q2)
  clear h0
  generalize (keep t0 k.ses k.seq k.err k.n).1 = e0 at h0'
  generalize (keep t0 k.ses k.seq k.err k.n).2 = t1 at hP hA hG2 HT2
  go_wp2_with fail
  refine (Ask_calls HT2.out hG2.out k.ses k.seq s1 s2 q2).mono ?_
  rw [hA.out]
  rintro e w3 ⟨rfl, h4⟩
  unfold AskR.val
  have b5 := h4.obj B52.out (fun e => e)
  have k0 := blk_cell b5 0
  have k1 := blk_cell b5 1
  have k2 := blk_cell b5 2
  have k3 := blk_cell b5 3
  have k4 := blk_cell b5 4
  have hl5 := blk_lt b5
  simp at k0 k1 k2 k3 k4
  have E3 := Lib.hid (E2.out.trans0 h4)
  have HT3 := Lib.hid (HT2.out.ext h4)
  have B53 := Lib.hid b5
  have hgl : g < w3.heap.size := Nat.lt_of_lt_of_le hgl h4.size
  clear h4 b5
  go_wp2_with fail
  go_loopw [60] (fun i wr => ∃ j : Nat, j ≤ more.length ∧ i = .int .i64 j ∧ Hid (∃ t, Good t.seats t.last ∧ Past t k ∧ TabAt wr (Mine (w.heap.size + 1) g) g t) ∧ Hid (Ext Non w wr) ∧ g < wr.heap.size ∧
      Hid (wr.heap[w.heap.size]? = some (.cells #[.int .i64 k.op, .int .i64 k.ses, .int .i64 k.seq, .int .i64 k.err, .int .i64 k.n] 27 (0, 0)))) (fun i _ => more.length - (intOf i).toNat)
  case atStart => exact ⟨0, by omega, rfl, ⟨_, hG2.out, hP.out, HT3.out.ext ((Ext.refl Non w3).alloc _)⟩, E3.out.alloc _, by simp; omega, blk_alloc B53.out _⟩
  case round =>
    obtain ⟨j, hj, rfl, HI, HEr, hgr, HB⟩ := hrel
    obtain ⟨t, hGt, hPt, hTt⟩ := HI.out
    have k0 := blk_cell HB.out 0
    have k1 := blk_cell HB.out 1
    have k2 := blk_cell HB.out 2
    have k3 := blk_cell HB.out 3
    have k4 := blk_cell HB.out 4
    simp at k0 k1 k2 k3 k4
    have hHG := Lib.hid hGt
    have hHP := Lib.hid hPt
    have hHT := Lib.hid hTt
    clear hGt hPt hTt
    by_cases hlt : j < more.length
    · obtain ⟨x, hx⟩ : ∃ x, more[j]? = some x := ⟨_, List.getElem?_eq_getElem hlt⟩
      obtain ⟨gl, off, rfl, _, hgl', hc⟩ := (HH'.out.ext0 HEr.out).flat_at hx
      have d0 := hc 0 _ rfl
      have d1 := hc 1 _ rfl
      have d2 := hc 2 _ rfl
      have d3 := hc 3 _ rfl
      have d4 := hc 4 _ rfl
      simp only [Nat.add_zero] at d0
      have HX := Lib.hid (HL'.out x (List.mem_of_getElem? hx))
      have hsz := HEr.out.size
      clear hc hx
      go_wp2_with fail
      refine (does_calls (ok := Mine (w.heap.size + 1) g) (hHT.out.ext ((Ext.refl Non wr).alloc _)) hHG.out x HX.out ?_ ?_).mono ?_
      · intro i hi
        simp at hi
        have := blk_lt HB.out
        exact ⟨by omega, by omega⟩
      · exact fun h => h.2 rfl
      rintro e w4 ⟨rfl, h3, h4⟩
      have b5 := h4.obj (blk_alloc HB.out _) (fun e => by
        have e' : w.heap.size = g := e
        omega)
      have k0 := blk_cell b5 0
      have k1 := blk_cell b5 1
      have k2 := blk_cell b5 2
      have k3 := blk_cell b5 3
      have k4 := blk_cell b5 4
      simp at k0 k1 k2 k3 k4
      have E4 : Hid (Ext Non w w4) := (HEr.out.alloc _).trans h4 (fun i hi e => by
        have e' : i = g := e
        omega)
      have HT4 := Lib.hid h3
      have z4 := h4.size
      simp at z4
      have HG4 := Lib.hid (hHG.out.step x HX.out)
      have HP4 := Lib.hid (hHP.out.step x)
      have B54 := Lib.hid b5
      clear h3 h4 b5
      generalize (step t x).1 = e1
      generalize (step t x).2 = t2 at HT4 HG4 HP4
      go_wp2_with fail
      refine (Ask_calls HT4.out HG4.out k.ses k.seq s1 s2 q2).mono ?_
      have hask := HP4.out.ask
      rintro e w5 ⟨rfl, h4⟩
      unfold AskR.val
      have b5 := h4.obj B54.out (fun e => e)
      have k0 := blk_cell b5 0
      have k1 := blk_cell b5 1
      have k2 := blk_cell b5 2
      have k3 := blk_cell b5 3
      have k4 := blk_cell b5 4
      have hl5 := blk_lt b5
      simp at k0 k1 k2 k3 k4
      have z5 := h4.size
      have E5 := Lib.hid (E4.out.trans0 h4)
      have HT5 := Lib.hid (HT4.out.ext h4)
      have B55 := Lib.hid b5
      clear h4 b5
      have fin : ∀ o, Ext Non w (w5.alloc o) ∧ (∃ t, Good t.seats t.last ∧ Past t k ∧ TabAt (w5.alloc o) (Mine (w.heap.size + 1) g) g t) ∧ (w5.alloc o).heap[w.heap.size]? = some (.cells #[.int .i64 k.op, .int .i64 k.ses, .int .i64 k.seq, .int .i64 k.err, .int .i64 k.n] 27 (0, 0)) :=
        fun o => ⟨E5.out.alloc o, ⟨t2, HG4.out, HP4.out, HT5.out.ext ((Ext.refl Non w5).alloc o)⟩, blk_alloc B55.out o⟩
      have FIN := Lib.hid fin
      clear fin
      generalize ask t2.seats k.ses k.seq = r at hask ⊢
      obtain ⟨x1, x2, x3, x4⟩ := r
      simp only at hask ⊢
      obtain ⟨rfl, ⟨rfl, rfl, rfl⟩ | rfl | rfl⟩ := hask
      all_goals
        go_wp2_with fail
        go_roundw
        case rel => exact ⟨j + 1, by omega, by go_num, (FIN.out _).2.1, (FIN.out _).1, by simp; omega, (FIN.out _).2.2⟩
        case measure => simp [intOf]; omega
    · obtain rfl : j = more.length := by omega
      go_wp2_with (first | (go_at_call 11; refine (awake_calls _).mono ?_; rintro e w4 ⟨rfl, he⟩; have HE4 := Lib.hid he; clear he) | fail)
      go_ret
      exact ⟨rfl, HEr.out.trans0 HE4.out⟩
end Go.Proofs.Ytiebnjkjgobklaa
