/- SessNext: the walk. -/
import Derived.Test.YtiebnjkjgobklaaS7
namespace Go.Proofs.Ytiebnjkjgobklaa
open Go.RowKit Go.TM

theorem next_facts {s : Seat} {seq : Int} (h0 : 0 ≤ s.seq) (h1 : s.seq ≤ 9223372036854775807) (h2 : seq ≤ 9223372036854775807) :
    ((askS s seq).fresh = true ∧ (askS s seq).e = 0 ∧ seq = s.seq + 1 ∧ s.seq + 1 ≤ 9223372036854775807) ∨
    ((askS s seq).fresh = false ∧ (seq = wrap64 (s.seq + 1) → seq ≤ 0)) := by
  unfold askS
  split
  · refine .inr ⟨rfl, fun e => ?_⟩
    unfold wrap64 at e
    omega
  · split
    · refine .inr ⟨rfl, fun e => ?_⟩
      unfold wrap64 at e
      omega
    · split
      · exact .inl ⟨rfl, rfl, by omega, by omega⟩
      · refine .inr ⟨rfl, fun e => ?_⟩
        unfold wrap64 at e
        omega

set_option maxHeartbeats 2000000 in
set_option maxRecDepth 100000 in
theorem next_calls {w : World} {ok : Nat → Prop} {A : Option Addr} {c : Nat} {l : List Do} (H : Rd doK w ok (.slice A l.length c) l) (hl : ∀ k ∈ l, k.ok) (seq session : Int) (hq : I64 seq) (hs : I64 session) :
    Calls Try.prog 5 #[.slice A l.length c, .int .i64 seq, .int .i64 session] w fun e w' => e = .returned (.bool true) ∧ Ext Non w w' := by
  have HH := Lib.hid H
  have HL := Lib.hid hl
  obtain ⟨s1, s2⟩ := hs
  obtain ⟨q1, q2⟩ := hq
  clear H hl
  go_enter Try.func5, Try.ntmps5
  go_wp2_with (first | (go_at_call 11; refine (awake_calls _).mono ?_; rintro e w1 ⟨rfl, he⟩; have HE := Lib.hid he; clear he) | fail)
  · go_ret
    exact ⟨rfl, HE.out⟩
  refine (made_calls HH.out HL.out).mono ?_
  rintro e w1 ⟨g, rfl, hg0, hg1, hT, hE⟩
  have hG := Lib.hid (Good.run l HL.out)
  generalize run l = t0 at hT hG
  have HT := Lib.hid hT
  have HE := Lib.hid hE
  clear hT hE
  go_wp2_with fail
  refine (Ask_calls HT.out hG.out session seq s1 s2 q2).mono ?_
  rintro e w2 ⟨rfl, h4⟩
  unfold AskR.val
  have HT2 := Lib.hid (HT.out.ext h4)
  have E2 := Lib.hid (HE.out.trans0 h4)
  have z2 := h4.size
  clear h4
  have hr : ∃ r, ask t0.seats session seq = r := ⟨_, rfl⟩
  obtain ⟨r, hr⟩ := hr
  rw [hr]
  have HR := Lib.hid hr
  clear hr
  obtain ⟨x1, x2, x3, x4⟩ := r
  simp only
  go_wp2_with fail
  refine (List_calls (ok := Mine w.heap.size g) (HT2.out.ext ((Ext.refl Non w2).alloc _)) hG.out.few (fun i hi => ⟨by simp at hi; have := HE.out.size; omega, by simp at hi; omega⟩)).mono ?_
  rintro e w3 ⟨v', rfl, h3, h4⟩
  obtain ⟨A3, c3, rfl, hc3, hm3⟩ := h3.slice
  have R3 := Lib.hid h3.rd
  have E3 := Lib.hid ((E2.out.alloc _).trans0 h4)
  clear h3 h4 hc3
  go_wp2_with fail
  go_loopw [30] (fun i wr => ∃ j : Nat, j ≤ t0.seats.length ∧ i = .int .i64 j ∧ Hid (Ext Non w3 wr) ∧ Hid (∀ s ∈ t0.seats.take j, s.ses ≠ session)) (fun i _ => t0.seats.length - (intOf i).toNat)
  case atStart => exact ⟨0, by omega, rfl, Ext.refl _ _, fun s hs => by simp at hs⟩
  case round =>
    obtain ⟨j, hj, rfl, HEr, HN⟩ := hrel
    by_cases hlt : j < t0.seats.length
    · obtain ⟨s, hs⟩ : ∃ s, t0.seats[j]? = some s := ⟨_, List.getElem?_eq_getElem hlt⟩
      obtain ⟨gl, off, rfl, _, hgl, hc⟩ := (R3.out.ext0 HEr.out).flat_at hs
      have d0 := hc 0 _ rfl
      have d1 := hc 1 _ rfl
      have d2 := hc 2 _ rfl
      have d3 := hc 3 _ rfl
      simp only [Nat.add_zero] at d0
      have hgd := hG.out.get hs
      have HS := Lib.hid hs
      clear hc hs
      by_cases he : s.ses = session
      · have he' : (s.ses == session) = true := by simpa using he
        have hx : (⟨x1, x2, x3, x4⟩ : AskR) = askS s seq := by
          rw [← HR.out, ← he]
          exact ask_yes hG.out HS.out seq
        have hn := next_facts (s := s) (seq := seq) hgd.2.2.1 hgd.2.2.2 q2
        rw [← hx] at hn
        clear he hx
        rcases hn with ⟨h1, h2, h5, h6⟩ | ⟨h1, h2⟩
        · simp only at h1 h2
          subst h1
          subst h2
          have h7 : (seq == s.seq + 1) = true := by simpa using h5
          have h8 : (0 : Int) < seq := by omega
          clear h5
          go_wp2_with (first | (go_at_call 11; refine (awake_calls _).mono ?_; rintro e w4 ⟨rfl, he⟩; have HE4 := Lib.hid he; clear he) | fail)
          go_ret
          exact ⟨rfl, ((E3.out.trans0 HEr.out).alloc _).trans0 HE4.out⟩
        · simp only at h1
          subst h1
          by_cases h3 : seq = wrap64 (s.seq + 1)
          · have h4 := h2 h3
            have h7 : (seq == wrap64 (s.seq + 1)) = true := by simpa using h3
            have h8 : decide ((0 : Int) < seq) = false := by simpa using h4
            clear h2 h3 h4
            go_wp2_with (first | (go_at_call 11; refine (awake_calls _).mono ?_; rintro e w4 ⟨rfl, he⟩; have HE4 := Lib.hid he; clear he) | fail)
            go_ret
            exact ⟨rfl, ((E3.out.trans0 HEr.out).alloc _).trans0 HE4.out⟩
          · have h7 : (seq == wrap64 (s.seq + 1)) = false := by simpa using h3
            clear h2 h3
            go_wp2_with (first | (go_at_call 11; refine (awake_calls _).mono ?_; rintro e w4 ⟨rfl, he⟩; have HE4 := Lib.hid he; clear he) | fail)
            go_ret
            exact ⟨rfl, ((E3.out.trans0 HEr.out).alloc _).trans0 HE4.out⟩
      · have he' : (s.ses == session) = false := by simpa using he
        have HEE := Lib.hid he
        clear he
        go_wp2_with fail
        go_roundw
        case rel =>
          refine ⟨j + 1, by omega, by go_num, HEr.out.alloc _, ?_⟩
          intro q hq
          have e : t0.seats.take (j + 1) = t0.seats.take j ++ [s] := by
            rw [List.take_add_one, HS.out]
            rfl
          rw [e] at hq
          rcases List.mem_append.1 hq with hq | hq
          · exact HN.out q hq
          · simp only [List.mem_singleton] at hq
            subst hq
            exact HEE.out
        case measure => simp [intOf]; omega
    · obtain rfl : j = t0.seats.length := by omega
      have hno : ∀ s ∈ t0.seats, s.ses ≠ session := by
        have := HN.out
        rwa [List.take_length] at this
      have hx := HR.out
      rw [ask_no hno] at hx
      simp only [AskR.mk.injEq] at hx
      obtain ⟨rfl, rfl, rfl, rfl⟩ := hx
      clear hno
      go_wp2_with (first | (go_at_call 11; refine (awake_calls _).mono ?_; rintro e w4 ⟨rfl, he⟩; have HE4 := Lib.hid he; clear he) | fail)
      go_ret
      exact ⟨rfl, (E3.out.trans0 HEr.out).trans0 HE4.out⟩
end Go.Proofs.Ytiebnjkjgobklaa
