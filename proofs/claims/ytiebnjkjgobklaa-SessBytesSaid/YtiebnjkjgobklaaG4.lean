/- What is put is read as it was. -/
import Derived.Test.YtiebnjkjgobklaaG0
namespace Go.Proofs.Ytiebnjkjgobklaa
open Go.RowKit Go.TM

theorem rNum_put {bs : List UInt8} {a : Nat} {v : Int} {rest : List UInt8} (h : bs.drop a = numI v ++ rest) (h0 : 0 ≤ v) (h1 : v ≤ 9223372036854775807) : rNum bs a 0 = (v, a + (numI v).length, 0) ∧ bs.drop (a + (numI v).length) = rest := by
  constructor
  · unfold rNum
    have e : numR (bs.drop a) = (v.toNat, (numB v.toNat).length, 0) := by
      rw [h]
      exact numR_numB (by omega) rest
    rw [e, if_neg (by simp), if_neg (by simp)]
    show ((v.toNat : Int), a + (numB v.toNat).length, (0 : Int)) = _
    rw [Int.toNat_of_nonneg h0]
    rfl
  · rw [← List.drop_drop, h, List.drop_left]
theorem rWithin_put {bs : List UInt8} {a : Nat} {v lo hi : Int} {rest : List UInt8} (h : bs.drop a = numI v ++ rest) (h0 : 0 ≤ v) (h1 : v ≤ 9223372036854775807) (h2 : lo ≤ v) (h3 : v ≤ hi) : rWithin bs a 0 lo hi = (v, a + (numI v).length, 0) ∧ bs.drop (a + (numI v).length) = rest := by
  obtain ⟨e, e2⟩ := rNum_put h h0 h1
  refine ⟨?_, e2⟩
  unfold rWithin
  rw [e, if_neg (by simp), if_neg (by show ¬ (v < lo ∨ hi < v); omega)]

/-- What a table may hold that is read again. -/
structure Small (m : Int) (l : List Seat) : Prop where
  seq : ∀ s ∈ l, 0 ≤ s.seq ∧ s.seq ≤ m
  err : ∀ s ∈ l, 0 ≤ s.err ∧ s.err ≤ 1000
  n : ∀ s ∈ l, 0 ≤ s.n ∧ s.n ≤ 1099511627776
theorem Small.up {m m' : Int} {l : List Seat} (h : Small m l) (hm : m ≤ m') : Small m' l := ⟨fun s hs => ⟨(h.seq s hs).1, by have := (h.seq s hs).2; omega⟩, h.err, h.n⟩
theorem Small.nil (m : Int) : Small m [] := ⟨by simp, by simp, by simp⟩
theorem Small.step {m : Int} {t : Tab} (h : Small m t.seats) (h0 : 0 ≤ m) (k : Do) (he : 0 ≤ k.err ∧ k.err ≤ 1000) (hn : 0 ≤ k.n ∧ k.n ≤ 1099511627776) : Small (m + 1) (step t k).2.seats := by
  have hu := h.up (m' := m + 1) (by omega)
  unfold Ytiebnjkjgobklaa.step
  split
  · unfold open_
    split
    · exact hu
    · split
      · exact hu
      · refine ⟨?_, ?_, ?_⟩ <;> intro s hs <;> rcases List.mem_append.1 hs with hs | hs
        · exact hu.seq s hs
        · rw [List.mem_singleton.1 hs]; exact ⟨Int.le_refl _, by show (0 : Int) ≤ _; omega⟩
        · exact hu.err s hs
        · rw [List.mem_singleton.1 hs]; exact ⟨Int.le_refl _, by show (0 : Int) ≤ _; omega⟩
        · exact hu.n s hs
        · rw [List.mem_singleton.1 hs]; exact ⟨Int.le_refl _, by show (0 : Int) ≤ _; omega⟩
  · split
    · unfold close
      split
      · exact ⟨fun s hs => hu.seq s (List.mem_filter.1 hs).1, fun s hs => hu.err s (List.mem_filter.1 hs).1, fun s hs => hu.n s (List.mem_filter.1 hs).1⟩
      · exact hu
    · split
      · exact hu
      · unfold keep
        split
        · exact hu
        · split
          · exact hu
          · rename_i hf
            obtain ⟨i, s, hi, hs, hq, h1⟩ := ask_fresh (l := t.seats) (n := k.ses) (seq := k.seq) (by cases h : (ask t.seats k.ses k.seq).fresh with | true => rfl | false => exact absurd h hf)
            have hsm := h.seq s (List.mem_of_getElem? hi)
            refine ⟨?_, ?_, ?_⟩ <;> intro y hy <;> obtain ⟨z, hz, rfl⟩ := List.mem_map.1 hy <;> split
            · exact ⟨by show 0 ≤ k.seq; omega, by show k.seq ≤ _; omega⟩
            · exact hu.seq z hz
            · exact he
            · exact hu.err z hz
            · exact hn
            · exact hu.n z hz

structure Back (bs : List UInt8) (t : Tab) (rest : List UInt8) (j : Nat) (s : St) : Prop where
  seats : s.seats = t.seats.take j
  err : s.err = 0
  bef0 : 0 ≤ s.bef
  bef1 : s.bef ≤ t.last
  bef2 : ∀ y ∈ t.seats.drop j, s.bef < y.ses
  drop : bs.drop s.at' = ((t.seats.drop j).flatMap four).flatMap numI ++ rest
theorem back (t : Tab) (rest : List UInt8) (hG : Good t.seats t.last) (hS : Small 1099511627776 t.seats) : pOk (putB t ++ rest) = true ∧ pTab (putB t ++ rest) = t ∧ (pEnd (putB t ++ rest)).at' = (putB t).length ∧ (pEnd (putB t ++ rest)).err = 0 := by
  obtain ⟨bs, hbs⟩ : ∃ bs, putB t ++ rest = bs := ⟨_, rfl⟩
  have hlast0 := hG.last0
  have hlast1 := hG.last1
  have hfew := hG.few
  have hdrop : bs.drop 0 = numI t.last ++ (numI (t.seats.length : Int) ++ ((t.seats.flatMap four).flatMap numI ++ rest)) := by
    rw [← hbs, List.drop_zero]
    simp [putB]
  obtain ⟨k1, d1⟩ := rWithin_put (lo := 0) (hi := big) hdrop hlast0 (by omega) hlast0 (by unfold big; omega)
  have e1 : hd1 bs = (t.last, 0 + (numI t.last).length, 0) := k1
  obtain ⟨k2, d2⟩ := rWithin_put (lo := 0) (hi := 8) d1 (by omega) (by omega) (by omega) (by omega)
  have e2 : hd2 bs = ((t.seats.length : Int), 0 + (numI t.last).length + (numI (t.seats.length : Int)).length, 0) := by unfold hd2; rw [e1]; exact k2
  have key : ∀ j, j ≤ t.seats.length → Back bs t rest j (pAt bs j) := by
    intro j
    induction j with
    | zero =>
      intro _
      refine ⟨rfl, ?_, Int.le_refl _, hlast0, fun y hy => ?_, ?_⟩
      · show (hd2 bs).2.2 = 0
        rw [e2]
      · have := hG.low y hy
        show 0 < y.ses
        omega
      · show bs.drop (hd2 bs).2.1 = _
        rw [e2]
        exact d2
    | succ j ih =>
      intro hj
      have B := ih (by omega)
      obtain ⟨x, hx⟩ : ∃ x, t.seats[j]? = some x := ⟨_, List.getElem?_eq_getElem (by omega)⟩
      have hd : t.seats.drop j = x :: t.seats.drop (j + 1) := by
        obtain ⟨hlt, rfl⟩ := List.getElem?_eq_some_iff.1 hx
        exact List.drop_eq_getElem_cons hlt
      have hm := List.mem_of_getElem? hx
      have hdr := B.drop
      rw [hd] at hdr
      have hdr2 : bs.drop (pAt bs j).at' = numI x.ses ++ (numI x.seq ++ (numI x.err ++ (numI x.n ++ (((t.seats.drop (j + 1)).flatMap four).flatMap numI ++ rest)))) := by
        rw [hdr]
        simp [four]
      have hbx := B.bef2 x (by rw [hd]; simp)
      have hxh := hG.high x hm
      have hq := hS.seq x hm
      have he := hS.err x hm
      have hn := hS.n x hm
      have b0 := B.bef0
      obtain ⟨q1, r1⟩ := rWithin_put (lo := (pAt bs j).bef + 1) (hi := max t.last ((pAt bs j).bef + 1)) hdr2 (by omega) (by omega) (by omega) (by omega)
      obtain ⟨q2, r2⟩ := rWithin_put (lo := 0) (hi := big) r1 hq.1 (by omega) hq.1 (by unfold big; omega)
      obtain ⟨q3, r3⟩ := rWithin_put (lo := 0) (hi := 1000) r2 he.1 (by omega) he.1 he.2
      obtain ⟨q4, r4⟩ := rWithin_put (lo := 0) (hi := big) r3 hn.1 (by omega) hn.1 (by unfold big; omega)
      have p1 : pNum bs (hd1 bs).1 (pAt bs j) = (x.ses, (pAt bs j).at' + (numI x.ses).length, 0) := by
        unfold pNum
        rw [B.err, e1]
        exact q1
      have p2 : rest2 bs (pNum bs (hd1 bs).1 (pAt bs j)) = (x.seq, (pAt bs j).at' + (numI x.ses).length + (numI x.seq).length, 0) := by unfold rest2; rw [p1]; exact q2
      have p3 : rest3 bs (pNum bs (hd1 bs).1 (pAt bs j)) = (x.err, (pAt bs j).at' + (numI x.ses).length + (numI x.seq).length + (numI x.err).length, 0) := by unfold rest3; rw [p2]; exact q3
      have p4 : rest4 bs (pNum bs (hd1 bs).1 (pAt bs j)) = (x.n, (pAt bs j).at' + (numI x.ses).length + (numI x.seq).length + (numI x.err).length + (numI x.n).length, 0) := by unfold rest4; rw [p3]; exact q4
      have hs : pAt bs (j + 1) = ⟨(pAt bs j).seats ++ [x], x.ses, true, (pAt bs j).at' + (numI x.ses).length + (numI x.seq).length + (numI x.err).length + (numI x.n).length, 0⟩ := by
        show pStep bs (hd1 bs).1 (pAt bs j) = _
        unfold pStep seatOf
        rw [p4, p3, p2, p1]
      rw [hs]
      refine ⟨?_, rfl, by show 0 ≤ x.ses; omega, hxh, fun y hy => ?_, r4⟩
      · show (pAt bs j).seats ++ [x] = _
        rw [B.seats, List.take_add_one, hx]
        rfl
      · obtain ⟨i, hi⟩ := List.getElem?_of_mem hy
        rw [List.getElem?_drop] at hi
        exact hG.lt hx hi (by omega)
  have hm : many bs = t.seats.length := by unfold many; rw [e2]; simp
  have B := key t.seats.length (Nat.le_refl _)
  have hpe : pEnd bs = pAt bs t.seats.length := by unfold pEnd; rw [hm]
  have hle := (pAt_le bs t.seats.length).1
  rw [hbs]
  refine ⟨?_, ?_, ?_, ?_⟩
  · unfold pOk
    rw [hpe, B.err, e1, decide_eq_false (by have := B.bef1; show ¬ t.last < _; omega)]
    rfl
  · unfold pTab
    rw [hpe, B.seats, e1, List.take_length]
  · rw [hpe]
    have h1 := congrArg List.length B.drop
    have h2 := congrArg List.length hbs
    rw [List.drop_length] at h1
    simp at h1 h2
    omega
  · rw [hpe]
    exact B.err
end Go.Proofs.Ytiebnjkjgobklaa
