/- Reading a table: the plain law: the program's reading and the document's tell the same. -/
import Derived.Test.YtiebnjkjgobklaaC7
import Derived.Test.YtiebnjkjgobklaaB8
namespace Go.Proofs.Ytiebnjkjgobklaa
open Go.RowKit Go.TM

abbrev big : Int := 1099511627776
theorem rNum_stick {bs : List UInt8} {a : Nat} {err : Int} (h : err ≠ 0) : rNum bs a err = (0, a, err) := by unfold rNum; rw [if_pos h]
theorem rWithin_stick {bs : List UInt8} {a : Nat} {err lo hi : Int} (h : err ≠ 0) : rWithin bs a err lo hi = (0, a, err) := by unfold rWithin; rw [rNum_stick h, if_pos h]
theorem rWithin_le {bs : List UInt8} {a : Nat} {err lo hi : Int} (ha : a ≤ bs.length) : (rWithin bs a err lo hi).2.1 ≤ bs.length ∧ 0 ≤ (rWithin bs a err lo hi).1 ∧ (rWithin bs a err lo hi).1 ≤ max hi 0 := by
  unfold rWithin
  split
  · exact ⟨(rNum_le ha).1, by show (0:Int) ≤ 0; omega, by show (0 : Int) ≤ _; omega⟩
  · split
    · exact ⟨ha, by show (0:Int) ≤ 0; omega, by show (0 : Int) ≤ _; omega⟩
    · rename_i h1 h2
      have := rNum_le (err := err) ha
      exact ⟨this.1, this.2.1, by omega⟩
/-- A number that was read stands there. -/
theorem rNum_take {bs : List UInt8} {a : Nat} (h : (rNum bs a 0).2.2 = 0) : bs.take (rNum bs a 0).2.1 = bs.take a ++ numI (rNum bs a 0).1 := by
  unfold rNum at h ⊢
  rw [if_neg (by simp)] at h ⊢
  by_cases h0 : (numR (bs.drop a)).2.2 ≠ 0
  · rw [if_pos h0] at h
    exact absurd h h0
  · rw [if_neg h0]
    have h0' : (numR (bs.drop a)).2.2 = 0 := Classical.byContradiction h0
    have := numR_ok (l := bs.drop a) (n := (numR (bs.drop a)).1) (k := (numR (bs.drop a)).2.1) (by rw [← h0'])
    show bs.take (a + (numR (bs.drop a)).2.1) = _
    rw [List.take_add, ← this.2.2.1]
    simp [numI]
theorem rWithin_ok {bs : List UInt8} {a : Nat} {err lo hi : Int} (h : (rWithin bs a err lo hi).2.2 = 0) : err = 0 ∧ (rNum bs a 0).2.2 = 0 ∧ rWithin bs a err lo hi = rNum bs a 0 ∧ lo ≤ (rNum bs a 0).1 ∧ (rNum bs a 0).1 ≤ hi := by
  by_cases he : err = 0
  · subst he
    unfold rWithin at h ⊢
    by_cases h1 : (rNum bs a 0).2.2 ≠ 0
    · rw [if_pos h1] at h
      exact absurd h h1
    · rw [if_neg h1] at h ⊢
      by_cases h2 : (rNum bs a 0).1 < lo ∨ hi < (rNum bs a 0).1
      · rw [if_pos h2] at h
        cases h
      · rw [if_neg h2]
        exact ⟨rfl, Classical.byContradiction h1, rfl, by omega, by omega⟩
  · rw [rWithin_stick he] at h
    exact absurd h he

/-- What has been read: the seats, the last one's session, whether they rise (the document's word), the place, the first error. -/
structure St where
  seats : List Seat
  bef : Int
  good : Bool
  at' : Nat
  err : Int
/-- The three numbers behind a session's own. -/
def rest2 (bs : List UInt8) (x : Int × Nat × Int) : Int × Nat × Int := rWithin bs x.2.1 x.2.2 0 big
def rest3 (bs : List UInt8) (x : Int × Nat × Int) : Int × Nat × Int := rWithin bs (rest2 bs x).2.1 (rest2 bs x).2.2 0 1000
def rest4 (bs : List UInt8) (x : Int × Nat × Int) : Int × Nat × Int := rWithin bs (rest3 bs x).2.1 (rest3 bs x).2.2 0 big
def seatOf (bs : List UInt8) (x : Int × Nat × Int) : Seat := ⟨x.1, (rest2 bs x).1, (rest3 bs x).1, (rest4 bs x).1⟩
def pNum (bs : List UInt8) (last : Int) (s : St) : Int × Nat × Int := rWithin bs s.at' s.err (s.bef + 1) (max last (s.bef + 1))
def pStep (bs : List UInt8) (last : Int) (s : St) : St := ⟨s.seats ++ [seatOf bs (pNum bs last s)], (pNum bs last s).1, true, (rest4 bs (pNum bs last s)).2.1, (rest4 bs (pNum bs last s)).2.2⟩
def rN (bs : List UInt8) (s : St) : Int × Nat × Int := rNum bs s.at' s.err
def rStep (bs : List UInt8) (last : Int) (s : St) : St := ⟨s.seats ++ [seatOf bs (rN bs s)], (rN bs s).1, s.good && decide (s.bef < (rN bs s).1) && decide ((rN bs s).1 ≤ last), (rest4 bs (rN bs s)).2.1, (rest4 bs (rN bs s)).2.2⟩
def hd1 (bs : List UInt8) : Int × Nat × Int := rWithin bs 0 0 0 big
def hd2 (bs : List UInt8) : Int × Nat × Int := rWithin bs (hd1 bs).2.1 (hd1 bs).2.2 0 8
def st0 (bs : List UInt8) : St := ⟨[], 0, true, (hd2 bs).2.1, (hd2 bs).2.2⟩
def pAt (bs : List UInt8) : Nat → St
  | 0 => st0 bs
  | j + 1 => pStep bs (hd1 bs).1 (pAt bs j)
def rAt (bs : List UInt8) : Nat → St
  | 0 => st0 bs
  | j + 1 => rStep bs (hd1 bs).1 (rAt bs j)

theorem rest4_stick {bs : List UInt8} {x : Int × Nat × Int} (h : x.2.2 ≠ 0) : (rest4 bs x).2.2 ≠ 0 := by
  have h2 : rest2 bs x = (0, x.2.1, x.2.2) := rWithin_stick h
  have h3 : rest3 bs x = (0, x.2.1, x.2.2) := by unfold rest3; rw [h2]; exact rWithin_stick h
  unfold rest4
  rw [h3, rWithin_stick h]
  exact h
theorem rest_le {bs : List UInt8} {x : Int × Nat × Int} (h : x.2.1 ≤ bs.length) : (rest2 bs x).2.1 ≤ bs.length ∧ (rest3 bs x).2.1 ≤ bs.length ∧ (rest4 bs x).2.1 ≤ bs.length := by
  have h2 : (rest2 bs x).2.1 ≤ bs.length := (rWithin_le h).1
  have h3 : (rest3 bs x).2.1 ≤ bs.length := (rWithin_le h2).1
  exact ⟨h2, h3, (rWithin_le h3).1⟩
theorem hd_le (bs : List UInt8) : (hd1 bs).2.1 ≤ bs.length ∧ (hd2 bs).2.1 ≤ bs.length ∧ 0 ≤ (hd1 bs).1 ∧ (hd1 bs).1 ≤ big ∧ 0 ≤ (hd2 bs).1 ∧ (hd2 bs).1 ≤ 8 := by
  have h1 : (hd1 bs).2.1 ≤ bs.length ∧ 0 ≤ (hd1 bs).1 ∧ (hd1 bs).1 ≤ max big 0 := rWithin_le (Nat.zero_le _)
  have h2 : (hd2 bs).2.1 ≤ bs.length ∧ 0 ≤ (hd2 bs).1 ∧ (hd2 bs).1 ≤ max 8 0 := rWithin_le h1.1
  unfold big at *
  refine ⟨h1.1, h2.1, h1.2.1, ?_, h2.2.1, ?_⟩
  · have := h1.2.2; omega
  · have := h2.2.2; omega
/-- Places and numbers stay small. -/
theorem pAt_le (bs : List UInt8) : ∀ j, (pAt bs j).at' ≤ bs.length ∧ 0 ≤ (pAt bs j).bef ∧ (pAt bs j).bef ≤ big + j ∧ (pAt bs j).seats.length = j
  | 0 => ⟨(hd_le bs).2.1, by show (0 : Int) ≤ 0; omega, by show (0 : Int) ≤ big + _; unfold big; omega, rfl⟩
  | j + 1 => by
    obtain ⟨h1, h2, h3, h4⟩ := pAt_le bs j
    have hx : (pNum bs (hd1 bs).1 (pAt bs j)).2.1 ≤ bs.length ∧ 0 ≤ (pNum bs (hd1 bs).1 (pAt bs j)).1 ∧ (pNum bs (hd1 bs).1 (pAt bs j)).1 ≤ max (max (hd1 bs).1 ((pAt bs j).bef + 1)) 0 := rWithin_le h1
    have hb := (hd_le bs).2.2.2.1
    refine ⟨(rest_le hx.1).2.2, hx.2.1, ?_, ?_⟩
    · show (pNum bs (hd1 bs).1 (pAt bs j)).1 ≤ _
      have := hx.2.2
      unfold big at *
      omega
    · show ((pAt bs j).seats ++ [_]).length = j + 1
      simp [h4]
theorem rAt_le (bs : List UInt8) : ∀ j, (rAt bs j).at' ≤ bs.length ∧ 0 ≤ (rAt bs j).bef ∧ (rAt bs j).bef ≤ 9223372036854775807 ∧ (rAt bs j).seats.length = j
  | 0 => ⟨(hd_le bs).2.1, by show (0 : Int) ≤ 0; omega, by show (0 : Int) ≤ _; omega, rfl⟩
  | j + 1 => by
    obtain ⟨h1, h2, h3, h4⟩ := rAt_le bs j
    have hx := rNum_le (bs := bs) (a := (rAt bs j).at') (err := (rAt bs j).err) h1
    refine ⟨(rest_le (x := rN bs (rAt bs j)) hx.1).2.2, hx.2.1, hx.2.2.1, ?_⟩
    show ((rAt bs j).seats ++ [_]).length = j + 1
    simp [h4]

/-- As long as nothing is amiss. -/
structure Fine (bs : List UInt8) (j : Nat) (p r : St) : Prop where
  pe : p.err = 0
  re : r.err = 0
  good : r.good = true
  seats : p.seats = r.seats
  at' : p.at' = r.at'
  bef : p.bef = r.bef
  low : p.bef ≤ (hd1 bs).1
  len : p.seats.length = j
  rising : p.seats.Pairwise (fun a b => a.ses < b.ses)
  one : ∀ s ∈ p.seats, 1 ≤ s.ses
  top : ∀ s ∈ p.seats, s.ses ≤ p.bef
  nums : ∀ s ∈ p.seats, (0 ≤ s.seq ∧ s.seq ≤ big) ∧ (0 ≤ s.err ∧ s.err ≤ 1000) ∧ (0 ≤ s.n ∧ s.n ≤ big)
  bytes : bs.take p.at' = bs.take (hd2 bs).2.1 ++ (p.seats.flatMap four).flatMap numI
def Amiss (bs : List UInt8) (p r : St) : Prop := (p.err ≠ 0 ∨ (hd1 bs).1 < p.bef) ∧ (r.err ≠ 0 ∨ r.good = false)

theorem amiss_step {bs : List UInt8} {p r : St} (h : Amiss bs p r) : Amiss bs (pStep bs (hd1 bs).1 p) (rStep bs (hd1 bs).1 r) := by
  obtain ⟨hp, hr⟩ := h
  constructor
  · rcases hp with hp | hp
    · left
      refine rest4_stick ?_
      unfold pNum
      rw [rWithin_stick hp]
      exact hp
    · by_cases he : (pNum bs (hd1 bs).1 p).2.2 = 0
      · right
        have hq := rWithin_ok he
        show (hd1 bs).1 < (pNum bs (hd1 bs).1 p).1
        have h1 : (pNum bs (hd1 bs).1 p).1 = (rNum bs p.at' 0).1 := by rw [show pNum bs (hd1 bs).1 p = rNum bs p.at' 0 from hq.2.2.1]
        rw [h1]
        have := hq.2.2.2.1
        omega
      · exact .inl (rest4_stick he)
  · rcases hr with hr | hr
    · left
      refine rest4_stick ?_
      unfold rN
      rw [rNum_stick hr]
      exact hr
    · right
      show (r.good && _ && _) = false
      rw [hr]
      rfl
theorem fine_step {bs : List UInt8} {j : Nat} {p r : St} (h : Fine bs j p r) (hb : 0 ≤ p.bef) : Fine bs (j + 1) (pStep bs (hd1 bs).1 p) (rStep bs (hd1 bs).1 r) ∨ Amiss bs (pStep bs (hd1 bs).1 p) (rStep bs (hd1 bs).1 r) := by
  have hR : rN bs r = rNum bs p.at' 0 := by unfold rN; rw [h.re, h.at']
  by_cases he : (rNum bs p.at' 0).2.2 = 0
  · by_cases hin : p.bef + 1 ≤ (rNum bs p.at' 0).1 ∧ (rNum bs p.at' 0).1 ≤ max (hd1 bs).1 (p.bef + 1)
    · have hP : pNum bs (hd1 bs).1 p = rNum bs p.at' 0 := by
        unfold pNum rWithin
        rw [h.pe, if_neg (by simpa using he), if_neg (by omega)]
      by_cases hl : (rNum bs p.at' 0).1 ≤ (hd1 bs).1
      · by_cases h4 : (rest4 bs (rNum bs p.at' 0)).2.2 = 0
        · left
          have k4 := rWithin_ok h4
          have k3 := rWithin_ok (show (rWithin bs (rest2 bs (rNum bs p.at' 0)).2.1 (rest2 bs (rNum bs p.at' 0)).2.2 0 1000).2.2 = 0 from k4.1)
          have k2 := rWithin_ok (show (rWithin bs (rNum bs p.at' 0).2.1 (rNum bs p.at' 0).2.2 0 big).2.2 = 0 from k3.1)
          have v2 : rest2 bs (rNum bs p.at' 0) = rNum bs (rNum bs p.at' 0).2.1 0 := k2.2.2.1
          have v3 : rest3 bs (rNum bs p.at' 0) = rNum bs (rest2 bs (rNum bs p.at' 0)).2.1 0 := k3.2.2.1
          have v4 : rest4 bs (rNum bs p.at' 0) = rNum bs (rest3 bs (rNum bs p.at' 0)).2.1 0 := k4.2.2.1
          have t1 := rNum_take he
          have t2 := rNum_take k2.2.1
          have t3 := rNum_take k3.2.1
          have t4 := rNum_take k4.2.1
          rw [← v2] at t2
          rw [← v3] at t3
          rw [← v4] at t4
          have hmem : ∀ s, s ∈ p.seats ++ [seatOf bs (rNum bs p.at' 0)] → s ∈ p.seats ∨ s = seatOf bs (rNum bs p.at' 0) := fun s hs => by
            rcases List.mem_append.1 hs with hs | hs
            · exact .inl hs
            · exact .inr (List.mem_singleton.1 hs)
          refine ⟨?_, ?_, ?_, ?_, ?_, ?_, ?_, ?_, ?_, ?_, ?_, ?_, ?_⟩
          · show (rest4 bs (pNum bs (hd1 bs).1 p)).2.2 = 0
            rw [hP]; exact h4
          · show (rest4 bs (rN bs r)).2.2 = 0
            rw [hR]; exact h4
          · show (r.good && _ && _) = true
            rw [hR, h.good, ← h.bef, decide_eq_true (by omega), decide_eq_true hl]
            rfl
          · show p.seats ++ [_] = r.seats ++ [_]
            rw [hP, hR, h.seats]
          · show (rest4 bs (pNum bs (hd1 bs).1 p)).2.1 = (rest4 bs (rN bs r)).2.1
            rw [hP, hR]
          · show (pNum bs (hd1 bs).1 p).1 = (rN bs r).1
            rw [hP, hR]
          · show (pNum bs (hd1 bs).1 p).1 ≤ _
            rw [hP]; exact hl
          · show (p.seats ++ [_]).length = _
            simp [h.len]
          · show List.Pairwise _ (p.seats ++ [seatOf bs (pNum bs (hd1 bs).1 p)])
            rw [hP, List.pairwise_append]
            refine ⟨h.rising, by simp, fun a ha b hb' => ?_⟩
            rw [List.mem_singleton.1 hb']
            show a.ses < (rNum bs p.at' 0).1
            have := h.top a ha
            omega
          · intro s hs
            have hs : s ∈ p.seats ++ [seatOf bs (pNum bs (hd1 bs).1 p)] := hs
            rw [hP] at hs
            rcases hmem s hs with hs | rfl
            · exact h.one s hs
            · show 1 ≤ (rNum bs p.at' 0).1
              omega
          · intro s hs
            have hs : s ∈ p.seats ++ [seatOf bs (pNum bs (hd1 bs).1 p)] := hs
            show s.ses ≤ (pNum bs (hd1 bs).1 p).1
            rw [hP] at hs ⊢
            rcases hmem s hs with hs | rfl
            · have := h.top s hs; omega
            · exact Int.le_refl _
          · intro s hs
            have hs : s ∈ p.seats ++ [seatOf bs (pNum bs (hd1 bs).1 p)] := hs
            rw [hP] at hs
            rcases hmem s hs with hs | rfl
            · exact h.nums s hs
            · have q2 := k2.2.2.2
              have q3 := k3.2.2.2
              have q4 := k4.2.2.2
              rw [← v2] at q2
              rw [← v3] at q3
              rw [← v4] at q4
              exact ⟨q2, q3, q4⟩
          · show bs.take (rest4 bs (pNum bs (hd1 bs).1 p)).2.1 = _ ++ ((p.seats ++ [seatOf bs (pNum bs (hd1 bs).1 p)]).flatMap four).flatMap numI
            rw [hP, t4, t3, t2, t1, h.bytes]
            simp [four, seatOf]
        · right
          refine ⟨.inl ?_, .inl ?_⟩
          · show (rest4 bs (pNum bs (hd1 bs).1 p)).2.2 ≠ 0
            rw [hP]; exact h4
          · show (rest4 bs (rN bs r)).2.2 ≠ 0
            rw [hR]; exact h4
      · right
        refine ⟨.inr ?_, .inr ?_⟩
        · show _ < (pNum bs (hd1 bs).1 p).1
          rw [hP]; omega
        · show (r.good && _ && _) = false
          rw [hR, decide_eq_false hl, Bool.and_false]
    · right
      constructor
      · left
        refine rest4_stick ?_
        unfold pNum rWithin
        rw [h.pe, if_neg (by simpa using he), if_pos (by omega)]
        show (5 : Int) ≠ 0
        omega
      · right
        show (r.good && _ && _) = false
        rw [hR, ← h.bef]
        by_cases h1 : p.bef < (rNum bs p.at' 0).1
        · rw [decide_eq_false (p := (rNum bs p.at' 0).1 ≤ _) (by omega), Bool.and_false]
        · rw [decide_eq_false h1, Bool.and_false, Bool.false_and]
  · right
    refine ⟨.inl (rest4_stick ?_), .inl (rest4_stick ?_)⟩
    · unfold pNum rWithin
      rw [h.pe, if_pos he]
      exact he
    · rw [hR]
      exact he
theorem both (bs : List UInt8) : ∀ j, Fine bs j (pAt bs j) (rAt bs j) ∨ Amiss bs (pAt bs j) (rAt bs j)
  | 0 => by
    by_cases h : (hd2 bs).2.2 = 0
    · left
      exact ⟨h, h, rfl, rfl, rfl, rfl, (hd_le bs).2.2.1, rfl, List.Pairwise.nil, by simp [pAt, st0], by simp [pAt, st0], by simp [pAt, st0], by simp [pAt, st0]⟩
    · exact .inr ⟨.inl h, .inl h⟩
  | j + 1 => by
    rcases both bs j with h | h
    · exact fine_step h (pAt_le bs j).2.1
    · exact .inr (amiss_step h)
/-- How many are told, and what stands behind them. -/
def many (bs : List UInt8) : Nat := (hd2 bs).1.toNat
def pEnd (bs : List UInt8) : St := pAt bs (many bs)
def rEnd (bs : List UInt8) : St := rAt bs (many bs)
def pOk (bs : List UInt8) : Bool := (pEnd bs).err == 0 && !decide ((hd1 bs).1 < (pEnd bs).bef)
def rOk (bs : List UInt8) : Bool := (rEnd bs).good && ((rEnd bs).err == 0)
def pTab (bs : List UInt8) : Tab := ⟨(pEnd bs).seats, (hd1 bs).1⟩
def rTab (bs : List UInt8) : Tab := ⟨(rEnd bs).seats, (hd1 bs).1⟩
theorem ends (bs : List UInt8) : (pOk bs = false ∧ rOk bs = false) ∨
    (pOk bs = true ∧ rOk bs = true ∧ pTab bs = rTab bs ∧ (pEnd bs).at' = (rEnd bs).at' ∧ (pEnd bs).err = 0 ∧ (rEnd bs).err = 0 ∧ Good (pTab bs).seats (pTab bs).last ∧ Vals (pTab bs).seats ∧ bs.take (pEnd bs).at' = putB (pTab bs)) := by
  have hd := hd_le bs
  unfold big at hd
  rcases both bs (many bs) with h | h
  · right
    have hlow := h.low
    have hb : (hd2 bs).2.2 = 0 := by
      by_cases h0 : (hd2 bs).2.2 = 0
      · exact h0
      · have : ∀ j, (pAt bs j).err ≠ 0 := by
          intro j
          induction j with
          | zero => exact h0
          | succ j ih =>
            refine rest4_stick ?_
            unfold pNum
            rw [rWithin_stick ih]
            exact ih
        exact absurd h.pe (this _)
    have k2 := rWithin_ok (show (rWithin bs (hd1 bs).2.1 (hd1 bs).2.2 0 8).2.2 = 0 from hb)
    have k1 := rWithin_ok (show (rWithin bs 0 0 0 big).2.2 = 0 from k2.1)
    have v1 : hd1 bs = rNum bs 0 0 := k1.2.2.1
    have v2 : hd2 bs = rNum bs (hd1 bs).2.1 0 := k2.2.2.1
    have t1 := rNum_take k1.2.1
    have t2 := rNum_take k2.2.1
    rw [← v1] at t1
    rw [← v2] at t2
    refine ⟨?_, ?_, ?_, h.at', h.pe, h.re, ⟨h.rising, h.one, ?_, hd.2.2.1, hd.2.2.2.1, ?_, ?_, ?_⟩, ?_, ?_⟩
    · unfold pOk pEnd
      rw [h.pe, decide_eq_false (by omega)]
      rfl
    · unfold rOk rEnd
      rw [h.good, h.re]
      rfl
    · unfold pTab rTab pEnd rEnd
      rw [h.seats]
    · intro s hs
      have := h.top s hs
      show s.ses ≤ (hd1 bs).1
      omega
    · show (pAt bs (many bs)).seats.length ≤ 8
      rw [h.len]
      unfold many
      omega
    · exact fun s hs => (h.nums s hs).1.1
    · intro s hs
      have := (h.nums s hs).1.2
      unfold big at this
      omega
    · intro s hs
      have := (h.nums s hs).2
      unfold big at this
      exact ⟨⟨by omega, by omega⟩, by omega, by omega⟩
    · have hm : ((pAt bs (many bs)).seats.length : Int) = (hd2 bs).1 := by
        rw [h.len]
        unfold many
        omega
      show bs.take (pAt bs (many bs)).at' = ([(hd1 bs).1, ((pAt bs (many bs)).seats.length : Int)] ++ _).flatMap numI
      rw [h.bytes, t2, t1, hm]
      simp [pTab, pEnd]
  · left
    obtain ⟨hp, hr⟩ := h
    constructor
    · unfold pOk pEnd
      rcases hp with hp | hp
      · rw [beq_eq_false_iff_ne.2 hp]
        rfl
      · rw [decide_eq_true hp]
        simp
    · unfold rOk rEnd
      rcases hr with hr | hr
      · rw [beq_eq_false_iff_ne.2 hr, Bool.and_false]
      · rw [hr, Bool.false_and]
end Go.Proofs.Ytiebnjkjgobklaa
