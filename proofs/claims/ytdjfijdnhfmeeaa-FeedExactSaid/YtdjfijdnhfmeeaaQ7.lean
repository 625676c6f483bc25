/- The function values of a feed; find; DeleteFunc on any row of one's own. -/
import Derived.Test.YtdjfijdnhfmeeaaQ6
namespace Go.Proofs.Ytdjfijdnhfmeeaa
open Go.RowKit Go.TM
section
variable {w : World} {k b : Nat} {id : Int} {ok M : Nat → Prop}
theorem find_pred (hb : w.heap[b]? = some (.cells #[.int .i64 id] 3 (0, 0))) (hM : ¬ M b) : PredOn (sbK k) 80 #[.pointer (some ⟨b, 0, none⟩)] (fun s => s.id == id) M ok w where
  enters := fun args w => by kernel_rfl
  tells := fun w1 he x cs hx => by
    obtain ⟨v, rfl, hr⟩ := hx
    obtain ⟨A, m, c, rfl, -⟩ := rd_abs hr
    have c0 : w1.cell? ⟨b, 0, none⟩ = some (.int .i64 id) := blk_cell (he.obj hb hM) 0
    have hlt : b < w1.heap.size := Nat.lt_of_lt_of_le (blk_lt hb) he.size
    clear hr he hb
    show Calls Try.prog 80 #[.agg #[.int .i64 x.id, .int .i64 x.fr, .int .i64 x.at_, .int .i64 x.q.op, .string x.q.key, .string x.q.val, .slice A m c, .bool x.gone], .pointer (some ⟨b, 0, none⟩)] w1 _
    go_enter Try.func80, Try.ntmps80
    go_wp2_with fail
    go_ret
    refine ⟨rfl, ?_⟩
    repeat (first | exact Ext.refl _ _ | refine Ext.drew ?_ | refine Ext.alloc ?_ _ | refine Ext.setNew ?_ (Nat.le_refl _) _)
theorem drop_pred (hb : w.heap[b]? = some (.cells #[.int .i64 id] 3 (0, 0))) (hM : ¬ M b) : PredOn (sbK k) 56 #[.pointer (some ⟨b, 0, none⟩)] (fun s => s.id == id) M ok w where
  enters := fun args w => by kernel_rfl
  tells := fun w1 he x cs hx => by
    obtain ⟨v, rfl, hr⟩ := hx
    obtain ⟨A, m, c, rfl, -⟩ := rd_abs hr
    have c0 : w1.cell? ⟨b, 0, none⟩ = some (.int .i64 id) := blk_cell (he.obj hb hM) 0
    have hlt : b < w1.heap.size := Nat.lt_of_lt_of_le (blk_lt hb) he.size
    clear hr he hb
    show Calls Try.prog 56 #[.agg #[.int .i64 x.id, .int .i64 x.fr, .int .i64 x.at_, .int .i64 x.q.op, .string x.q.key, .string x.q.val, .slice A m c, .bool x.gone], .pointer (some ⟨b, 0, none⟩)] w1 _
    go_enter Try.func56, Try.ntmps56
    go_wp2_with fail
    go_ret
    refine ⟨rfl, ?_⟩
    repeat (first | exact Ext.refl _ _ | refine Ext.drew ?_ | refine Ext.alloc ?_ _ | refine Ext.setNew ?_ (Nat.le_refl _) _)
theorem trim_pred {okS : Nat → Prop} {n g b2 a : Nat} {A : Option Addr} {m c : Nat} {l : List Sb} {se : Value} {nx tp : Int} {y : Sb} (hb : w.heap[b]? = some (.cells #[.pointer (some ⟨g, 0, none⟩)] 29 (0, 0))) (hb2 : w.heap[b2]? = some (.cells #[.int .i64 (a : Int)] 3 (0, 0)))
    (hg : FdB w g se (.slice A m c) nx tp) (hr : Rd (sbK n) w okS (.slice A m c) l) (hy : l[a]? = some y) (hM : ¬ M b) (hM2 : ¬ M b2) (hMg : ¬ M g) (hMk : ∀ k, okS k → k < w.heap.size → ¬ M k) :
    PredOn evK 79 #[.pointer (some ⟨b, 0, none⟩), .pointer (some ⟨b2, 0, none⟩)] (fun e => decide (e.pos ≤ y.at_)) M ok w where
  enters := fun args w => by kernel_rfl
  tells := fun w1 he x cs hx => by
    cases hx
    have hrl := hr.slice
    obtain ⟨_, _, hs, _, hm⟩ := hrl
    simp only [Value.slice.injEq] at hs
    obtain ⟨-, hn, -⟩ := hs
    have hmx : (m : Int) ≤ 9223372036854775807 := by omega
    have c0 : w1.cell? ⟨b, 0, none⟩ = some (.pointer (some ⟨g, 0, none⟩)) := blk_cell (he.obj hb hM) 0
    have c2 : w1.cell? ⟨b2, 0, none⟩ = some (.int .i64 (a : Int)) := blk_cell (he.obj hb2 hM2) 0
    have g1 : w1.cell? ⟨g, 1, none⟩ = some (.slice A m c) := he.cell hg.c1 hMg
    have hlt : b < w1.heap.size := Nat.lt_of_lt_of_le (blk_lt hb) he.size
    have hlt2 : b2 < w1.heap.size := Nat.lt_of_lt_of_le (blk_lt hb2) he.size
    have hltg : g < w1.heap.size := Nat.lt_of_lt_of_le (blk_lt hg) he.size
    obtain ⟨gb, offb, B2, bl2, bd2, rfl, hgb, hglb, d0, d1, d2, d3, d4, d5, d6, d7, dr⟩ := sb_at (hr.ext he hMk) hy
    have han : a < m := by have := (List.getElem?_eq_some_iff.1 hy).1; omega
    clear dr he hb hb2 hr hg hm hn hgb hMk d0 d1 d3 d4 d5 d6 d7
    show Calls Try.prog 79 #[.agg #[.int .i64 x.pos, .string x.key, .bool x.had, .string x.old, .bool x.has, .string x.now], .pointer (some ⟨b, 0, none⟩), .pointer (some ⟨b2, 0, none⟩)] w1 _
    go_enter Try.func79, Try.ntmps79
    go_wp2_with fail
    go_region
    go_wp2_with fail
    go_ret
    refine ⟨rfl, ?_⟩
    repeat (first | exact Ext.refl _ _ | refine Ext.drew ?_ | refine Ext.alloc ?_ _ | refine Ext.setNew ?_ (Nat.le_refl _) _)
end
/-- Where a subscriber stands. -/
def findR (l : List Sb) (id : Int) : Int × Int := match l.findIdx? (fun s => s.id == id) with
  | none => (0, 80)
  | some i => match l[i]? with
    | some s => if s.gone = true then (0, 81) else ((i : Int), 0)
    | none => (0, 80)
theorem findR_cases (l : List Sb) (id : Int) : (findR l id = (0, 80) ∧ ∀ x ∈ l, ¬ x.id = id) ∨ ∃ (i : Nat) (x : Sb), l[i]? = some x ∧ x.id = id ∧ (∀ k y, k < i → l[k]? = some y → ¬ y.id = id) ∧ ((x.gone = true ∧ findR l id = (0, 81)) ∨ (x.gone = false ∧ findR l id = ((i : Int), 0))) := by
  unfold findR
  cases h : l.findIdx? (fun s => s.id == id) with
  | none =>
    left
    refine ⟨rfl, fun x hx => ?_⟩
    have := List.findIdx?_eq_none_iff.1 h x hx
    simpa using this
  | some i =>
    right
    rw [List.findIdx?_eq_some_iff_getElem] at h
    obtain ⟨hi, h1, h2⟩ := h
    refine ⟨i, l[i], List.getElem?_eq_getElem hi, by simpa using h1, fun k y hk hy => ?_, ?_⟩
    · have := h2 k hk
      rw [(List.getElem?_eq_some_iff.1 hy).2] at this
      simpa using this
    · simp only [List.getElem?_eq_getElem hi]
      cases hg : l[i].gone with
      | true => exact .inl ⟨rfl, rfl⟩
      | false => exact .inr ⟨rfl, by simp⟩
theorem findI_R (l : List Sb) (id : Int) : findI (fun s => s.id == id) l = (match l.findIdx? (fun s => s.id == id) with | some i => (i : Int) | none => -1) := rfl
set_option maxRecDepth 100000 in
set_option maxHeartbeats 4000000 in
theorem find_calls {w : World} {n g : Nat} {ok : Nat → Prop} {D : Fdr} (h : Fd n ok w g D) (hn0 : D.next ≠ 0) (id : Int) :
    Calls Try.prog 53 #[.pointer (some ⟨g, 0, none⟩), .int .i64 id] w fun e w' => e = .returned (.tuple #[.int .i64 (findR D.subs id).1, .int .i64 (findR D.subs id).2]) ∧ Ext Non w w' := by
  obtain ⟨A1, n1, c1, A2, n2, c2, hb, h1, h2, h3⟩ := h
  obtain ⟨_, _, hs, _, hm⟩ := h2.slice
  simp only [Value.slice.injEq] at hs
  obtain ⟨-, hn, -⟩ := hs
  have hmx : (n2 : Int) ≤ 9223372036854775807 := by omega
  have E0 : Hid (Ext Non w (w.alloc (.cells #[.int .i64 id] 3))) := (Ext.refl _ _).alloc _
  have HB0 : Hid (FdB (w.alloc (.cells #[.int .i64 id] 3)) g _ _ _ _) := E0.out.obj hb (fun e => e)
  have g1 : w.cell? ⟨g, 1, none⟩ = _ := hb.c1
  have HI := Lib.hid (IndexS_calls (h2.ext0 E0.out) (find_pred (k := n) (ok := ok) (M := Non) (blk_new w (.cells #[.int .i64 id] 3)) (fun e => e)))
  have HD := Lib.hid (dead_live HB0.out hn0)
  have hgl := blk_lt hb
  have H2 := Lib.hid h2
  have HN := Lib.hid hn
  have HBB := Lib.hid hb
  rcases findI_cases (fun s => s.id == id) D.subs with ⟨e1, hall⟩ | ⟨i, x, e1, hx, hp, hbef⟩
  · have hR : findR D.subs id = (0, 80) := by
      rcases findR_cases D.subs id with ⟨h, _⟩ | ⟨i, x, hx, hi, _⟩
      · exact h
      · have := hall x (List.mem_of_getElem? hx)
        simp [hi] at this
    rw [e1] at HI
    rw [hR]
    clear hb h1 h2 h3 hm hn hall hR e1
    go_enter Try.func53, Try.ntmps53
    go_wp2_with fail
    refine HD.out.mono ?_
    rintro e w5 ⟨rfl, rfl⟩
    have g1 := HB0.out.c1
    go_wp2_with fail
    refine HI.out.mono ?_
    rintro e w5 ⟨rfl, he⟩
    have HE := Lib.hid he
    clear he
    go_wp2_with fail
    go_ret2
    exact ⟨rfl, E0.out.trans0 HE.out⟩
  · have hin : i < n2 := by have := (List.getElem?_eq_some_iff.1 hx).1; omega
    rw [e1] at HI
    have HX := Lib.hid hx
    have hR : findR D.subs id = if x.gone = true then (0, 81) else ((i : Int), 0) := by
      rcases findR_cases D.subs id with ⟨h, ha⟩ | ⟨i', x', hx', hi', hb', hc⟩
      · exact absurd (by simpa using hp) (ha x (List.mem_of_getElem? hx))
      · have : i' = i := by
          rcases Nat.lt_trichotomy i' i with h | h | h
          · have := hbef i' x' h hx'
            simp [hi'] at this
          · exact h
          · exact absurd (by simpa using hp) (hb' i x h hx)
        subst this
        rw [hx'] at hx
        cases hx
        rcases hc with ⟨h1, h2⟩ | ⟨h1, h2⟩
        · rw [if_pos h1, h2]
        · rw [if_neg (by rw [h1]; decide), h2]
    cases hq : x.gone with
    | true =>
      rw [hR, if_pos hq]
      clear hb h1 h2 h3 hm hn hR e1 hbef hp hx
      go_enter Try.func53, Try.ntmps53
      go_wp2_with fail
      refine HD.out.mono ?_
      rintro e w5 ⟨rfl, rfl⟩
      have g1 := HB0.out.c1
      go_wp2_with fail
      refine HI.out.mono ?_
      rintro e w5 ⟨rfl, he⟩
      have HE := Lib.hid he
      obtain ⟨gb, offb, B2, bl2, bd2, rfl, hgb, hglb, d0, d1, d2, d3, d4, d5, d6, d7, dr⟩ := sb_at (H2.out.ext0 (E0.out.trans0 he)) HX.out
      have g1 := he.cell HB0.out.c1 (fun e => e)
      rw [hq] at d7
      clear he d0 d1 d2 d3 d4 d5 d6 dr hgb hq
      go_wp2_with fail
      go_ret2
      exact ⟨rfl, E0.out.trans0 HE.out⟩
    | false =>
      rw [hR, if_neg (by rw [hq]; decide)]
      clear hb h1 h2 h3 hm hn hR e1 hbef hp hx
      go_enter Try.func53, Try.ntmps53
      go_wp2_with fail
      refine HD.out.mono ?_
      rintro e w5 ⟨rfl, rfl⟩
      have g1 := HB0.out.c1
      go_wp2_with fail
      refine HI.out.mono ?_
      rintro e w5 ⟨rfl, he⟩
      have HE := Lib.hid he
      obtain ⟨gb, offb, B2, bl2, bd2, rfl, hgb, hglb, d0, d1, d2, d3, d4, d5, d6, d7, dr⟩ := sb_at (H2.out.ext0 (E0.out.trans0 he)) HX.out
      have g1 := he.cell HB0.out.c1 (fun e => e)
      rw [hq] at d7
      clear he d0 d1 d2 d3 d4 d5 d6 dr hgb hq
      go_wp2_with fail
      go_ret2
      exact ⟨rfl, E0.out.trans0 HE.out⟩
/-- A feed that no call made is not looked into. -/
theorem find_dead {w : World} {p : Option Addr} {M : Nat → Prop} (hd : ∀ w', Ext M w w' → Calls Try.prog 48 #[.pointer p] w' fun e w2 => e = .returned (.bool true) ∧ w' = w2) (id : Int) :
    Calls Try.prog 53 #[.pointer p, .int .i64 id] w fun e w' => e = .returned (.tuple #[.int .i64 0, .int .i64 6]) ∧ Ext Non w w' := by
  have HD := Lib.hid (hd (w.alloc (.cells #[.int .i64 id] 3)) ((Ext.refl _ _).alloc _))
  clear hd
  go_enter Try.func53, Try.ntmps53
  go_wp2_with fail
  refine HD.out.mono ?_
  rintro e w5 ⟨rfl, rfl⟩
  go_wp2_with fail
  go_ret2
  exact ⟨rfl, (Ext.refl _ _).alloc _⟩
section
variable {w : World} {ok : Nat → Prop} {base : Nat} {fn : FuncId} {lb : Array Value}
theorem DeleteS_own {k : Nat} {A : Option Addr} {n c : Nat} {l : List Sb} {p : Sb → Bool} (H : Own (sbK k) 64 w base ok (.slice A n c) l) (hp : PredOn (sbK k) fn lb p (fun i => some i = (Value.slice A n c).ownBlock) ok w) :
    Calls Try.prog 55 #[.slice A n c, .func (.func fn) #[] lb] w fun e w' => ∃ B m d, e = .returned (.slice B m d) ∧ Own (sbK k) 64 w' base ok (.slice B m d) (l.filter fun x => !p x) ∧ Ext (fun i => some i = (Value.slice A n c).ownBlock) w w' := by
  cases A with
  | none =>
    have hl : l = [] := none_nil H.rd
    subst hl
    have hn : n = 0 := by
      obtain ⟨_, _, hs, _, _⟩ := H.slice
      simp only [Value.slice.injEq] at hs
      exact hs.2.1
    subst hn
    have HI := Lib.hid (IndexS_calls (l := []) (A := none) (n := 0) (c := c) H.rd ⟨hp.enters, fun w1 h1 => hp.tells w1 h1.of0⟩)
    have HO := Lib.hid H
    clear H hp
    rw [show findI p ([] : List Sb) = -1 from rfl] at HI
    go_enter Try.func55, Try.ntmps55
    go_wp2_with fail
    refine HI.out.mono ?_
    rintro e w5 ⟨rfl, he⟩
    have HE := Lib.hid he
    clear he
    go_wp2_with fail
    go_ret
    exact ⟨none, 0, c, rfl, HO.out.ext0 HE.out, HE.out.of0⟩
  | some a =>
    obtain ⟨g, rfl⟩ : ∃ g, a = ⟨g, 0, none⟩ := by
      obtain ⟨h0, inner, ho, hr⟩ := H
      rcases ho.2 with ⟨h2, _⟩ | ⟨g', cap, cur, h2, _⟩
      · simp at h2
      · simp only [Value.slice.injEq, Option.some.injEq] at h2
        exact ⟨g', h2.1⟩
    obtain ⟨rfl, hb, cur, zs, T, rfl, hz⟩ := H.to_prow
    have hM : (fun i => some i = (Value.slice (some ⟨g, 0, none⟩) (zs.map Prod.fst).length c).ownBlock) = Only g := by
      funext i
      simp [Value.ownBlock]
    rw [hM] at hp ⊢
    rw [List.length_map]
    refine (DeleteS_calls hz hp).mono ?_
    rintro e w' ⟨m, d, rfl, ho, he⟩
    exact ⟨_, m, d, rfl, ho.lower hb, he⟩
theorem DeleteE_own {A : Option Addr} {n c : Nat} {l : List Ev} {p : Ev → Bool} (H : Own evK 43 w base ok (.slice A n c) l) (hp : PredOn evK fn lb p (fun i => some i = (Value.slice A n c).ownBlock) ok w) :
    Calls Try.prog 78 #[.slice A n c, .func (.func fn) #[] lb] w fun e w' => ∃ B m d, e = .returned (.slice B m d) ∧ Own evK 43 w' base ok (.slice B m d) (l.filter fun x => !p x) ∧ Ext (fun i => some i = (Value.slice A n c).ownBlock) w w' := by
  cases A with
  | none =>
    have hl : l = [] := none_nil H.rd
    subst hl
    have hn : n = 0 := by
      obtain ⟨_, _, hs, _, _⟩ := H.slice
      simp only [Value.slice.injEq] at hs
      exact hs.2.1
    subst hn
    have HI := Lib.hid (IndexE_calls (l := []) (A := none) (n := 0) (c := c) H.rd ⟨hp.enters, fun w1 h1 => hp.tells w1 h1.of0⟩)
    have HO := Lib.hid H
    clear H hp
    rw [show findI p ([] : List Ev) = -1 from rfl] at HI
    go_enter Try.func78, Try.ntmps78
    go_wp2_with fail
    refine HI.out.mono ?_
    rintro e w5 ⟨rfl, he⟩
    have HE := Lib.hid he
    clear he
    go_wp2_with fail
    go_ret
    exact ⟨none, 0, c, rfl, HO.out.ext0 HE.out, HE.out.of0⟩
  | some a =>
    obtain ⟨g, rfl⟩ : ∃ g, a = ⟨g, 0, none⟩ := by
      obtain ⟨h0, inner, ho, hr⟩ := H
      rcases ho.2 with ⟨h2, _⟩ | ⟨g', cap, cur, h2, _⟩
      · simp at h2
      · simp only [Value.slice.injEq, Option.some.injEq] at h2
        exact ⟨g', h2.1⟩
    obtain ⟨rfl, hb, cur, zs, T, rfl, hz⟩ := H.to_prow
    have hM : (fun i => some i = (Value.slice (some ⟨g, 0, none⟩) (zs.map Prod.fst).length c).ownBlock) = Only g := by
      funext i
      simp [Value.ownBlock]
    rw [hM] at hp ⊢
    rw [List.length_map]
    refine (DeleteE_calls hz hp).mono ?_
    rintro e w' ⟨m, d, rfl, ho, he⟩
    exact ⟨_, m, d, rfl, ho.lower hb, he⟩
end
end Go.Proofs.Ytdjfijdnhfmeeaa
