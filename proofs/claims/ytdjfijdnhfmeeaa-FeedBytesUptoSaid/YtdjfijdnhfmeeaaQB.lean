/- The function values of a feed; find; DeleteFunc on any row of one's own. Cells of a feed laid anew; trim. New, Drop, Ack. -/
import Derived.Test.YtdjfijdnhfmeeaaQ6
namespace Go.Proofs.Ytdjfijdnhfmeeaa
open Go.RowKit Go.TM
section
variable {w : World} {k b : Nat} {id : Int} {ok M : Nat → Prop}
theorem find_pred (hb : w.heap[b]? = some (.cells #[.int .i64 id] 3 (0, 0))) (hM : ¬ M b) : PredOn (sbK k) 80 #[.pointer (some ⟨b, 0, none⟩)] (fun s => s.id == id) M ok w where
  enters := fun args w => by kernel_rfl
  tells := fun w1 he x cs hx => by
    obtain ⟨v, rfl, hr⟩ := hx
    obtain ⟨A, m, c, rfl, -⟩ := rd_abs hr
    have c0 : w1.cell? ⟨b, 0, none⟩ = some (.int .i64 id) := blk_cell (he.obj hb hM) 0
    have hlt : b < w1.heap.size := Nat.lt_of_lt_of_le (blk_lt hb) he.size
    clear hr he hb
    show Calls Try.prog 80 #[.agg #[.int .i64 x.id, .int .i64 x.fr, .int .i64 x.at_, .int .i64 x.q.op, .string x.q.key, .string x.q.val, .slice A m c, .bool x.gone], .pointer (some ⟨b, 0, none⟩)] w1 _
    go_enter Try.func80, Try.ntmps80
    go_wp2_with fail
    go_ret
    refine ⟨rfl, ?_⟩
    repeat (first | exact Ext.refl _ _ | refine Ext.drew ?_ | refine Ext.alloc ?_ _ | refine Ext.setNew ?_ (Nat.le_refl _) _)
theorem drop_pred (hb : w.heap[b]? = some (.cells #[.int .i64 id] 3 (0, 0))) (hM : ¬ M b) : PredOn (sbK k) 56 #[.pointer (some ⟨b, 0, none⟩)] (fun s => s.id == id) M ok w where
  enters := fun args w => by kernel_rfl
  tells := fun w1 he x cs hx => by
    obtain ⟨v, rfl, hr⟩ := hx
    obtain ⟨A, m, c, rfl, -⟩ := rd_abs hr
    have c0 : w1.cell? ⟨b, 0, none⟩ = some (.int .i64 id) := blk_cell (he.obj hb hM) 0
    have hlt : b < w1.heap.size := Nat.lt_of_lt_of_le (blk_lt hb) he.size
    clear hr he hb
    show Calls Try.prog 56 #[.agg #[.int .i64 x.id, .int .i64 x.fr, .int .i64 x.at_, .int .i64 x.q.op, .string x.q.key, .string x.q.val, .slice A m c, .bool x.gone], .pointer (some ⟨b, 0, none⟩)] w1 _
    go_enter Try.func56, Try.ntmps56
    go_wp2_with fail
    go_ret
    refine ⟨rfl, ?_⟩
    repeat (first | exact Ext.refl _ _ | refine Ext.drew ?_ | refine Ext.alloc ?_ _ | refine Ext.setNew ?_ (Nat.le_refl _) _)
theorem trim_pred {okS : Nat → Prop} {n g b2 a : Nat} {A : Option Addr} {m c : Nat} {l : List Sb} {se : Value} {nx tp : Int} {y : Sb} (hb : w.heap[b]? = some (.cells #[.pointer (some ⟨g, 0, none⟩)] 29 (0, 0))) (hb2 : w.heap[b2]? = some (.cells #[.int .i64 (a : Int)] 3 (0, 0)))
    (hg : FdB w g se (.slice A m c) nx tp) (hr : Rd (sbK n) w okS (.slice A m c) l) (hy : l[a]? = some y) (hM : ¬ M b) (hM2 : ¬ M b2) (hMg : ¬ M g) (hMk : ∀ k, okS k → k < w.heap.size → ¬ M k) :
    PredOn evK 79 #[.pointer (some ⟨b, 0, none⟩), .pointer (some ⟨b2, 0, none⟩)] (fun e => decide (e.pos ≤ y.at_)) M ok w where
  enters := fun args w => by kernel_rfl
  tells := fun w1 he x cs hx => by
    cases hx
    have hrl := hr.slice
    obtain ⟨_, _, hs, _, hm⟩ := hrl
    simp only [Value.slice.injEq] at hs
    obtain ⟨-, hn, -⟩ := hs
    have hmx : (m : Int) ≤ 9223372036854775807 := by omega
    have c0 : w1.cell? ⟨b, 0, none⟩ = some (.pointer (some ⟨g, 0, none⟩)) := blk_cell (he.obj hb hM) 0
    have c2 : w1.cell? ⟨b2, 0, none⟩ = some (.int .i64 (a : Int)) := blk_cell (he.obj hb2 hM2) 0
    have g1 : w1.cell? ⟨g, 1, none⟩ = some (.slice A m c) := he.cell hg.c1 hMg
    have hlt : b < w1.heap.size := Nat.lt_of_lt_of_le (blk_lt hb) he.size
    have hlt2 : b2 < w1.heap.size := Nat.lt_of_lt_of_le (blk_lt hb2) he.size
    have hltg : g < w1.heap.size := Nat.lt_of_lt_of_le (blk_lt hg) he.size
    obtain ⟨gb, offb, B2, bl2, bd2, rfl, hgb, hglb, d0, d1, d2, d3, d4, d5, d6, d7, dr⟩ := sb_at (hr.ext he hMk) hy
    have han : a < m := by have := (List.getElem?_eq_some_iff.1 hy).1; omega
    clear dr he hb hb2 hr hg hm hn hgb hMk d0 d1 d3 d4 d5 d6 d7
    show Calls Try.prog 79 #[.agg #[.int .i64 x.pos, .string x.key, .bool x.had, .string x.old, .bool x.has, .string x.now], .pointer (some ⟨b, 0, none⟩), .pointer (some ⟨b2, 0, none⟩)] w1 _
    go_enter Try.func79, Try.ntmps79
    go_wp2_with fail
    go_region
    go_wp2_with fail
    go_ret
    refine ⟨rfl, ?_⟩
    repeat (first | exact Ext.refl _ _ | refine Ext.drew ?_ | refine Ext.alloc ?_ _ | refine Ext.setNew ?_ (Nat.le_refl _) _)
end
/-- Where a subscriber stands. -/
def findR (l : List Sb) (id : Int) : Int × Int := match l.findIdx? (fun s => s.id == id) with
  | none => (0, 80)
  | some i => match l[i]? with
    | some s => if s.gone = true then (0, 81) else ((i : Int), 0)
    | none => (0, 80)
theorem findR_cases (l : List Sb) (id : Int) : (findR l id = (0, 80) ∧ ∀ x ∈ l, ¬ x.id = id) ∨ ∃ (i : Nat) (x : Sb), l[i]? = some x ∧ x.id = id ∧ (∀ k y, k < i → l[k]? = some y → ¬ y.id = id) ∧ ((x.gone = true ∧ findR l id = (0, 81)) ∨ (x.gone = false ∧ findR l id = ((i : Int), 0))) := by
  unfold findR
  cases h : l.findIdx? (fun s => s.id == id) with
  | none =>
    left
    refine ⟨rfl, fun x hx => ?_⟩
    have := List.findIdx?_eq_none_iff.1 h x hx
    simpa using this
  | some i =>
    right
    rw [List.findIdx?_eq_some_iff_getElem] at h
    obtain ⟨hi, h1, h2⟩ := h
    refine ⟨i, l[i], List.getElem?_eq_getElem hi, by simpa using h1, fun k y hk hy => ?_, ?_⟩
    · have := h2 k hk
      rw [(List.getElem?_eq_some_iff.1 hy).2] at this
      simpa using this
    · simp only [List.getElem?_eq_getElem hi]
      cases hg : l[i].gone with
      | true => exact .inl ⟨rfl, rfl⟩
      | false => exact .inr ⟨rfl, by simp⟩
theorem findI_R (l : List Sb) (id : Int) : findI (fun s => s.id == id) l = (match l.findIdx? (fun s => s.id == id) with | some i => (i : Int) | none => -1) := rfl
set_option maxRecDepth 100000 in
set_option maxHeartbeats 4000000 in
theorem find_calls {w : World} {n g : Nat} {ok : Nat → Prop} {D : Fdr} (h : Fd n ok w g D) (hn0 : D.next ≠ 0) (id : Int) :
    Calls Try.prog 53 #[.pointer (some ⟨g, 0, none⟩), .int .i64 id] w fun e w' => e = .returned (.tuple #[.int .i64 (findR D.subs id).1, .int .i64 (findR D.subs id).2]) ∧ Ext Non w w' := by
  obtain ⟨A1, n1, c1, A2, n2, c2, hb, h1, h2, h3⟩ := h
  obtain ⟨_, _, hs, _, hm⟩ := h2.slice
  simp only [Value.slice.injEq] at hs
  obtain ⟨-, hn, -⟩ := hs
  have hmx : (n2 : Int) ≤ 9223372036854775807 := by omega
  have E0 : Hid (Ext Non w (w.alloc (.cells #[.int .i64 id] 3))) := (Ext.refl _ _).alloc _
  have HB0 : Hid (FdB (w.alloc (.cells #[.int .i64 id] 3)) g _ _ _ _) := E0.out.obj hb (fun e => e)
  have g1 : w.cell? ⟨g, 1, none⟩ = _ := hb.c1
  have HI := Lib.hid (IndexS_calls (h2.ext0 E0.out) (find_pred (k := n) (ok := ok) (M := Non) (blk_new w (.cells #[.int .i64 id] 3)) (fun e => e)))
  have HD := Lib.hid (dead_live HB0.out hn0)
  have hgl := blk_lt hb
  have H2 := Lib.hid h2
  have HN := Lib.hid hn
  have HBB := Lib.hid hb
  rcases findI_cases (fun s => s.id == id) D.subs with ⟨e1, hall⟩ | ⟨i, x, e1, hx, hp, hbef⟩
  · have hR : findR D.subs id = (0, 80) := by
      rcases findR_cases D.subs id with ⟨h, _⟩ | ⟨i, x, hx, hi, _⟩
      · exact h
      · have := hall x (List.mem_of_getElem? hx)
        simp [hi] at this
    rw [e1] at HI
    rw [hR]
    clear hb h1 h2 h3 hm hn hall hR e1
    go_enter Try.func53, Try.ntmps53
    go_wp2_with fail
    refine HD.out.mono ?_
    rintro e w5 ⟨rfl, rfl⟩
    have g1 := HB0.out.c1
    go_wp2_with fail
    refine HI.out.mono ?_
    rintro e w5 ⟨rfl, he⟩
    have HE := Lib.hid he
    clear he
    go_wp2_with fail
    go_ret2
    exact ⟨rfl, E0.out.trans0 HE.out⟩
  · have hin : i < n2 := by have := (List.getElem?_eq_some_iff.1 hx).1; omega
    rw [e1] at HI
    have HX := Lib.hid hx
    have hR : findR D.subs id = if x.gone = true then (0, 81) else ((i : Int), 0) := by
      rcases findR_cases D.subs id with ⟨h, ha⟩ | ⟨i', x', hx', hi', hb', hc⟩
      · exact absurd (by simpa using hp) (ha x (List.mem_of_getElem? hx))
      · have : i' = i := by
          rcases Nat.lt_trichotomy i' i with h | h | h
          · have := hbef i' x' h hx'
            simp [hi'] at this
          · exact h
          · exact absurd (by simpa using hp) (hb' i x h hx)
        subst this
        rw [hx'] at hx
        cases hx
        rcases hc with ⟨h1, h2⟩ | ⟨h1, h2⟩
        · rw [if_pos h1, h2]
        · rw [if_neg (by rw [h1]; decide), h2]
    cases hq : x.gone with
    | true =>
      rw [hR, if_pos hq]
      clear hb h1 h2 h3 hm hn hR e1 hbef hp hx
      go_enter Try.func53, Try.ntmps53
      go_wp2_with fail
      refine HD.out.mono ?_
      rintro e w5 ⟨rfl, rfl⟩
      have g1 := HB0.out.c1
      go_wp2_with fail
      refine HI.out.mono ?_
      rintro e w5 ⟨rfl, he⟩
      have HE := Lib.hid he
      obtain ⟨gb, offb, B2, bl2, bd2, rfl, hgb, hglb, d0, d1, d2, d3, d4, d5, d6, d7, dr⟩ := sb_at (H2.out.ext0 (E0.out.trans0 he)) HX.out
      have g1 := he.cell HB0.out.c1 (fun e => e)
      rw [hq] at d7
      clear he d0 d1 d2 d3 d4 d5 d6 dr hgb hq
      go_wp2_with fail
      go_ret2
      exact ⟨rfl, E0.out.trans0 HE.out⟩
    | false =>
      rw [hR, if_neg (by rw [hq]; decide)]
      clear hb h1 h2 h3 hm hn hR e1 hbef hp hx
      go_enter Try.func53, Try.ntmps53
      go_wp2_with fail
      refine HD.out.mono ?_
      rintro e w5 ⟨rfl, rfl⟩
      have g1 := HB0.out.c1
      go_wp2_with fail
      refine HI.out.mono ?_
      rintro e w5 ⟨rfl, he⟩
      have HE := Lib.hid he
      obtain ⟨gb, offb, B2, bl2, bd2, rfl, hgb, hglb, d0, d1, d2, d3, d4, d5, d6, d7, dr⟩ := sb_at (H2.out.ext0 (E0.out.trans0 he)) HX.out
      have g1 := he.cell HB0.out.c1 (fun e => e)
      rw [hq] at d7
      clear he d0 d1 d2 d3 d4 d5 d6 dr hgb hq
      go_wp2_with fail
      go_ret2
      exact ⟨rfl, E0.out.trans0 HE.out⟩
/-- A feed that no call made is not looked into. -/
theorem find_dead {w : World} {p : Option Addr} {M : Nat → Prop} (hd : ∀ w', Ext M w w' → Calls Try.prog 48 #[.pointer p] w' fun e w2 => e = .returned (.bool true) ∧ w' = w2) (id : Int) :
    Calls Try.prog 53 #[.pointer p, .int .i64 id] w fun e w' => e = .returned (.tuple #[.int .i64 0, .int .i64 6]) ∧ Ext Non w w' := by
  have HD := Lib.hid (hd (w.alloc (.cells #[.int .i64 id] 3)) ((Ext.refl _ _).alloc _))
  clear hd
  go_enter Try.func53, Try.ntmps53
  go_wp2_with fail
  refine HD.out.mono ?_
  rintro e w5 ⟨rfl, rfl⟩
  go_wp2_with fail
  go_ret2
  exact ⟨rfl, (Ext.refl _ _).alloc _⟩
section
variable {w : World} {ok : Nat → Prop} {base : Nat} {fn : FuncId} {lb : Array Value}
theorem DeleteS_own {k : Nat} {A : Option Addr} {n c : Nat} {l : List Sb} {p : Sb → Bool} (H : Own (sbK k) 64 w base ok (.slice A n c) l) (hp : PredOn (sbK k) fn lb p (fun i => some i = (Value.slice A n c).ownBlock) ok w) :
    Calls Try.prog 55 #[.slice A n c, .func (.func fn) #[] lb] w fun e w' => ∃ B m d, e = .returned (.slice B m d) ∧ Own (sbK k) 64 w' base ok (.slice B m d) (l.filter fun x => !p x) ∧ Ext (fun i => some i = (Value.slice A n c).ownBlock) w w' := by
  cases A with
  | none =>
    have hl : l = [] := none_nil H.rd
    subst hl
    have hn : n = 0 := by
      obtain ⟨_, _, hs, _, _⟩ := H.slice
      simp only [Value.slice.injEq] at hs
      exact hs.2.1
    subst hn
    have HI := Lib.hid (IndexS_calls (l := []) (A := none) (n := 0) (c := c) H.rd ⟨hp.enters, fun w1 h1 => hp.tells w1 h1.of0⟩)
    have HO := Lib.hid H
    clear H hp
    rw [show findI p ([] : List Sb) = -1 from rfl] at HI
    go_enter Try.func55, Try.ntmps55
    go_wp2_with fail
    refine HI.out.mono ?_
    rintro e w5 ⟨rfl, he⟩
    have HE := Lib.hid he
    clear he
    go_wp2_with fail
    go_ret
    exact ⟨none, 0, c, rfl, HO.out.ext0 HE.out, HE.out.of0⟩
  | some a =>
    obtain ⟨g, rfl⟩ : ∃ g, a = ⟨g, 0, none⟩ := by
      obtain ⟨h0, inner, ho, hr⟩ := H
      rcases ho.2 with ⟨h2, _⟩ | ⟨g', cap, cur, h2, _⟩
      · simp at h2
      · simp only [Value.slice.injEq, Option.some.injEq] at h2
        exact ⟨g', h2.1⟩
    obtain ⟨rfl, hb, cur, zs, T, rfl, hz⟩ := H.to_prow
    have hM : (fun i => some i = (Value.slice (some ⟨g, 0, none⟩) (zs.map Prod.fst).length c).ownBlock) = Only g := by
      funext i
      simp [Value.ownBlock]
    rw [hM] at hp ⊢
    rw [List.length_map]
    refine (DeleteS_calls hz hp).mono ?_
    rintro e w' ⟨m, d, rfl, ho, he⟩
    exact ⟨_, m, d, rfl, ho.lower hb, he⟩
theorem DeleteE_own {A : Option Addr} {n c : Nat} {l : List Ev} {p : Ev → Bool} (H : Own evK 43 w base ok (.slice A n c) l) (hp : PredOn evK fn lb p (fun i => some i = (Value.slice A n c).ownBlock) ok w) :
    Calls Try.prog 78 #[.slice A n c, .func (.func fn) #[] lb] w fun e w' => ∃ B m d, e = .returned (.slice B m d) ∧ Own evK 43 w' base ok (.slice B m d) (l.filter fun x => !p x) ∧ Ext (fun i => some i = (Value.slice A n c).ownBlock) w w' := by
  cases A with
  | none =>
    have hl : l = [] := none_nil H.rd
    subst hl
    have hn : n = 0 := by
      obtain ⟨_, _, hs, _, _⟩ := H.slice
      simp only [Value.slice.injEq] at hs
      exact hs.2.1
    subst hn
    have HI := Lib.hid (IndexE_calls (l := []) (A := none) (n := 0) (c := c) H.rd ⟨hp.enters, fun w1 h1 => hp.tells w1 h1.of0⟩)
    have HO := Lib.hid H
    clear H hp
    rw [show findI p ([] : List Ev) = -1 from rfl] at HI
    go_enter Try.func78, Try.ntmps78
    go_wp2_with fail
    refine HI.out.mono ?_
    rintro e w5 ⟨rfl, he⟩
    have HE := Lib.hid he
    clear he
    go_wp2_with fail
    go_ret
    exact ⟨none, 0, c, rfl, HO.out.ext0 HE.out, HE.out.of0⟩
  | some a =>
    obtain ⟨g, rfl⟩ : ∃ g, a = ⟨g, 0, none⟩ := by
      obtain ⟨h0, inner, ho, hr⟩ := H
      rcases ho.2 with ⟨h2, _⟩ | ⟨g', cap, cur, h2, _⟩
      · simp at h2
      · simp only [Value.slice.injEq, Option.some.injEq] at h2
        exact ⟨g', h2.1⟩
    obtain ⟨rfl, hb, cur, zs, T, rfl, hz⟩ := H.to_prow
    have hM : (fun i => some i = (Value.slice (some ⟨g, 0, none⟩) (zs.map Prod.fst).length c).ownBlock) = Only g := by
      funext i
      simp [Value.ownBlock]
    rw [hM] at hp ⊢
    rw [List.length_map]
    refine (DeleteE_calls hz hp).mono ?_
    rintro e w' ⟨m, d, rfl, ho, he⟩
    exact ⟨_, m, d, rfl, ho.lower hb, he⟩
end
end Go.Proofs.Ytdjfijdnhfmeeaa

namespace Go.Proofs.Ytdjfijdnhfmeeaa
open Go.RowKit Go.TM
section
variable {w : World} {n g : Nat} {ok : Nat → Prop} {D : Fdr}
theorem Fd.ext' {M : Nat → Prop} {w1 : World} (h : Fd n ok w g D) (he : Ext M w w1) (hm : ∀ k, ok k → k < w.heap.size → ¬ M k) (hg : ¬ M g) : Fd n ok w1 g D := by
  obtain ⟨A1, n1, c1, A2, n2, c2, hb, h1, h2, h3⟩ := h
  exact ⟨A1, n1, c1, A2, n2, c2, he.obj hb hg, h1.ext he hm, h2.ext he hm, h3⟩
theorem Fd.setEvs (h : Fd n ok w g D) {v : Value} {l : List Ev} (hr : Rd evK w ok v l) : Fd n ok (w.setCell ⟨g, 0, none⟩ v) g { D with evs := l } := by
  obtain ⟨A1, n1, c1, A2, n2, c2, hb, h1, h2, h3⟩ := h
  obtain ⟨A, c, rfl, -⟩ := hr.slice
  have he : Ext (Only g) w (w.setCell ⟨g, 0, none⟩ (.slice A l.length c)) := Ext.setCell (Ext.refl (Only g) w) (p := ⟨g, 0, none⟩) (fun _ => rfl) _
  have hm : ∀ k, ok k → k < w.heap.size → ¬ Only g k := fun k hk _ e => h3 (by have e' : k = g := e; rw [← e']; exact hk)
  exact ⟨A, _, c, A2, n2, c2, blk_set hb 0 _, hr.ext he hm, h2.ext he hm, h3⟩
theorem Fd.setSubs (h : Fd n ok w g D) {v : Value} {l : List Sb} (hr : Rd (sbK n) w ok v l) : Fd n ok (w.setCell ⟨g, 1, none⟩ v) g { D with subs := l } := by
  obtain ⟨A1, n1, c1, A2, n2, c2, hb, h1, h2, h3⟩ := h
  obtain ⟨A, c, rfl, -⟩ := hr.slice
  have he : Ext (Only g) w (w.setCell ⟨g, 1, none⟩ (.slice A l.length c)) := Ext.setCell (Ext.refl (Only g) w) (p := ⟨g, 1, none⟩) (fun _ => rfl) _
  have hm : ∀ k, ok k → k < w.heap.size → ¬ Only g k := fun k hk _ e => h3 (by have e' : k = g := e; rw [← e']; exact hk)
  exact ⟨A1, n1, c1, A, _, c, blk_set hb 1 _, h1.ext he hm, hr.ext he hm, h3⟩
theorem Fd.setNext (h : Fd n ok w g D) (x : Int) : Fd n ok (w.setCell ⟨g, 2, none⟩ (.int .i64 x)) g { D with next := x } := by
  obtain ⟨A1, n1, c1, A2, n2, c2, hb, h1, h2, h3⟩ := h
  have he : Ext (Only g) w (w.setCell ⟨g, 2, none⟩ (.int .i64 x)) := Ext.setCell (Ext.refl (Only g) w) (p := ⟨g, 2, none⟩) (fun _ => rfl) _
  have hm : ∀ k, ok k → k < w.heap.size → ¬ Only g k := fun k hk _ e => h3 (by have e' : k = g := e; rw [← e']; exact hk)
  exact ⟨A1, n1, c1, A2, n2, c2, blk_set hb 2 _, h1.ext he hm, h2.ext he hm, h3⟩
theorem Fd.setTop (h : Fd n ok w g D) (x : Int) : Fd n ok (w.setCell ⟨g, 3, none⟩ (.int .i64 x)) g { D with top := x } := by
  obtain ⟨A1, n1, c1, A2, n2, c2, hb, h1, h2, h3⟩ := h
  have he : Ext (Only g) w (w.setCell ⟨g, 3, none⟩ (.int .i64 x)) := Ext.setCell (Ext.refl (Only g) w) (p := ⟨g, 3, none⟩) (fun _ => rfl) _
  have hm : ∀ k, ok k → k < w.heap.size → ¬ Only g k := fun k hk _ e => h3 (by have e' : k = g := e; rw [← e']; exact hk)
  exact ⟨A1, n1, c1, A2, n2, c2, blk_set hb 3 _, h1.ext he hm, h2.ext he hm, h3⟩
theorem og_set (w : World) (g i : Nat) (v : Value) : Ext (Only g) w (w.setCell ⟨g, i, none⟩ v) := Ext.setCell (Ext.refl (Only g) w) (p := ⟨g, i, none⟩) (fun _ => rfl) _
end
/-- What nobody wants any more is let go. -/
def trimE (l : List Sb) (evs : List Ev) : List Ev := match lastS l with
  | none => []
  | some a => evs.filter fun e => !decide (e.pos ≤ atOf l a)
def trimD (D : Fdr) : Fdr := { D with evs := trimE D.subs D.evs }
def FdPost (n : Nat) (ok : Nat → Prop) (g : Nat) (D : Fdr) (v : Value) (w : World) (e : Ending) (w' : World) : Prop := e = .returned v ∧ Fd n ok w' g D ∧ Ext (Only g) w w'
set_option maxRecDepth 100000 in
set_option maxHeartbeats 8000000 in
theorem trim_calls {w : World} {n g : Nat} {ok : Nat → Prop} {D : Fdr} (h : Fd n ok w g D) (hl : D.evs.length ≤ 1048576000) (hf : Fresh ok w) :
    Calls Try.prog 51 #[.pointer (some ⟨g, 0, none⟩)] w (FdPost n ok g (trimD D) (.tuple #[]) w) := by
  have HF := Lib.hid h
  have FF := Lib.hid hf
  obtain ⟨A1, n1, c1, A2, n2, c2, hb, h1, h2, h3⟩ := h
  obtain ⟨w1, hw1⟩ : ∃ w1, w.alloc (.cells #[.pointer (some ⟨g, 0, none⟩)] 29) = w1 := ⟨_, rfl⟩
  have E1 : Hid (Ext Non w w1) := by rw [← hw1]; exact (Ext.refl _ _).alloc _
  have HL := Lib.hid (last_calls (HF.out.ext0 E1.out))
  obtain ⟨q, hq⟩ : ∃ q, w.heap.size = q := ⟨_, rfl⟩
  have BQ1 : Hid (w1.heap[q]? = some (.cells #[.pointer (some ⟨g, 0, none⟩)] 29 (0, 0))) := by rw [← hw1, ← hq]; exact blk_new w _
  have k0 : w1.cell? ⟨q, 0, none⟩ = some (.pointer (some ⟨g, 0, none⟩)) := blk_cell BQ1.out 0
  have HB := Lib.hid hb
  have H1 := Lib.hid h1
  have H2 := Lib.hid h2
  have hgl := blk_lt hb
  have hql := blk_lt BQ1.out
  have hng : g ≠ q := by omega
  clear hb h1 h2 h3 hf
  cases hla : lastS D.subs with
  | none =>
    have HT : Hid (trimD D = { D with evs := [] }) := by
      show _ = _
      simp only [trimD, trimE, hla]
    rw [hla] at HL
    clear hla
    go_enter Try.func51, Try.ntmps51
    go_wp2_with fail
    (try rw [hq, hw1])
    refine HL.out.mono ?_
    rintro e w5 ⟨rfl, he⟩
    have HE := Lib.hid he
    have k0 := he.cell k0 (fun e => e)
    have BG : Hid (FdB w5 g _ _ _ _) := he.obj (E1.out.obj HB.out (fun e => e)) (fun e => e)
    have g0 := BG.out.c0
    have z0 := BG.out.fz 0
    have hgl5 := blk_lt BG.out
    have hql5 := Nat.lt_of_lt_of_le hql he.size
    clear he
    simp only [idx]
    go_wp2_with fail
    go_end0
    rw [HT.out]
    refine ⟨rfl, ((HF.out.ext0 (E1.out.trans0 HE.out)).setEvs (Rd.nil _ _ _)).ext0 ((Ext.refl _ _).alloc _), ?_⟩
    exact ((E1.out.trans0 HE.out).of0.setCell (M := Only g) (p := ⟨g, 0, none⟩) (fun _ => rfl) _).alloc _
  | some a =>
    obtain ⟨_, hal⟩ := lastTo_lt hla
    obtain ⟨y, hy⟩ : ∃ y, D.subs[a]? = some y := ⟨_, List.getElem?_eq_getElem hal⟩
    have hat : atOf D.subs a = y.at_ := by unfold atOf; rw [hy]
    have HT : Hid (trimD D = { D with evs := D.evs.filter fun e => !decide (e.pos ≤ y.at_) }) := by
      show _ = _
      simp only [trimD, trimE, hla, hat]
    rw [hla] at HL
    have HY := Lib.hid hy
    clear hla hy hat
    go_enter Try.func51, Try.ntmps51
    go_wp2_with fail
    (try rw [hq, hw1])
    refine HL.out.mono ?_
    rintro e w5 ⟨rfl, he⟩
    have hql5 := Nat.lt_of_lt_of_le hql he.size
    have HE0 := Lib.hid he
    have k0 := he.cell k0 (fun e => e)
    simp only [idx]
    clear he
    go_wp2_with fail
    obtain ⟨r, hr⟩ : ∃ r, w5.heap.size = r := ⟨_, rfl⟩
    obtain ⟨w6, hw6⟩ : ∃ w6, w5.alloc (.cells #[.int .i64 (a : Int)] 3) = w6 := ⟨_, rfl⟩
    have E6 : Hid (Ext Non w5 w6) := by rw [← hw6]; exact (Ext.refl _ _).alloc _
    have EW : Hid (Ext Non w w6) := (E1.out.trans0 HE0.out).trans0 E6.out
    have FW : Hid (Fresh ok w6) := FF.out.ext EW.out
    have BQ : Hid (w6.heap[q]? = some (.cells #[.pointer (some ⟨g, 0, none⟩)] 29 (0, 0))) := E6.out.obj (HE0.out.obj BQ1.out (fun e => e)) (fun e => e)
    have BR : Hid (w6.heap[r]? = some (.cells #[.int .i64 (a : Int)] 3 (0, 0))) := by rw [← hw6, ← hr]; exact blk_new w5 _
    have BG : Hid (FdB w6 g (.slice A1 n1 c1) (.slice A2 n2 c2) D.next D.top) := EW.out.obj HB.out (fun e => e)
    have k0 := blk_cell BQ.out 0
    have g0 := BG.out.c0
    rw [hr, hw6]
    refine Last.start_ (S := fun W => W.cell? ⟨q, 0, none⟩ = some (.pointer (some ⟨g, 0, none⟩)) ∧ W.cell? ⟨g, 0, none⟩ = some (.slice A1 n1 c1)) (ds := [10]) #[false, false, false, false, false, false, false, false, false, false, false] (by kernel_rfl) (by rfl) (by rfl) ⟨k0, g0⟩ (fun hS => ?_)
    refine Last.take_ (i := 0) (N := some 10) (v := .pointer (some ⟨g, 0, none⟩)) #[true, false, false, false, false, false, false, false, false, false, false] (by simp only [List.getElem?_toArray, List.getElem?_cons_zero]; rfl) rfl (by kernel_rfl) (by exact fun _ _ _ h => h) (Or.inl ⟨by rfl, fun W hW => by first | rfl | (try dsimp only at hW); go_simp⟩) hS rfl ?_
    simp only [Act.put, List.setIfInBounds_toArray, List.set_cons_zero, List.set_cons_succ]
    refine Last.take_ (i := 1) (N := some 11) (v := .pointer (some ⟨g, 0, none⟩)) #[true, true, false, false, false, false, false, false, false, false, false] (by simp only [List.getElem?_toArray, List.getElem?_cons_zero, List.getElem?_cons_succ]; rfl) rfl (by kernel_rfl) (by exact fun _ _ _ h => h) (Or.inl ⟨by rfl, fun W hW => by first | rfl | (try dsimp only at hW); go_simp⟩) hS rfl ?_
    simp only [Act.put, List.setIfInBounds_toArray, List.set_cons_zero, List.set_cons_succ]
    refine Last.take_ (i := 2) (N := some 12) (v := .pointer (some ⟨g, 0, none⟩)) #[true, true, true, false, false, false, false, false, false, false, false] (by simp only [List.getElem?_toArray, List.getElem?_cons_zero, List.getElem?_cons_succ]; rfl) rfl (by kernel_rfl) (by exact fun _ _ _ h => h) (Or.inl ⟨by rfl, fun W hW => by first | rfl | (try dsimp only at hW); go_simp⟩) hS rfl ?_
    simp only [Act.put, List.setIfInBounds_toArray, List.set_cons_zero, List.set_cons_succ]
    refine Last.take_ (i := 3) (N := some 13) (v := .pointer (some ⟨g, 0, none⟩)) #[true, true, true, true, false, false, false, false, false, false, false] (by simp only [List.getElem?_toArray, List.getElem?_cons_zero, List.getElem?_cons_succ]; rfl) rfl (by kernel_rfl) (by exact fun _ _ _ h => h) (Or.inl ⟨by rfl, fun W hW => by first | rfl | (try dsimp only at hW); go_simp⟩) hS rfl ?_
    simp only [Act.put, List.setIfInBounds_toArray, List.set_cons_zero, List.set_cons_succ]
    refine Last.take_ (i := 4) (N := some 14) (v := .slice A1 n1 c1) #[true, true, true, true, true, false, false, false, false, false, false] (by simp only [List.getElem?_toArray, List.getElem?_cons_zero, List.getElem?_cons_succ]; rfl) rfl (by kernel_rfl) (by exact fun _ _ _ h => h) (Or.inl ⟨by rfl, fun W hW => by first | rfl | (try dsimp only at hW); go_simp⟩) hS rfl ?_
    simp only [Act.put, List.setIfInBounds_toArray, List.set_cons_zero, List.set_cons_succ]
    refine Last.take_ (i := 6) (N := some 16) (v := .func (.func 79) #[] #[.pointer (some ⟨q, 0, none⟩), .pointer (some ⟨r, 0, none⟩)]) #[true, true, true, true, true, false, true, false, false, false, false] (by simp only [List.getElem?_toArray, List.getElem?_cons_zero, List.getElem?_cons_succ]; rfl) rfl (by kernel_rfl) (by exact fun _ _ _ h => h) (Or.inl ⟨by rfl, fun W hW => by first | rfl | (try dsimp only at hW); go_simp⟩) hS rfl ?_
    simp only [Act.put, List.setIfInBounds_toArray, List.set_cons_zero, List.set_cons_succ]
    refine Last.one_ (i := 5) (N := some 15) #[true, true, true, true, true, true, true, false, false, false, false] (by simp only [List.getElem?_toArray, List.getElem?_cons_zero, List.getElem?_cons_succ]; rfl) rfl (by kernel_rfl) (by decide) (fun K hK => ?_)
    refine Last.goes_ Try.func29 (by kernel_rfl) rfl #[.slice A1 n1 c1] (by rfl) rfl rfl (by simp [Act.eval]) ?_
    refine (CloneE_own (H1.out.ext0 EW.out.drew) hl (FF.out.ext EW.out.drew)).mono ?_
    rintro e w8 ⟨B, m, d, rfl, ho, he⟩
    have HO := Lib.hid ho
    have HE := Lib.hid he
    have k0 := he.cell k0 (fun e => e)
    have g0 := he.cell g0 (fun e => e)
    clear he ho
    refine ⟨_, rfl, ?_⟩
    refine hK.out _ _ ⟨k0, g0⟩ (fun hS => ?_)
    try simp only [Act.put, List.setIfInBounds_toArray, List.set_cons_zero, List.set_cons_succ]
    refine Last.one_ (i := 7) (N := some 17) #[true, true, true, true, true, true, true, true, false, false, false] (by simp only [List.getElem?_toArray, List.getElem?_cons_zero, List.getElem?_cons_succ]; rfl) rfl (by kernel_rfl) (by decide) (fun K hK => ?_)
    refine Last.goes_ Try.func78 (by kernel_rfl) rfl #[.slice B m d, .func (.func 79) #[] #[.pointer (some ⟨q, 0, none⟩), .pointer (some ⟨r, 0, none⟩)]] (by rfl) rfl rfl (by simp [Act.eval]) ?_
    refine (DeleteE_own (p := fun e => decide (e.pos ≤ y.at_)) HO.out ?_).mono ?_
    · have hq1 := blk_lt BQ.out
      have hq2 := blk_lt BR.out
      have hgl := blk_lt BG.out
      have hM : ∀ k, some k = (Value.slice B m d).ownBlock → w6.heap.size ≤ k := fun k h => (HO.out.base_le k h.symm).1
      exact trim_pred (HE.out.obj BQ.out (fun e => e)) (HE.out.obj BR.out (fun e => e)) (HE.out.obj BG.out (fun e => e)) ((H2.out.ext0 EW.out.drew).bound.ext0 HE.out) HY.out (fun h => by have := hM _ h; omega) (fun h => by have := hM _ h; omega) (fun h => by have := hM _ h; omega)
        (fun k hk _ h => by have := hM _ h; have h2 : k < w6.heap.size := hk.2; omega)
    rintro e w7 ⟨B7, m7, d7, rfl, ho7, he7⟩
    have HO7 := Lib.hid ho7
    have HE7 := Lib.hid he7
    have hM : ∀ k, some k = (Value.slice B m d).ownBlock → w6.heap.size ≤ k := fun k h => (HO.out.base_le k h.symm).1
    have hgl := blk_lt BG.out
    have g0 := he7.cell g0 (fun h => by have : w6.heap.size ≤ g := hM _ h; omega)
    have k0 := he7.cell k0 (fun h => by have : w6.heap.size ≤ q := hM _ h; have := blk_lt BQ.out; omega)
    have z0 := blk_frozen (he7.obj (HE.out.obj BG.out (fun e => e)) (fun h => by have := hM _ h; omega)) 0
    clear he7 ho7
    refine ⟨_, rfl, ?_⟩
    refine hK.out _ _ ⟨k0, g0⟩ (fun hS => ?_)
    try simp only [Act.put, List.setIfInBounds_toArray, List.set_cons_zero, List.set_cons_succ]
    refine Last.take_ (i := 8) (N := some 18) (v := .pointer (some ⟨g, 0, none⟩)) #[true, true, true, true, true, true, true, true, true, false, false] (by simp only [List.getElem?_toArray, List.getElem?_cons_zero, List.getElem?_cons_succ]; rfl) rfl (by kernel_rfl) (by exact fun _ _ _ h => h) (Or.inl ⟨by rfl, fun W hW => by first | rfl | (try dsimp only at hW); go_simp⟩) hS rfl ?_
    simp only [Act.put, List.setIfInBounds_toArray, List.set_cons_zero, List.set_cons_succ]
    refine Last.take_ (i := 9) (N := some 19) (v := .pointer (some ⟨g, 0, none⟩)) #[true, true, true, true, true, true, true, true, true, true, false] (by simp only [List.getElem?_toArray, List.getElem?_cons_zero, List.getElem?_cons_succ]; rfl) rfl (by kernel_rfl) (by exact fun _ _ _ h => h) (Or.inl ⟨by rfl, fun W hW => by first | rfl | (try dsimp only at hW); go_simp⟩) hS rfl ?_
    simp only [Act.put, List.setIfInBounds_toArray, List.set_cons_zero, List.set_cons_succ]
    refine Last.last_ (i := 10) (N := none) #[true, true, true, true, true, true, true, true, true, true, true] (by simp only [List.getElem?_toArray, List.getElem?_cons_zero, List.getElem?_cons_succ]; rfl) rfl (by kernel_rfl) (by decide) (fun K hK => ?_)
    go_simp
    refine hK.out _ _ ?_
    try simp only [Act.put, List.setIfInBounds_toArray, List.set_cons_zero, List.set_cons_succ]
    refine Last.done_ (by kernel_rfl) ?_
    go_end0
    rw [HT.out]
    refine ⟨rfl, ?_, ?_⟩
    · have h7 : Fd n ok w7 g D := ((HF.out.ext0 EW.out.drew).ext' (HE.out.of0.trans HE7.out (fun i _ h => h)) (fun k hk hkl h => by have := hM _ h; have hkl' : k < w6.heap.size := hkl; omega) (fun h => by have := hM _ h; omega))
      exact h7.setEvs HO7.out.rd
    · exact ((EW.out.drew.trans0 HE.out).of0.trans HE7.out (fun i hi h => by have := hM _ h; have := EW.out.size; omega)).setCell (M := Only g) (p := ⟨g, 0, none⟩) (fun _ => rfl) _
end Go.Proofs.Ytdjfijdnhfmeeaa

namespace Go.TM
open Go.RowKit
/-- One cell of a row of one's own laid anew. -/
theorem Prow.set1 {α : Type} {d : Kd α} {w : World} {ok : Nat → Prop} {e : TypeId} {g c : Nat} {cur : Array Value} {zs : List (α × List Value)} {T : List Value} (h : Prow d e w ok g c cur zs T) {j i : Nat} {z : α × List Value} (hz : zs[j]? = some z) (hi : i < d.sz) {x : α} {u : Value} (hk : d.K w (fun k => ok k ∧ k ≠ g) x (z.2.set i u)) :
    ∃ cur', Prow d e (w.setCell ⟨g, j * d.sz + i, none⟩ u) ok g c cur' (zs.set j (x, z.2.set i u)) T := by
  have hj := (List.getElem?_eq_some_iff.1 hz).1
  have hl1 : ((zs.take j).flatMap Prod.snd).length = j * d.sz := by
    rw [flatMap_len (d := d) (w := w) (ok := fun k => ok k ∧ k ≠ g) (fun y hy => h.at_ y (List.mem_of_mem_take hy)), List.length_take, Nat.min_eq_left (by omega)]
  have hsplit : zs = zs.take j ++ z :: zs.drop (j + 1) := by
    conv => lhs; rw [← List.take_append_drop j zs, List.drop_eq_getElem_cons hj]
    rw [(List.getElem?_eq_some_iff.1 hz).2]
  have hlen := d.len (h.at_ z (List.mem_of_getElem? hz))
  have hlist : cur.toList = (zs.take j).flatMap Prod.snd ++ (z.2 ++ ((zs.drop (j + 1)).flatMap Prod.snd ++ T)) := by
    rw [h.list]
    conv => lhs; rw [hsplit]
    rw [List.flatMap_append, List.flatMap_cons]
    simp only [List.append_assoc]
  have hmv : ∀ y ys, d.K w (fun k => ok k ∧ k ≠ g) y ys → d.K (w.setCell ⟨g, j * d.sz + i, none⟩ u) (fun k => ok k ∧ k ≠ g) y ys := fun y ys hy =>
    d.mono (fun _ hk => hk.1) (d.move (w := w) (ok := fun k => (ok k ∧ k ≠ g) ∧ k < w.heap.size) (fun k hk => (Ext.setCell (Ext.refl (Only g) w) (p := ⟨g, j * d.sz + i, none⟩) (fun _ => rfl) u).block k hk.2 hk.1.2) (d.bound hy))
  refine ⟨cur.setIfInBounds (j * d.sz + i) u, h.okg, blk_set h.blk _ u, h.cap, by rw [Array.size_setIfInBounds]; exact h.size, ?_, fun y hy => ?_⟩
  · rw [Array.toList_setIfInBounds, hlist, List.set_append_right _ _ (by omega), hl1, Nat.add_sub_cancel_left, List.set_append_left _ _ (by omega)]
    generalize z.2.set i u = ys
    rw [List.set_eq_take_append_cons_drop, if_pos hj]
    simp
  · rcases List.mem_or_eq_of_mem_set hy with hy | rfl
    · exact hmv _ _ (h.at_ y hy)
    · exact hmv _ _ hk
theorem map_fst_set {α β : Type} (zs : List (α × β)) (j : Nat) (z : α × β) : (zs.set j z).map Prod.fst = (zs.map Prod.fst).set j z.1 := by
  rw [List.map_set]
end Go.TM
namespace Go.Proofs.Ytdjfijdnhfmeeaa
open Go.RowKit Go.TM
def newD : Fdr := ⟨[], [], 1, 0⟩
set_option maxRecDepth 100000 in
theorem New_calls {w : World} {n : Nat} {ok : Nat → Prop} (hn : ¬ ok w.heap.size) :
    Calls Try.prog 14 #[] w fun e w' => e = .returned (.pointer (some ⟨w.heap.size, 0, none⟩)) ∧ Fd n ok w' w.heap.size newD ∧ Ext Non w w' := by
  have HN := Lib.hid hn
  clear hn
  go_enter Try.func14, Try.ntmps14
  go_wp2_with fail
  go_ret
  exact ⟨rfl, ⟨none, 0, 0, none, 0, 0, blk_new w _, Rd.nil _ _ _, Rd.nil _ _ _, HN.out⟩, (Ext.refl _ _).alloc _⟩
def dropR (D : Fdr) (id : Int) : Int × Fdr := if (findR D.subs id).2 = 80 then (80, D) else (0, trimD { D with subs := D.subs.filter fun s => !(s.id == id) })
set_option maxRecDepth 100000 in
set_option maxHeartbeats 4000000 in
theorem Drop_calls {w : World} {n g : Nat} {ok : Nat → Prop} {D : Fdr} (h : Fd n ok w g D) (hn0 : D.next ≠ 0) (hl : D.evs.length ≤ 1048576000) (hs : D.subs.length ≤ 1000) (hf : Fresh ok w) (id : Int) :
    Calls Try.prog 23 #[.pointer (some ⟨g, 0, none⟩), .int .i64 id] w (FdPost n ok g (dropR D id).2 (.int .i64 (dropR D id).1) w) := by
  have HF := Lib.hid h
  have FF := Lib.hid hf
  obtain ⟨w1, hw1⟩ : ∃ w1, w.alloc (.cells #[.int .i64 id] 3) = w1 := ⟨_, rfl⟩
  have E1 : Hid (Ext Non w w1) := by rw [← hw1]; exact (Ext.refl _ _).alloc _
  have HD := Lib.hid (find_calls (HF.out.ext0 E1.out) hn0 id)
  obtain ⟨q, hq⟩ : ∃ q, w.heap.size = q := ⟨_, rfl⟩
  have BQ : Hid (w1.heap[q]? = some (.cells #[.int .i64 id] 3 (0, 0))) := by rw [← hw1, ← hq]; exact blk_new w _
  have k0 : w1.cell? ⟨q, 0, none⟩ = some (.int .i64 id) := blk_cell BQ.out 0
  have hql := blk_lt BQ.out
  rcases findR_cases D.subs id with ⟨hr, _⟩ | ⟨i, x, hx, -, -, hr⟩
  · have HT : Hid (dropR D id = (80, D)) := by show _ = _; rw [dropR, hr]; rfl
    rw [hr] at HD
    clear h hf hr
    go_enter Try.func23, Try.ntmps23
    go_wp2_with fail
    (try rw [hq, hw1])
    refine HD.out.mono ?_
    rintro e w5 ⟨rfl, he⟩
    have HE := Lib.hid he
    clear he
    go_wp2_with fail
    go_ret
    rw [HT.out]
    exact ⟨rfl, HF.out.ext0 (E1.out.trans0 HE.out), (E1.out.trans0 HE.out).of0⟩
  · obtain ⟨v1, v2, hv, hv6, hv80⟩ : ∃ v1 v2 : Int, findR D.subs id = (v1, v2) ∧ v2 ≠ 6 ∧ v2 ≠ 80 := by
      rcases hr with ⟨_, h⟩ | ⟨_, h⟩
      · exact ⟨_, _, h, by decide, by decide⟩
      · exact ⟨_, _, h, by decide, by decide⟩
    have HT : Hid (dropR D id = (0, trimD { D with subs := D.subs.filter fun s => !(s.id == id) })) := by
      show _ = _
      rw [dropR, hv, if_neg hv80]
    rw [hv] at HD
    obtain ⟨A1, n1, c1, A2, n2, c2, hb, h1, h2, h3⟩ := h
    have HB := Lib.hid hb
    have H2 := Lib.hid h2
    have hgl := blk_lt hb
    have e6 : (v2 == 6) = false := beq_eq_false_iff_ne.2 hv6
    have e80 : (v2 == 80) = false := beq_eq_false_iff_ne.2 hv80
    clear hf hr hv hx hb h1 h2 h3
    go_enter Try.func23, Try.ntmps23
    go_wp2_with fail
    (try rw [hq, hw1])
    refine HD.out.mono ?_
    rintro e w5 ⟨rfl, he⟩
    have HE : Hid (Ext Non w w5) := E1.out.trans0 he
    have k0 := he.cell k0 (fun e => e)
    have BQ5 : Hid (w5.heap[q]? = some (.cells #[.int .i64 id] 3 (0, 0))) := he.obj BQ.out (fun e => e)
    have BG : Hid (FdB w5 g _ _ _ _) := HE.out.obj HB.out (fun e => e)
    have g1 := BG.out.c1
    clear he
    go_wp2_with fail
    refine (CloneS_own (H2.out.ext0 HE.out) hs (FF.out.ext HE.out)).mono ?_
    rintro e w6 ⟨B, m, d, rfl, ho, he⟩
    have HO := Lib.hid ho
    have HE6 := Lib.hid he
    clear ho he
    go_wp2_with fail
    have hM : ∀ k, some k = (Value.slice B m d).ownBlock → w5.heap.size ≤ k := fun k h => (HO.out.base_le k h.symm).1
    have hq5 := blk_lt BQ5.out
    have hg5 := blk_lt BG.out
    refine (DeleteS_own (p := fun s => s.id == id) HO.out (drop_pred (HE6.out.obj BQ5.out (fun e => e)) (fun h => by have : w5.heap.size ≤ q := hM _ h; omega))).mono ?_
    rintro e w7 ⟨B7, m7, d7, rfl, ho7, he7⟩
    have HO7 := Lib.hid ho7
    have HE7 := Lib.hid he7
    have BG7 : Hid (FdB w7 g _ _ _ _) := he7.obj (HE6.out.obj BG.out (fun e => e)) (fun h => by have : w5.heap.size ≤ g := hM _ h; omega)
    have g1 := BG7.out.c1
    have z1 := BG7.out.fz 1
    have F7 : Hid (Fd n ok w7 g D) := (HF.out.ext0 HE.out).ext' (HE6.out.of0.trans HE7.out (fun i _ h => h)) (fun k hk hkl h => by have := hM _ h; omega) (fun h => by have : w5.heap.size ≤ g := hM _ h; omega)
    have E7 : Hid (Ext (Only g) w w7) := (HE.out.trans0 HE6.out).of0.trans HE7.out (fun i hi h => by have := hM _ h; have := HE.out.size; omega)
    clear ho7 he7
    go_wp2_with fail
    have F8 := F7.out.setSubs HO7.out.rd
    have E8 : Hid (Ext (Only g) w (w7.setCell ⟨g, 1, none⟩ (.slice B7 m7 d7))) := E7.out.trans (og_set w7 g 1 _) (fun _ _ h => h)
    refine (trim_calls F8 hl (FF.out.ext E8.out)).mono ?_
    rintro e w9 ⟨rfl, hf9, he9⟩
    have HF9 := Lib.hid hf9
    have HE9 := Lib.hid he9
    clear hf9 he9 F8
    go_wp2_with fail
    go_ret
    rw [HT.out]
    exact ⟨rfl, HF9.out, E8.out.trans HE9.out (fun _ _ h => h)⟩
def setAt (l : List Sb) (i : Nat) (f : Sb → Sb) : List Sb := match l[i]? with
  | some s => l.set i (f s)
  | none => l
def toAt (pos : Int) (s : Sb) : Sb := { s with at_ := pos }
def ackR (D : Fdr) (id pos : Int) : Int × Fdr :=
  if (findR D.subs id).2 ≠ 0 then ((findR D.subs id).2, D)
  else if pos < atOf D.subs (findR D.subs id).1.toNat then (82, D)
  else if D.top < pos then (5, D)
  else (0, trimD { D with subs := setAt D.subs (findR D.subs id).1.toNat (toAt pos) })
theorem own_some {α : Type} {d : Kd α} {e : TypeId} {w : World} {base : Nat} {ok : Nat → Prop} {A : Option Addr} {n c : Nat} {l : List α} (H : Own d e w base ok (.slice A n c) l) (h0 : 0 < l.length) : ∃ g, A = some ⟨g, 0, none⟩ := by
  obtain ⟨h0', inner, ho, hr⟩ := H
  rcases ho.2 with ⟨h2, _⟩ | ⟨g', cap, cur, h2, _⟩
  · simp only [Value.slice.injEq] at h2
    omega
  · simp only [Value.slice.injEq] at h2
    exact ⟨g', h2.1⟩
set_option maxRecDepth 100000 in
set_option maxHeartbeats 4000000 in
theorem Ack_calls {w : World} {n g : Nat} {ok : Nat → Prop} {D : Fdr} (h : Fd n ok w g D) (hn0 : D.next ≠ 0) (hl : D.evs.length ≤ 1048576000) (hs : D.subs.length ≤ 1000) (hf : Fresh ok w) (id pos : Int) :
    Calls Try.prog 25 #[.pointer (some ⟨g, 0, none⟩), .int .i64 id, .int .i64 pos] w (FdPost n ok g (ackR D id pos).2 (.int .i64 (ackR D id pos).1) w) := by
  have HF := Lib.hid h
  have FF := Lib.hid hf
  have HD := Lib.hid (find_calls h hn0 id)
  have hno : ∀ r : Int × Int, r.2 ≠ 0 → findR D.subs id = r → Hid (ackR D id pos = (r.2, D)) := fun r hr he => by
    show _ = _
    rw [ackR, he, if_pos hr]
  have hgone : ∀ v : Int, v ≠ 0 → findR D.subs id = (0, v) → Calls Try.prog 25 #[.pointer (some ⟨g, 0, none⟩), .int .i64 id, .int .i64 pos] w (FdPost n ok g (ackR D id pos).2 (.int .i64 (ackR D id pos).1) w) := fun v hv he => by
    have HT := hno _ hv he
    rw [he] at HD
    have ev : (v == 0) = false := beq_eq_false_iff_ne.2 hv
    clear h hf hno he
    go_enter Try.func25, Try.ntmps25
    go_wp2_with fail
    refine HD.out.mono ?_
    rintro e w5 ⟨rfl, he⟩
    have HE := Lib.hid he
    clear he
    go_wp2_with fail
    go_ret
    rw [HT.out]
    exact ⟨rfl, HF.out.ext0 HE.out, HE.out.of0⟩
  rcases findR_cases D.subs id with ⟨hr, _⟩ | ⟨i, x, hx, -, -, ⟨-, hr⟩ | ⟨hgx, hr⟩⟩
  · exact hgone 80 (by decide) hr
  · exact hgone 81 (by decide) hr
  · have hat : atOf D.subs i = x.at_ := by unfold atOf; rw [hx]
    have hset : setAt D.subs i (toAt pos) = D.subs.set i (toAt pos x) := by unfold setAt; rw [hx]
    have HR : ackR D id pos = if pos < x.at_ then (82, D) else if D.top < pos then (5, D) else (0, trimD { D with subs := D.subs.set i (toAt pos x) }) := by
      rw [ackR, hr, if_neg (fun h => h rfl)]
      simp only [Int.toNat_natCast, hat, hset]
    rw [hr] at HD
    obtain ⟨A1, n1, c1, A2, n2, c2, hb, h1, h2, h3⟩ := h
    have hn2 : n2 = D.subs.length := by
      obtain ⟨_, _, hs, _, _⟩ := h2.slice
      simp only [Value.slice.injEq] at hs
      exact hs.2.1
    have hin : i < n2 := by have := (List.getElem?_eq_some_iff.1 hx).1; omega
    obtain ⟨ga, offa, B, bl, bd, rfl, hga, hgla, a0, a1, a2, a3, a4, a5, a6, a7, ar⟩ := sb_at h2 hx
    have HB := Lib.hid hb
    have H1 := Lib.hid h1
    have H2 := Lib.hid h2
    have HX := Lib.hid hx
    have H3 := Lib.hid h3
    have hgl := blk_lt hb
    have b1 := hb.c1
    have b3 := hb.c3
    have HS : Hid (D.subs.length ≤ 1000) := hs
    have HHR := Lib.hid HR
    clear hf hr hx hb h1 h2 h3 hat hset hgone hno a0 a1 a3 a4 a5 a6 a7 ar hga hn2 hs HR
    by_cases ca : pos < x.at_
    · have HT : Hid (ackR D id pos = (82, D)) := by show _ = _; rw [HHR.out, if_pos ca]
      go_enter Try.func25, Try.ntmps25
      go_wp2_with fail
      refine HD.out.mono ?_
      rintro e w5 ⟨rfl, he⟩
      have HE := Lib.hid he
      have b1 := he.cell b1 (fun e => e)
      have a2 := he.cell a2 (fun e => e)
      clear he
      go_wp2_with fail
      go_ret
      rw [HT.out]
      exact ⟨rfl, HF.out.ext0 HE.out, HE.out.of0⟩
    · by_cases c3 : D.top < pos
      · have HT : Hid (ackR D id pos = (5, D)) := by show _ = _; rw [HHR.out, if_neg ca, if_pos c3]
        go_enter Try.func25, Try.ntmps25
        go_wp2_with fail
        refine HD.out.mono ?_
        rintro e w5 ⟨rfl, he⟩
        have HE := Lib.hid he
        have b1 := he.cell b1 (fun e => e)
        have b3 := he.cell b3 (fun e => e)
        have a2 := he.cell a2 (fun e => e)
        clear he
        go_wp2_with fail
        go_ret
        rw [HT.out]
        exact ⟨rfl, HF.out.ext0 HE.out, HE.out.of0⟩
      · have HT : Hid (ackR D id pos = (0, trimD { D with subs := D.subs.set i (toAt pos x) })) := by show _ = _; rw [HHR.out, if_neg ca, if_neg c3]
        go_enter Try.func25, Try.ntmps25
        go_wp2_with fail
        refine HD.out.mono ?_
        rintro e w5 ⟨rfl, he⟩
        have HE := Lib.hid he
        have b1 := he.cell b1 (fun e => e)
        have b3 := he.cell b3 (fun e => e)
        have a2 := he.cell a2 (fun e => e)
        have BG : Hid (FdB w5 g _ _ _ _) := he.obj HB.out (fun e => e)
        clear he
        go_wp2_with fail
        refine (CloneS_own (H2.out.ext0 HE.out) HS.out (FF.out.ext HE.out)).mono ?_
        rintro e w6 ⟨B6, m, d, rfl, ho, he⟩
        obtain ⟨g6, rfl⟩ := own_some ho (by have := (List.getElem?_eq_some_iff.1 HX.out).1; omega)
        have HO := Lib.hid ho
        obtain ⟨rfl, hb6, cur, zs, T, hzs, hz⟩ := ho.to_prow
        obtain ⟨z, hzi, hzx⟩ : ∃ z, zs[i]? = some z ∧ z.1 = x := by
          have := HX.out
          rw [← hzs, List.getElem?_map, Option.map_eq_some_iff] at this
          exact this
        obtain ⟨z1, zc⟩ := z
        simp only at hzx
        subst hzx
        obtain ⟨v, hcs, hkr⟩ := hz.at_ _ (List.mem_of_getElem? hzi)
        simp only at hcs hkr
        subst hcs
        have u2 := hz.cell hzi (i := 2) rfl
        have f2 := blk_frozen hz.blk (i * 8 + 2)
        have hkr' := (hkr.ext (og_set w6 g 1 (.slice (some ⟨g6, 0, none⟩) D.subs.length d)) (fun k hk _ h => H3.out (by have h' : k = g := h; rw [← h']; exact hk.1)))
        have HK := Lib.hid hkr'
        have u2 : w6.cell? ⟨g6, i * 8 + 2, none⟩ = some (.int .i64 z1.at_) := u2
        have hil : i < D.subs.length := (List.getElem?_eq_some_iff.1 HX.out).1
        have hE6 : Ext (Only g) w5 (w6.setCell ⟨g, 1, none⟩ (.slice (some ⟨g6, 0, none⟩) D.subs.length d)) := he.of0.setCell (M := Only g) (p := ⟨g, 1, none⟩) (fun _ => rfl) _
        have BG6 : Hid (FdB w6 g _ _ _ _) := he.obj BG.out (fun e => e)
        have hg5 := blk_lt BG.out
        have hne : g ≠ g6 := by omega
        have HP := Lib.hid (hz.ext (og_set w6 g 1 (.slice (some ⟨g6, 0, none⟩) D.subs.length d)) (fun k hk _ h => H3.out (by have h' : k = g := h; rw [← h']; exact hk)))
        have hE := Lib.hid he
        have HE6 := Lib.hid hE6
        have HZ := Lib.hid hzi
        have HZS := Lib.hid hzs
        have f1 := BG6.out.fz 1
        have y1 := BG6.out.c1
        clear ho he hz hE6 hzi hzs hkr hkr'
        go_wp2_with fail
        obtain ⟨cur', HP2⟩ := HP.out.set1 HZ.out (i := 2) (by show 2 < 8; decide) (x := toAt pos z1) (u := .int .i64 pos) ⟨v, rfl, HK.out⟩
        have HS2 : Rd (sbK n) ((w6.setCell ⟨g, 1, none⟩ (.slice (some ⟨g6, 0, none⟩) D.subs.length d)).setCell ⟨g6, i * 8 + 2, none⟩ (.int .i64 pos)) ok (.slice (some ⟨g6, 0, none⟩) zs.length d) (D.subs.set i (toAt pos z1)) := by
          have := (HP2.own (base := w5.heap.size) (by show 0 < 8; decide) hb6).rd
          rw [List.length_set, map_fst_set, HZS.out] at this
          exact this
        have E7 : Hid (Ext (Only g) w ((w6.setCell ⟨g, 1, none⟩ (.slice (some ⟨g6, 0, none⟩) D.subs.length d)).setCell ⟨g6, i * 8 + 2, none⟩ (.int .i64 pos))) := by
          refine Ext.setCell (M := Only g) ((HE.out.of0.trans HE6.out (fun _ _ h => h))) (p := ⟨g6, i * 8 + 2, none⟩) (fun h => ?_) _
          have h' : g6 < w.heap.size := h
          have := HE.out.size
          omega
        have hmk : ∀ k, ok k → k < w.heap.size → ¬ Only g k := fun k hk _ h => H3.out (by have h' : k = g := h; rw [← h']; exact hk)
        have hzl : zs.length = D.subs.length := by rw [← HZS.out, List.length_map]
        have F7 : Fd n ok ((w6.setCell ⟨g, 1, none⟩ (.slice (some ⟨g6, 0, none⟩) D.subs.length d)).setCell ⟨g6, i * 8 + 2, none⟩ (.int .i64 pos)) g { D with subs := D.subs.set i (toAt pos z1) } := by
          rw [hzl] at HS2
          exact ⟨A1, n1, c1, _, _, _, blk_far (blk_set BG6.out 1 _) (by show g ≠ g6; omega) _, H1.out.ext E7.out hmk, HS2, H3.out⟩
        refine (trim_calls F7 hl (FF.out.ext E7.out)).mono ?_
        rintro e w9 ⟨rfl, hf9, he9⟩
        have HF9 := Lib.hid hf9
        have HE9 := Lib.hid he9
        clear hf9 he9 F7 HP2 HS2
        go_wp2_with fail
        go_ret
        rw [HT.out]
        exact ⟨rfl, HF9.out, E7.out.trans HE9.out (fun _ _ h => h)⟩
end Go.Proofs.Ytdjfijdnhfmeeaa

