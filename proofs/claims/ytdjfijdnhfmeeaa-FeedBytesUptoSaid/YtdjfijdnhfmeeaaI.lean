/- Some operations of a drawn region, in whatever order they come up: each leaves a value with a law of its own and changes nothing that was there; append to an empty row. -/
import Derived.Test.YtdjfijdnhfmeeaaBase
import Derived.Test.YtdjfijdnhfmeeaaL
namespace Go.TM.Last
open Go.RowKit
section
variable {P : Program} {ops : Array Oper} {Q : Exit → Act → World → Prop} {md : Region.Mode} {S : World → Prop} {ds : List Nat}
theorem put_defers (a : Act) (d : Option Tmp) (v : Value) : (a.put d v).defers = a.defers := by cases d <;> rfl
theorem put_size (a : Act) (d : Option Tmp) (v : Value) : (a.put d v).tmps.size = a.tmps.size := by cases d <;> simp [Act.put]
theorem put_ne (a : Act) {d : Nat} (v : Value) {t : Nat} (h : d ≠ t) : (a.put (some d) v).tmps[t]? = a.tmps[t]? := by
  simp only [Act.put, Array.getElem?_setIfInBounds]; rw [if_neg h]
theorem put_eq (a : Act) {t : Nat} (v : Value) (h : t < a.tmps.size) : (a.put (some t) v).tmps[t]? = some v := by
  simp only [Act.put, Array.getElem?_setIfInBounds, if_true]; rw [if_pos h]
/-- Some operations (by number and destination), their values put. -/
def fill : List (Nat × Nat) → (Nat → Value) → Act → Act
  | [], _, a => a
  | p :: r, vs, a => fill r vs (a.put (some p.2) (vs p.1))
theorem fill_defers : ∀ (l : List (Nat × Nat)) (vs : Nat → Value) (a : Act), (fill l vs a).defers = a.defers
  | [], _, _ => rfl
  | p :: r, vs, a => by rw [fill, fill_defers r, put_defers]
theorem fill_ne : ∀ (l : List (Nat × Nat)) (vs : Nat → Value) (a : Act) {t : Nat}, t ∉ l.map Prod.snd → (fill l vs a).tmps[t]? = a.tmps[t]?
  | [], _, _, _, _ => rfl
  | p :: r, vs, a, t, h => by
    rw [List.map_cons, List.mem_cons, not_or] at h
    rw [fill, fill_ne r vs _ h.2, put_ne _ _ (fun e => h.1 e.symm)]
theorem fill_at : ∀ (l : List (Nat × Nat)) (vs : Nat → Value) (a : Act) {p : Nat × Nat}, (l.map Prod.snd).Nodup → p ∈ l → p.2 < a.tmps.size → (fill l vs a).tmps[p.2]? = some (vs p.1)
  | q :: r, vs, a, p, hn, h, ht => by
    rw [List.map_cons, List.nodup_cons] at hn
    rcases List.mem_cons.1 h with rfl | h
    · rw [fill, fill_ne r vs _ hn.1, put_eq _ _ ht]
    · rw [fill, fill_at r vs _ hn.2 h (by rw [put_size]; exact ht)]
def setAll : Array Bool → List (Nat × Nat) → Array Bool
  | l, [] => l
  | l, p :: r => setAll (l.setIfInBounds p.1 true) r
theorem setAll_size : ∀ (A : List (Nat × Nat)) (l : Array Bool), (setAll l A).size = l.size
  | [], _ => rfl
  | p :: r, l => by rw [setAll, setAll_size r]; simp
theorem setAll_ne : ∀ (A : List (Nat × Nat)) (l : Array Bool) {j : Nat}, j ∉ A.map Prod.fst → (setAll l A)[j]? = l[j]?
  | [], _, _, _ => rfl
  | p :: r, l, j, h => by
    rw [List.map_cons, List.mem_cons, not_or] at h
    rw [setAll, setAll_ne r _ h.2, Array.getElem?_setIfInBounds, if_neg (fun e => h.1 e.symm)]
theorem setAll_mem : ∀ (A : List (Nat × Nat)) (l : Array Bool) {j : Nat}, j ∈ A.map Prod.fst → j < l.size → (setAll l A)[j]? = some true
  | p :: r, l, j, h, hl => by
    rw [setAll]
    by_cases hr : j ∈ r.map Prod.fst
    · exact setAll_mem r _ hr (by simpa using hl)
    · rw [List.map_cons, List.mem_cons] at h
      have : j = p.1 := h.resolve_right hr
      subst this
      rw [setAll_ne r _ hr, Array.getElem?_setIfInBounds, if_pos rfl, if_pos hl]
/-- How many of some are not listed. -/
def left (l : Array Bool) (L : List Nat) : Nat := L.countP fun j => !l.getD j true
theorem left_set {l : Array Bool} {i : Nat} : ∀ {L : List Nat}, L.Nodup → i ∈ L → l.getD i true = false → left (l.setIfInBounds i true) L + 1 = left l L
  | x :: xs, hn, h, hf => by
    rw [List.nodup_cons] at hn
    have hil : i < l.size := by
      refine Classical.byContradiction fun hc => ?_
      rw [Array.getD, dif_neg hc] at hf
      cases hf
    have ht : (l.setIfInBounds i true).getD i true = true := by
      simp [Array.getD_eq_getD_getElem?, hil]
    unfold left
    rw [List.countP_cons, List.countP_cons]
    by_cases hx : x = i
    · subst hx
      have hsame : ∀ j ∈ xs, (!(l.setIfInBounds x true).getD j true) = !l.getD j true := fun j hj => by
        rw [getD_set_ne true (i := x) (j := j) (fun e => hn.1 (by rw [e]; exact hj))]
      rw [List.countP_congr (p := fun j => !(l.setIfInBounds x true).getD j true) (q := fun j => !l.getD j true) (fun j hj => by rw [hsame j hj]), ht, hf]
      simp
    · have hi : i ∈ xs := (List.mem_cons.1 h).resolve_left (fun e => hx e.symm)
      have := left_set hn.2 hi hf
      unfold left at this
      rw [getD_set_ne true (fun e => hx e.symm)]
      omega
theorem left_zero {l : Array Bool} {L : List Nat} (h : left l L = 0) {j : Nat} (hj : j ∈ L) : l.getD j true = true := by
  have := List.countP_eq_zero.1 h j hj
  simpa using this
def specB (md : Region.Mode) (ops : Array Oper) (l0 l1 : Array Bool) (n : Nat) (A : List (Nat × Nat)) : Bool :=
  Region.closedB md ops l0 && decide (l0.size = ops.size) && (setAll l0 A == l1) && decide (A.map Prod.fst).Nodup && decide (A.map Prod.snd).Nodup &&
  (A.all fun p => !l0.getD p.1 true && decide (p.2 < n) && match ops[p.1]? with
    | some o => o.dst == some p.2 && o.after.all fun e => !Region.binds md e || (decide (e.on < p.1) && l1.getD e.on false)
    | none => false) &&
  (List.range ops.size).all fun i => l1.getD i true || A.all fun p => Region.reachB md ops p.1 ops.size i
/-- What is known at an operation: the values that were there; of those of A that came up (L): each meets its law, two of them theirs. -/
structure Known (md : Region.Mode) (A : List (Nat × Nat)) (Spec : Nat → Value → World → Prop) (Pr : Nat → Nat → Value → Value → Prop) (a0 a : Act) (o : Oper) (w : World) (L : Nat × Nat → Prop) : Prop where
  same : ∀ t, t ∉ A.map Prod.snd → a.eval (.tmp t) = a0.eval (.tmp t)
  after : ∀ e ∈ o.after, Region.binds md e = true → ∀ t, (e.on, t) ∈ A → L (e.on, t)
  spec : ∀ p, L p → Spec p.1 (a.eval (.tmp p.2)) w
  pair : ∀ p q, L p → L q → p ≠ q → Pr p.1 q.1 (a.eval (.tmp p.2)) (a.eval (.tmp q.2))
/-- Some operations, in whatever order they come up: each leaves a value with a law of its own, and changes nothing that was there. -/
theorem spec_ {f1 k : Nat} {l0 : Array Bool} {a0 : Act} {w0 : World} (l1 : Array Bool) (A : List (Nat × Nat)) (Spec : Nat → Value → World → Prop) (Pr : Nat → Nat → Value → Value → Prop) (hk : A.length = k) (hc : specB md ops l0 l1 a0.tmps.size A = true)
    (hmono : ∀ j v w w', Ext Non w w' → Spec j v w → Spec j v w') (hS : ∀ w w', Ext Non w w' → S w → S w')
    (hstep : ∀ p ∈ A, ∀ o, ops[p.1]? = some o → ∀ a w L, Ext Non w0 w → Known md A Spec Pr a0 a o w L → ∀ K : Act → World → Prop, Shut (∀ v w', Ext Non w w' → Spec p.1 v w' → (∀ q, L q → Pr p.1 q.1 v (a.eval (.tmp q.2)) ∧ Pr q.1 p.1 (a.eval (.tmp q.2)) v) → K (a.put o.dst v) w') → if Region.wanted o (yielded ops a.tmps) = true then Oper.wp P o a w K Q else K (a.put o.dst undef) w)
    (hend : ∀ (vs : Nat → Value) w, Ext Non w0 w → (∀ p ∈ A, Spec p.1 (vs p.1) w) → (∀ p ∈ A, ∀ q ∈ A, p ≠ q → Pr p.1 q.1 (vs p.1) (vs q.1)) → wpAnyLast P md ops Q S ds f1 l1 (fill A vs a0) w) : wpAnyLast P md ops Q S ds (f1 + k) l0 a0 w0 := by
  simp only [specB, Bool.and_eq_true, decide_eq_true_eq, beq_iff_eq] at hc
  obtain ⟨⟨⟨⟨⟨⟨hc1, hc2⟩, hc3⟩, hc4⟩, hc5⟩, hc6⟩, hc7⟩ := hc
  have hA : ∀ p ∈ A, l0.getD p.1 true = false ∧ p.2 < a0.tmps.size ∧ ∃ o, ops[p.1]? = some o ∧ o.dst = some p.2 ∧ ∀ e ∈ o.after, Region.binds md e = true → e.on < p.1 ∧ l1.getD e.on false = true := by
    intro p hp
    have h := List.all_eq_true.1 hc6 p hp
    simp only [Bool.and_eq_true, decide_eq_true_eq, Bool.not_eq_true'] at h
    obtain ⟨⟨h1, h2⟩, h3⟩ := h
    cases ho : ops[p.1]? with
    | none => rw [ho] at h3; cases h3
    | some o =>
      rw [ho] at h3
      simp only [Bool.and_eq_true, beq_iff_eq] at h3
      refine ⟨h1, h2, o, rfl, h3.1, fun e he hb => ?_⟩
      have := Array.all_eq_true_iff_forall_mem.1 h3.2 e he
      simpa [hb] using this
  have main : ∀ (k : Nat) (l : Array Bool) (a : Act) (w : World), left l (A.map Prod.fst) = k → l.size = ops.size → ListedClosed md ops l → (∀ j, j ∉ A.map Prod.fst → l[j]? = l0[j]?) → Ext Non w0 w → a.defers = a0.defers → a.tmps.size = a0.tmps.size →
      (∀ t, t ∉ A.map Prod.snd → a.tmps[t]? = a0.tmps[t]?) → (∀ p ∈ A, l.getD p.1 true = true → ∃ v, a.tmps[p.2]? = some v ∧ Spec p.1 v w) → (∀ p ∈ A, ∀ q ∈ A, l.getD p.1 true = true → l.getD q.1 true = true → p ≠ q → Pr p.1 q.1 (a.eval (.tmp p.2)) (a.eval (.tmp q.2))) → wpAnyLast P md ops Q S ds (f1 + k) l a w := by
    intro k
    induction k with
    | zero =>
      intro l a w hl hsz hcl hout he hde hts hot hsp hpr
      have hl1 : l = l1 := by
        rw [← hc3]
        apply Array.ext_getElem?
        intro j
        by_cases hj : j ∈ A.map Prod.fst
        · have hjt := left_zero hl hj
          obtain ⟨p, hp, rfl⟩ := List.mem_map.1 hj
          obtain ⟨-, -, o, ho, -⟩ := hA p hp
          have hlt : p.1 < ops.size := (Array.getElem?_eq_some_iff.1 ho).1
          rw [setAll_mem A l0 hj (by omega), Array.getElem?_eq_getElem (by omega)]
          rw [Array.getD, dif_pos (by omega)] at hjt
          exact congrArg some hjt
        · rw [setAll_ne A l0 hj, hout j hj]
      let vs : Nat → Value := fun j => match A.find? (fun p => p.1 == j) with | some p => a.tmps.getD p.2 undef | none => undef
      have hvs : ∀ p ∈ A, a.tmps[p.2]? = some (vs p.1) ∧ Spec p.1 (vs p.1) w := by
        intro p hp
        obtain ⟨v, hv, hSp⟩ := hsp p hp (left_zero hl (List.mem_map_of_mem hp))
        have hfd : A.find? (fun q => q.1 == p.1) = some p := by
          cases hf : A.find? (fun q => q.1 == p.1) with
          | none => have := List.find?_eq_none.1 hf p hp; simp at this
          | some q =>
            have h1 := List.find?_some hf
            simp only [beq_iff_eq] at h1
            have h2 := List.mem_of_find?_eq_some hf
            obtain ⟨i, hi⟩ := List.mem_iff_getElem?.1 h2
            obtain ⟨j, hj⟩ := List.mem_iff_getElem?.1 hp
            have a1 : (A.map Prod.fst)[i]? = some p.1 := by rw [List.getElem?_map, hi]; simp [h1]
            have a2 : (A.map Prod.fst)[j]? = some p.1 := by rw [List.getElem?_map, hj]; rfl
            have hij : i = j := (List.getElem?_inj (List.getElem?_eq_some_iff.1 a1).1 hc4).1 (a1.trans a2.symm)
            subst hij
            rw [hi] at hj
            exact hj
        have : vs p.1 = v := by
          simp only [vs, hfd]
          simp [hv]
        rw [this]
        exact ⟨hv, hSp⟩
      have ha : a = fill A vs a0 := by
        have ht : a.tmps = (fill A vs a0).tmps := by
          apply Array.ext_getElem?
          intro t
          by_cases hx : t ∈ A.map Prod.snd
          · obtain ⟨p, hp, rfl⟩ := List.mem_map.1 hx
            rw [(hvs p hp).1, fill_at A vs a0 hc5 hp (hA p hp).2.1]
          · rw [hot t hx, fill_ne A vs a0 hx]
        have hq : a.defers = (fill A vs a0).defers := by rw [fill_defers]; exact hde
        cases a
        cases hfl : fill A vs a0
        rw [hfl] at ht hq
        simp only at ht hq
        rw [ht, hq]
      have hev : ∀ p ∈ A, a.eval (.tmp p.2) = vs p.1 := fun p hp => by simp only [Act.eval, Array.getD_eq_getD_getElem?, (hvs p hp).1, Option.getD_some]
      have hpr' : ∀ p ∈ A, ∀ q ∈ A, p ≠ q → Pr p.1 q.1 (vs p.1) (vs q.1) := fun p hp q hq hne => by
        have := hpr p hp q hq (left_zero hl (List.mem_map_of_mem hp)) (left_zero hl (List.mem_map_of_mem hq)) hne
        rw [hev p hp, hev q hq] at this
        exact this
      rw [hl1, ha]
      exact hend vs w he (fun p hp => (hvs p hp).2) hpr'
    | succ k ih =>
      intro l a w hl hsz hcl hout he hde hts hot hsp hpr
      have hl1 : ∀ j, l1.getD j false = true → j ∉ A.map Prod.fst → l.getD j false = true := fun j hj hn => by
        rw [← hc3, Array.getD_eq_getD_getElem?, setAll_ne A l0 hn] at hj
        rw [Array.getD_eq_getD_getElem?, hout j hn]
        exact hj
      -- one of A is ready
      have hex : ∀ m j, j < m → j ∈ A.map Prod.fst → l.getD j true = false → ∃ i, i ∈ Region.ready md ops l := by
        intro m
        induction m with
        | zero => intro j h; omega
        | succ m ihm =>
          intro j hjm hj hf
          obtain ⟨p, hp, rfl⟩ := List.mem_map.1 hj
          obtain ⟨-, -, o, ho, -, haf⟩ := hA p hp
          by_cases hall : ∀ e ∈ o.after, Region.binds md e = true → l.getD e.on false = true
          · exact ⟨p.1, mem_ready.2 ⟨hf, o, ho, hall⟩⟩
          · obtain ⟨e, hh⟩ := Classical.not_forall.1 hall
            obtain ⟨hee, hh⟩ := Classical.not_forall.1 hh
            obtain ⟨hbb, hh⟩ := Classical.not_forall.1 hh
            obtain ⟨h1, h2⟩ := haf e hee hbb
            by_cases heA : e.on ∈ A.map Prod.fst
            · refine ihm e.on (by omega) heA ?_
              obtain ⟨q, hq, hqe⟩ := List.mem_map.1 heA
              obtain ⟨-, -, o', ho', -⟩ := hA q hq
              have hlt : e.on < l.size := by rw [hsz, ← hqe]; exact (Array.getElem?_eq_some_iff.1 ho').1
              rw [Array.getD, dif_pos hlt] at hh ⊢
              simpa using hh
            · exact absurd (hl1 _ h2 heA) hh
      have hne : ∃ j, j ∈ A.map Prod.fst ∧ l.getD j true = false := by
        have : 0 < left l (A.map Prod.fst) := by omega
        obtain ⟨j, hj, hf⟩ := List.countP_pos_iff.1 this
        exact ⟨j, hj, by simpa using hf⟩
      obtain ⟨j0, hj0, hf0⟩ := hne
      obtain ⟨i0, hi0⟩ := hex (j0 + 1) j0 (by omega) hj0 hf0
      refine ⟨fun h => (by rw [h] at hi0; cases hi0), fun i hi => ?_⟩
      obtain ⟨hf, o, ho, hall⟩ := mem_ready.1 hi
      have hio : i < ops.size := (Array.getElem?_eq_some_iff.1 ho).1
      have hiA : i ∈ A.map Prod.fst := by
        refine Classical.byContradiction fun hn => ?_
        have h1 := List.all_eq_true.1 hc7 i (List.mem_range.2 hio)
        have h2 : l1.getD i true = false := by
          rw [← hc3, Array.getD_eq_getD_getElem?, setAll_ne A l0 hn, ← hout i hn, ← Array.getD_eq_getD_getElem?]
          exact hf
        rw [h2, Bool.false_or] at h1
        obtain ⟨p, hp, hpj⟩ := List.mem_map.1 hj0
        have h3 := List.all_eq_true.1 h1 p hp
        rw [hpj] at h3
        exact Region.reach_not_ready hcl h3 hf0 hi
      obtain ⟨p, hp, rfl⟩ := List.mem_map.1 hiA
      obtain ⟨-, htl, o', ho', hd, -⟩ := hA p hp
      have : o' = o := Option.some.inj (ho'.symm.trans ho)
      subst this
      have hval : ∀ q ∈ A, l.getD q.1 true = true → Spec q.1 (a.eval (.tmp q.2)) w := fun q hq hlq => by
        obtain ⟨v, hv, hSv⟩ := hsp q hq hlq
        have : a.eval (.tmp q.2) = v := by simp only [Act.eval, Array.getD_eq_getD_getElem?, hv, Option.getD_some]
        rw [this]
        exact hSv
      refine wpOp_step ho (fun K hK => hstep p hp o' ho a w (fun q => q ∈ A ∧ l.getD q.1 true = true) he ⟨fun t ht => ?_, fun e hee hbb t hpt => ⟨hpt, ?_⟩, fun q hq => hval q hq.1 hq.2, fun q r hq hr hne => hpr q hq.1 r hr.1 hq.2 hr.2 hne⟩ K (fun v w' hew hSp hPr => hK _ _ ⟨fun _ hw => hS _ _ hew hw, ?_⟩))
      · have := hot t ht
        simp only [Act.eval, Array.getD_eq_getD_getElem?, this]
      · have hh := hall e hee hbb
        have hlt : e.on < l.size := by
          refine Classical.byContradiction fun hc => ?_
          rw [Array.getD, dif_neg hc] at hh
          cases hh
        rw [Array.getD, dif_pos hlt] at hh ⊢
        exact hh
      · have hleft := left_set hc4 hiA hf
        have hpq : ∀ q ∈ A, q ≠ p → q.1 ≠ p.1 ∧ q.2 ≠ p.2 := fun q hq hne => by
          obtain ⟨i, hi'⟩ := List.mem_iff_getElem?.1 hq
          obtain ⟨j, hj'⟩ := List.mem_iff_getElem?.1 hp
          refine ⟨fun e => hne ?_, fun e => hne ?_⟩
          · have a1 : (A.map Prod.fst)[i]? = some p.1 := by rw [List.getElem?_map, hi']; simp [e]
            have a2 : (A.map Prod.fst)[j]? = some p.1 := by rw [List.getElem?_map, hj']; rfl
            have hij : i = j := (List.getElem?_inj (List.getElem?_eq_some_iff.1 a1).1 hc4).1 (a1.trans a2.symm)
            subst hij
            rw [hi'] at hj'
            exact Option.some.inj hj'
          · have a1 : (A.map Prod.snd)[i]? = some p.2 := by rw [List.getElem?_map, hi']; simp [e]
            have a2 : (A.map Prod.snd)[j]? = some p.2 := by rw [List.getElem?_map, hj']; rfl
            have hij : i = j := (List.getElem?_inj (List.getElem?_eq_some_iff.1 a1).1 hc5).1 (a1.trans a2.symm)
            subst hij
            rw [hi'] at hj'
            exact Option.some.inj hj'
        have hevp : (a.put (some p.2) v).eval (.tmp p.2) = v := by simp only [Act.eval, Array.getD_eq_getD_getElem?, put_eq a v (show p.2 < a.tmps.size by rw [hts]; exact htl), Option.getD_some]
        have hevq : ∀ q ∈ A, q ≠ p → (a.put (some p.2) v).eval (.tmp q.2) = a.eval (.tmp q.2) := fun q hq hne => by simp only [Act.eval, Array.getD_eq_getD_getElem?, put_ne a v (fun e => (hpq q hq hne).2 e.symm)]
        refine ih _ _ _ (by omega) (by simpa using hsz) (hcl.set hi) (fun j hj => ?_) (he.trans0 hew) (by rw [put_defers]; exact hde) (by rw [put_size]; exact hts) (fun t ht => ?_) (fun q hq hlq => ?_) (fun q hq r hr hlq hlr hne => ?_)
        · rw [Array.getElem?_setIfInBounds, if_neg (fun e => hj (by rw [← e]; exact hiA))]
          exact hout j hj
        · rw [hd, put_ne _ _ (fun e => ht (by rw [← e]; exact List.mem_map_of_mem hp))]
          exact hot t ht
        · rw [hd]
          by_cases hqp : q = p
          · subst hqp
            exact ⟨v, put_eq _ _ (by rw [hts]; exact htl), hSp⟩
          · rw [getD_set_ne true (fun e => (hpq q hq hqp).1 e.symm)] at hlq
            obtain ⟨u, hu, hSu⟩ := hsp q hq hlq
            refine ⟨u, ?_, hmono _ _ _ _ hew hSu⟩
            rw [put_ne _ _ (fun e => (hpq q hq hqp).2 e.symm)]
            exact hu
        · rw [hd]
          by_cases hqp : q = p
          · subst hqp
            rw [hevp, hevq r hr (fun e => hne e.symm)]
            rw [getD_set_ne true (fun e => (hpq r hr (fun e => hne e.symm)).1 e.symm)] at hlr
            exact (hPr r ⟨hr, hlr⟩).1
          · rw [hevq q hq hqp]
            rw [getD_set_ne true (fun e => (hpq q hq hqp).1 e.symm)] at hlq
            by_cases hrp : r = p
            · subst hrp
              rw [hevp]
              exact (hPr q ⟨hq, hlq⟩).2
            · rw [hevq r hr hrp]
              rw [getD_set_ne true (fun e => (hpq r hr hrp).1 e.symm)] at hlr
              exact hpr q hq r hr hlq hlr hne
  refine main k l0 a0 w0 ?_ hc2 (Region.closedB_spec hc1) (fun _ _ => rfl) (Ext.refl _ _) rfl rfl (fun _ _ => rfl) (fun p hp hl => ?_) (fun p hp q hq hl _ _ => ?_)
  · rw [← hk, left, List.countP_eq_length.2 (fun j hj => ?_), List.length_map]
    obtain ⟨p, hp, rfl⟩ := List.mem_map.1 hj
    rw [(hA p hp).1]
    rfl
  · rw [(hA p hp).1] at hl
    cases hl
  · rw [(hA p hp).1] at hl
    cases hl
end
end Go.TM.Last
namespace Go.TM
open Go.RowKit
/-- append([]T{}, x..): a row of one's own, and nothing that was there has changed. -/
theorem run_app_empty {α : Type} {P : Program} {ty : TypeId} (d : Kd α) {w : World} {ok : Nat → Prop} {b : Nat} {vx : Value} {ys : List α} (base : Nat) (t e : TypeId) (z : Value) (bytes : Nat)
    (ht : P.underlying t = some (.slice e)) (hinfo : (P.info? e).map (fun i => (i.zero, i.size, i.bytes)) = some (some z, d.sz, bytes)) (hz : z.cells.size = d.sz) (hs0 : 0 < d.sz)
    (hbb : base ≤ b) (hokb : ok b) (hb : w.heap[b]? = some (.cells #[] e (0, 0))) (hy : Rd d w (fun k => ok k ∧ k ≠ b) vx ys) (hfresh : ∀ k, w.heap.size ≤ k → ok k) (hl : ys.length * bytes ≤ 140737488355328) (hb1 : ys.length ≤ 9223372036854775807) (hbase : base ≤ w.heap.size) :
    ∃ v' w', (Builtin.append_ #[t, t] ty #[.slice (some ⟨b, 0, none⟩) 0 0, vx]).run P w = .ok v' w' ∧ Own d e w' base ok v' ys ∧ Ext Non w w' ∧ (v'.ownBlock = some b ∨ ∃ k, v'.ownBlock = some k ∧ w.heap.size ≤ k) := by
  have hown : Own d e w base ok (.slice (some ⟨b, 0, none⟩) 0 0) ([] : List α) := by
    refine ⟨fun k hk => by simp [Value.ownBlock] at hk; subst hk; exact hokb, [], ⟨by simp, .inr ⟨b, 0, #[], rfl, hbb, hb, Nat.le_refl _, by simp [maxLen], by simp, by simp⟩⟩, Reps.nil _ _ _⟩
  have hy' : Rd d w (fun k => ok k ∧ some k ≠ (Value.slice (some ⟨b, 0, none⟩) 0 0).ownBlock) vx ys := hy.mono (fun k hk => ⟨hk.1, fun h => hk.2 (by simpa [Value.ownBlock] using h)⟩)
  obtain ⟨v', w', hr, h1, h2, h3⟩ := run_append (P := P) (ty := ty) d base t e z bytes ht hinfo hz hs0 hown hy' hfresh (by simpa using hl) (by simpa using hb1) hbase
  refine ⟨v', w', hr, by simpa using h1, ?_, by simpa [Value.ownBlock] using h3⟩
  obtain ⟨i0, hi, hzz⟩ := Option.map_eq_some_iff.1 hinfo
  simp only [Prod.mk.injEq] at hzz
  obtain ⟨hz0, hz1, hz2⟩ := hzz
  obtain ⟨A, c, rfl, hc, hm⟩ := hy.slice
  obtain ⟨_, iy, hry, hcell⟩ := hy.cells_
  rcases Nat.eq_zero_or_pos ys.length with hy0 | hy0
  · have : ys = [] := List.eq_nil_of_length_eq_zero hy0
    subst this
    have hr2 : (Builtin.append_ #[t, t] ty #[.slice (some ⟨b, 0, none⟩) 0 0, .slice A ([] : List α).length c]).run P w = .ok (.slice (some ⟨b, 0, none⟩) 0 0) w := by
      cases A <;> simp [Builtin.append_, run_underlying ht, sizeOf, typeInfo, hi, Builtin.lenOf, Builtin.firstCells, loadCells, loadCellsFrom, storeCells]
    rw [hr2] at hr
    cases hr
    exact Ext.refl _ _
  · obtain ⟨g, off, rfl, hg, hlt, hcl⟩ := hcell hy0
    have hr2 := run_append_grow (P := P) w t ty e i0 z ht hi (hz0.trans rfl) ⟨b, 0, none⟩ 0 0 [] (by simp) (by simp) ⟨g, off, none⟩ ys.length c iy (by rw [hz1]; exact hry.1) (fun j u hu => by
      have hadd : (⟨g, off, none⟩ : Addr).add j = ⟨g, off + j, none⟩ := by unfold Addr.add; split <;> simp_all
      rw [hadd]; exact hcl j u hu) (by omega) (by omega) (growslice_fits (by omega) (by rw [hz2, Nat.zero_add]; exact hl))
    rw [hr2] at hr
    cases hr
    exact ((Ext.refl _ _).drew).alloc _
/-- The same as a step of a region that draws. -/
theorem step_app_empty {α : Type} {P : Program} (d : Kd α) {w : World} {ops : Array Oper} {o : Oper} {a : Act} {K : Act → World → Prop} {Q : Exit → Act → World → Prop} {E : Prop} {ok : Nat → Prop} {b : Nat} {vx : Value} {ys : List α} (base : Nat)
    (hgd : o.guard = none) (s x : Operand) (t e : TypeId) (z : Value) (bytes : Nat) (ho : o.op = .call { callee := .builtin .append, args := #[s, x], argTypes := #[t, t] })
    (ht : P.underlying t = some (.slice e)) (hinfo : (P.info? e).map (fun i => (i.zero, i.size, i.bytes)) = some (some z, d.sz, bytes)) (hz : z.cells.size = d.sz) (hs0 : 0 < d.sz)
    (hs : a.eval s = .slice (some ⟨b, 0, none⟩) 0 0) (hx : a.eval x = vx)
    (hbb : base ≤ b) (hokb : ok b) (hb : w.heap[b]? = some (.cells #[] e (0, 0))) (hy : Rd d w (fun k => ok k ∧ k ≠ b) vx ys) (hfresh : ∀ k, w.heap.size ≤ k → ok k) (hl : ys.length * bytes ≤ 140737488355328) (hb1 : ys.length ≤ 9223372036854775807) (hbase : base ≤ w.heap.size)
    (h : ∀ v' w', Own d e w' base ok v' ys → Ext Non w w' → (v'.ownBlock = some b ∨ ∃ k, v'.ownBlock = some k ∧ w.heap.size ≤ k) → K (a.put o.dst v') w') :
    if Region.wanted o (yielded ops a.tmps) = true then Oper.wp P o a w K Q else E := by
  rw [if_pos (by simp [Region.wanted, hgd])]
  obtain ⟨v', w', hr, h1, h2, h3⟩ := run_app_empty (P := P) (ty := o.type) d base t e z bytes ht hinfo hz hs0 hbb hokb hb hy hfresh hl hb1 hbase
  unfold Oper.wp execOp
  simp only [ho, resolve, invoke, builtin, Sem.run_bind, Sem.run_pure, Result.andThen_ok, List.map_toArray, List.map_cons, List.map_nil, hs, hx, hr]
  exact h v' w' h1 h2 h3
end Go.TM
