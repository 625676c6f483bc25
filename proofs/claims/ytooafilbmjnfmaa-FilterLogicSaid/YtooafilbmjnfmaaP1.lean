/- PLAIN LAW: not of not is the filter, not of all is some of the nots; filters laid out in memory. -/
import Derived.Test.YtooafilbmjnfmaaM6
import Derived.Test.YtooafilbmjnfmaaHC
namespace Go.Proofs.Ytooafilbmjnfmaa
open Go.RowKit Go.TM
def kindF (op : Int) (l : List Flt) : Flt := .mk op ⟨#[]⟩ ⟨#[]⟩ l
theorem kindF_okF {n : Nat} {op : Int} {l : List Flt} (ho : inI op) (hl : l.length ≤ 24) (h : ∀ k ∈ l, okF n k) : okF (n + 1) (kindF op l) := ⟨ho, by show 0 ≤ _; omega, by show 0 ≤ _; omega, by show l.length ≤ maxLen; simp only [maxLen]; omega, h⟩
theorem kindF_okL {n : Nat} {op : Int} {l : List Flt} (ho : inI op) (hl : l.length ≤ 24) (h : ∀ k ∈ l, okL n k) : okL (n + 1) (kindF op l) := ⟨ho, by show 0 ≤ _; omega, by show 0 ≤ _; omega, by show l.length ≤ _; omega, h⟩
theorem inI_lit (op : Int) (h : 0 ≤ op ∧ op ≤ 6) : inI op := by unfold inI; omega
theorem bare_nil : bare ⟨#[]⟩ ⟨#[]⟩ = true := by kernel_rfl
theorem holds_of {fp : FieldFn} {n : Nat} {f : Flt} {e : Ev} (h : checkE n f = 0) : holdsP fp n f e = holdsF fp n f e := if_pos h
theorem all_none (fp : FieldFn) (n : Nat) (e : Ev) : holdsP fp (n + 1) (kindF 5 []) e = true := by
  have h : checkE (n + 1) (kindF 5 []) = 0 := by
    show (chk (n + 1) (kindF 5 []) 1 0).1 = 0
    rw [chk_go (by omega) (by simp [mayF, mayW, kindF, Flt.op, Flt.key, Flt.val, bare_nil])]
    rfl
  rw [holds_of h]
  rfl
theorem some_none (fp : FieldFn) (n : Nat) (e : Ev) : holdsP fp (n + 1) (kindF 6 []) e = false := by
  have h : checkE (n + 1) (kindF 6 []) = 0 := by
    show (chk (n + 1) (kindF 6 []) 1 0).1 = 0
    rw [chk_go (by omega) (by simp [mayF, mayW, kindF, Flt.op, Flt.key, Flt.val, bare_nil])]
    rfl
  rw [holds_of h]
  rfl
theorem not_F (fp : FieldFn) (n : Nat) (f : Flt) (e : Ev) : holdsF fp (n + 1) (kindF 4 [f]) e = !holdsF fp n f e := by
  show (!([f].all fun k => holdsF fp n k e)) = _
  simp
theorem and_F (fp : FieldFn) (n : Nat) (f g : Flt) (e : Ev) : holdsF fp (n + 1) (kindF 5 [f, g]) e = (holdsF fp n f e && holdsF fp n g e) := by
  show ([f, g].all fun k => holdsF fp n k e) = _
  simp
theorem or_F (fp : FieldFn) (n : Nat) (f g : Flt) (e : Ev) : holdsF fp (n + 1) (kindF 6 [f, g]) e = (holdsF fp n f e || holdsF fp n g e) := by
  show ([f, g].any fun k => holdsF fp n k e) = _
  simp
theorem twice_law {fp : FieldFn} {n : Nat} {f : Flt} {e : Ev} (ho : okL (n + 1) f) (h : checkE (n + 3) (kindF 4 [kindF 4 [f]]) = 0) : holdsP fp (n + 3) (kindF 4 [kindF 4 [f]]) e = holdsP fp (n + 1) f e := by
  have h4 : inI 4 := inI_lit 4 (by omega)
  have o1 : okL (n + 2) (kindF 4 [f]) := kindF_okL h4 (by simp) (by simpa using ho)
  have o2 : okL (n + 3) (kindF 4 [kindF 4 [f]]) := kindF_okL h4 (by simp) (by simpa using o1)
  have c1 : checkE (n + 2) (kindF 4 [f]) = 0 := kid_check o2 h _ (by show _ ∈ [_]; simp)
  have c2 : checkE (n + 1) f = 0 := kid_check o1 c1 _ (by show _ ∈ [_]; simp)
  rw [holds_of h, holds_of c2, not_F, not_F, Bool.not_not]
theorem logic_law {fp : FieldFn} {n : Nat} {f g : Flt} {e : Ev} (hf : okL (n + 1) f) (hg : okL (n + 1) g) (ha : checkE (n + 3) (kindF 4 [kindF 5 [f, g]]) = 0) (hb : checkE (n + 3) (kindF 6 [kindF 4 [f], kindF 4 [g]]) = 0) :
    holdsP fp (n + 3) (kindF 4 [kindF 5 [f, g]]) e = holdsP fp (n + 3) (kindF 6 [kindF 4 [f], kindF 4 [g]]) e ∧ holdsP fp (n + 2) (kindF 5 [f, g]) e = (holdsP fp (n + 1) f e && holdsP fp (n + 1) g e) := by
  have h4 : inI 4 := inI_lit 4 (by omega)
  have h5 : inI 5 := inI_lit 5 (by omega)
  have o1 : okL (n + 2) (kindF 5 [f, g]) := kindF_okL h5 (by simp) (fun k hk => by rcases List.mem_cons.1 hk with rfl | hk; exact hf; rw [List.mem_singleton] at hk; subst hk; exact hg)
  have o2 : okL (n + 3) (kindF 4 [kindF 5 [f, g]]) := kindF_okL h4 (by simp) (by simpa using o1)
  have c1 : checkE (n + 2) (kindF 5 [f, g]) = 0 := kid_check o2 ha _ (by show _ ∈ [_]; simp)
  have cf : checkE (n + 1) f = 0 := kid_check o1 c1 _ (by show _ ∈ [_, _]; simp)
  have cg : checkE (n + 1) g = 0 := kid_check o1 c1 _ (by show _ ∈ [_, _]; simp)
  refine ⟨?_, ?_⟩
  · rw [holds_of ha, holds_of hb, not_F, and_F, or_F, not_F, not_F]
    cases holdsF fp (n + 1) f e <;> cases holdsF fp (n + 1) g e <;> rfl
  · rw [holds_of c1, holds_of cf, holds_of cg, and_F]
section
variable {w : World} {n b : Nat} {ok : Nat → Prop}
/-- A slice of one filter. -/
theorem one_kid {op : Int} {key val : ByteArray} {v : Value} {kids : List Flt} (hb : w.heap[b]? = some (.cells #[.int .i64 op, .string key, .string val, v] 24 (0, 0))) (ho : ok b) (hr : Rd (fltK n) w ok v kids) : Rd (fltK (n + 1)) w ok (.slice (some ⟨b, 0, none⟩) 1 1) [.mk op key val kids] :=
  Rd.lit_at (cs := [.int .i64 op, .string key, .string val, v]) hb ⟨v, rfl, hr⟩ ho
/-- A slice of two. -/
theorem two_kids {op op' : Int} {key val key' val' : ByteArray} {v v' : Value} {kids kids' : List Flt} (hb : w.heap[b]? = some (.cells #[.int .i64 op, .string key, .string val, v, .int .i64 op', .string key', .string val', v'] 24 (0, 0))) (ho : ok b) (hr : Rd (fltK n) w ok v kids) (hr' : Rd (fltK n) w ok v' kids') :
    Rd (fltK (n + 1)) w ok (.slice (some ⟨b, 0, none⟩) 2 2) [.mk op key val kids, .mk op' key' val' kids'] := by
  have r1 : Reps (fltK (n + 1)) w ok [.mk op key val kids] [.int .i64 op, .string key, .string val, v] := Reps.single ⟨v, rfl, hr⟩
  have r2 : Reps (fltK (n + 1)) w ok [.mk op' key' val' kids'] [.int .i64 op', .string key', .string val', v'] := Reps.single ⟨v', rfl, hr'⟩
  exact Rd.of_inner (r1.append r2) ho (blk_lt hb) (Nat.le_refl _) (by decide) (fun j u hu => by rw [Nat.zero_add, blk_cell hb]; simpa using hu)
theorem kind_fv {op : Int} {s : Value} {l : List Flt} (hr : Rd (fltK n) w ok s l) : FV n w ok (.agg #[.int .i64 op, .string ⟨#[]⟩, .string ⟨#[]⟩, s]) (kindF op l) := ⟨s, rfl, hr⟩
/-- What lives in these blocks and in those lives in both. -/
theorem rd_and {α : Type} {d : Kd α} {ok1 ok2 : Nat → Prop} {v : Value} {l : List α} (hk : ∀ x ∈ l, ∀ cs, d.K w ok1 x cs → d.K w ok2 x cs → d.K w (fun k => ok1 k ∧ ok2 k) x cs) (h1 : Rd d w ok1 v l) (h2 : Rd d w ok2 v l) : Rd d w (fun k => ok1 k ∧ ok2 k) v l := by
  obtain ⟨A, c, rfl, hc, hm, hr1⟩ := h1
  obtain ⟨A', c', he, _, _, hr2⟩ := h2
  simp only [Value.slice.injEq, true_and] at he
  obtain ⟨rfl, rfl⟩ := he
  refine ⟨A, c, rfl, hc, hm, fun h0 => ?_⟩
  obtain ⟨g, off, rfl, hg, hl, hx⟩ := hr1 h0
  obtain ⟨g', off', he, hg', _, hx'⟩ := hr2 h0
  simp only [Option.some.injEq, Addr.mk.injEq, and_true] at he
  obtain ⟨rfl, rfl⟩ := he
  refine ⟨g, off, rfl, ⟨hg, hg'⟩, hl, fun j x hj => ?_⟩
  obtain ⟨cs, hk1, hc1⟩ := hx j x hj
  obtain ⟨cs', hk2, hc2⟩ := hx' j x hj
  have hcc : cs' = cs := by
    apply List.ext_getElem?
    intro i
    by_cases hi : i < d.sz
    · have h1 := hc1 i _ (List.getElem?_eq_getElem (by rw [d.len hk1]; exact hi))
      have h2 := hc2 i _ (List.getElem?_eq_getElem (by rw [d.len hk2]; exact hi))
      rw [h1] at h2
      rw [List.getElem?_eq_getElem (by rw [d.len hk2]; exact hi), List.getElem?_eq_getElem (by rw [d.len hk1]; exact hi)]
      exact h2.symm
    · rw [List.getElem?_eq_none (by rw [d.len hk2]; omega), List.getElem?_eq_none (by rw [d.len hk1]; omega)]
  subst hcc
  exact ⟨cs', hk x (List.mem_of_getElem? hj) cs' hk1 hk2, hc1⟩
theorem flt_and {ok1 ok2 : Nat → Prop} : ∀ (n : Nat) {x : Flt} {cs : List Value}, (fltK n).K w ok1 x cs → (fltK n).K w ok2 x cs → (fltK n).K w (fun k => ok1 k ∧ ok2 k) x cs
  | 0, _, _, h, _ => h.elim
  | n + 1, x, cs, h1, h2 => by
    obtain ⟨v, rfl, hr1⟩ := h1
    obtain ⟨v', he, hr2⟩ := h2
    simp only [List.cons.injEq, and_true, true_and] at he
    subst he
    exact ⟨v, rfl, rd_and (fun _ _ _ a b => flt_and n a b) hr1 hr2⟩
theorem flts_and {ok1 ok2 : Nat → Prop} {v : Value} {l : List Flt} (h1 : Rd (fltK n) w ok1 v l) (h2 : Rd (fltK n) w ok2 v l) : Rd (fltK n) w (fun k => ok1 k ∧ ok2 k) v l := rd_and (fun _ _ _ a b => flt_and n a b) h1 h2
end
end Go.Proofs.Ytooafilbmjnfmaa
