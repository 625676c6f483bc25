/- What was put is read: a reader's calls where what is wanted stands there. -/
import Derived.Test.YtdjfijdnhfmeeaaV4
import Derived.Test.YtdjfijdnhfmeeaaJ5
namespace Go.Proofs.Ytdjfijdnhfmeeaa
open Go.RowKit Go.TM
/-- A reader at a place from which on rest stands. -/
def RAt (w : World) (ok : Nat → Prop) (r : Nat) (bs rest : List UInt8) : Prop := ∃ a, a ≤ bs.length ∧ RdrAt w ok r bs a 0 ∧ bs.drop a = rest
def RAtPost (v : Value) (ok : Nat → Prop) (r : Nat) (bs rest : List UInt8) (w : World) (e : Ending) (w' : World) : Prop := e = .returned v ∧ RAt w' ok r bs rest ∧ Ext (Only r) w w'
theorem RAt.ext {w w' : World} {ok : Nat → Prop} {r : Nat} {bs rest : List UInt8} {M : Nat → Prop} (h : RAt w ok r bs rest) (he : Ext M w w') (hm : ∀ k, ok k → k < w.heap.size → ¬ M k) (hr : ¬ M r) : RAt w' ok r bs rest := by
  obtain ⟨a, ha, ⟨v, hb, hrd⟩, hd⟩ := h
  exact ⟨a, ha, ⟨v, he.obj hb hr, hrd.ext he hm⟩, hd⟩
theorem RAt.ext0 {w w' : World} {ok : Nat → Prop} {r : Nat} {bs rest : List UInt8} (h : RAt w ok r bs rest) (he : Ext Non w w') : RAt w' ok r bs rest := h.ext he (fun _ _ _ e => e) (fun e => e)
theorem RAt.lt {w : World} {ok : Nat → Prop} {r : Nat} {bs rest : List UInt8} (h : RAt w ok r bs rest) : r < w.heap.size := by
  obtain ⟨a, ha, ⟨v, hb, hrd⟩, hd⟩ := h
  exact blk_lt hb
section
variable {w : World} {ok : Nat → Prop} {r : Nat} {bs rest : List UInt8}
theorem drop_le {a : Nat} {l : List UInt8} (h : bs.drop a = l ++ rest) (ha : a ≤ bs.length) : a + l.length ≤ bs.length := by
  have := congrArg List.length h
  rw [List.length_drop, List.length_append] at this
  omega
theorem within_ok {m lo hi : Int} (h : RAt w ok r bs (numI m ++ rest)) (hg : ¬ ok r) (h0 : 0 ≤ m) (h1 : m ≤ 9223372036854775807) (hl : lo ≤ m) (hh : m ≤ hi) : Calls Try.prog 72 #[.pointer (some ⟨r, 0, none⟩), .int .i64 lo, .int .i64 hi] w (RAtPost (.int .i64 m) ok r bs rest w) := by
  obtain ⟨a, ha, hR, hd⟩ := h
  refine (RWithin_calls hR hg ha lo hi).mono ?_
  rintro e w' ⟨rfl, h2, h3⟩
  have h4 := rNum_put (m := m.toNat) (by omega) hd
  have h5 : rWithin bs a 0 lo hi = (m, a + (numB m.toNat).length, 0) := by
    unfold rWithin
    rw [h4]
    simp only [ne_eq, not_true_eq_false, if_false]
    rw [if_neg (by omega), Int.toNat_of_nonneg h0]
  rw [h5] at h2 ⊢
  exact ⟨rfl, ⟨_, drop_le hd ha, h2, drop_more hd⟩, h3⟩
theorem text_ok {t : ByteArray} {most : Int} (h : RAt w ok r bs (numB t.size ++ (t.data.toList ++ rest))) (hg : ¬ ok r) (ht : (t.size : Int) ≤ most) (hm : t.size ≤ 9223372036854775807) : Calls Try.prog 73 #[.pointer (some ⟨r, 0, none⟩), .int .i64 most] w (RAtPost (.string t) ok r bs rest w) := by
  obtain ⟨a, ha, hR, hd⟩ := h
  refine (RText_calls hR hg ha most).mono ?_
  rintro e w' ⟨rfl, h2, h3⟩
  have h5 := rText_put (lim := most) ht hm hd
  rw [h5] at h2 ⊢
  have hd2 := drop_more hd
  refine ⟨by simp, ⟨_, ?_, h2, ?_⟩, h3⟩
  · have h6 := drop_le hd ha
    have h7 := drop_le hd2 h6
    rw [size_list] at h7
    exact h7
  · have h8 := drop_more hd2
    rw [size_list] at h8
    exact h8
theorem flag_ok {b : Bool} (h : RAt w ok r bs (numB (flagN b) ++ rest)) (hg : ¬ ok r) : Calls Try.prog 74 #[.pointer (some ⟨r, 0, none⟩)] w (RAtPost (.bool b) ok r bs rest w) := by
  obtain ⟨a, ha, hR, hd⟩ := h
  refine (RFlag_calls hR hg ha).mono ?_
  rintro e w' ⟨rfl, h2, h3⟩
  have h4 := rNum_put (m := flagN b) (by unfold flagN; split <;> omega) hd
  have h5 : rFlag bs a 0 = (b, a + (numB (flagN b)).length, 0) := by
    unfold rFlag
    rw [h4]
    cases b <;> simp [flagN]
  rw [h5] at h2 ⊢
  exact ⟨rfl, ⟨_, drop_le hd ha, h2, drop_more hd⟩, h3⟩
theorem take_ok {n : Nat} {f : Flt} (h : RAt w ok r bs (encF n f ++ rest)) (hg : ¬ ok r) (hok : ∀ j, ok j → j < w.heap.size) (ho : okL n f) (hc : checkE n f = 0) :
    Calls Try.prog 75 #[.pointer (some ⟨r, 0, none⟩)] w fun e w' => ∃ x, e = .returned (.tuple #[x, .bool true]) ∧ FV 6 w' (fun j => w.heap.size ≤ j) x f ∧ RAt w' ok r bs rest ∧ Ext (Only r) w w' := by
  have hrl := h.lt
  obtain ⟨a, ha, hR, hd⟩ := h
  refine (Take_calls hR hg hok hrl ha).mono ?_
  rintro e w' ⟨x, rfl, hf, h2, h3⟩
  obtain ⟨h4, h5⟩ := tk_put ha ho hc hd
  have h6 : tkF bs a 0 = f := by unfold tkF; rw [if_pos h4, h5]
  rw [h5] at h2
  rw [h6] at hf
  rw [h4]
  exact ⟨x, rfl, hf, ⟨_, drop_le hd ha, h2, drop_more hd⟩, h3⟩
end
theorem evB_more (e : Ev) (rest : List UInt8) : evB e ++ rest = numB e.pos.toNat ++ (numB e.key.size ++ (e.key.data.toList ++ (numB (flagN e.had) ++ (numB e.old.size ++ (e.old.data.toList ++ (numB (flagN e.has) ++ (numB e.now.size ++ (e.now.data.toList ++ rest)))))))) := by
  simp [evB, evB3, evB2, evB1, List.append_assoc]
theorem sbB_more {n : Nat} {s : Sb} (h : checkE (n + 1) s.q = 0) (rest : List UInt8) : sbB n s ++ rest = numI s.id ++ (numI s.fr ++ (numI s.at_ ++ (numB (flagN s.gone) ++ (encF (n + 1) s.q ++ rest)))) := by
  simp [sbB, putOut, h, List.append_assoc]
theorem encD_more (n : Nat) (D : Fdr) (rest : List UInt8) : encD n D ++ rest = numI D.next ++ (numI D.top ++ (numI D.evs.length ++ (D.evs.flatMap evB ++ (numI D.subs.length ++ (D.subs.flatMap (sbB n) ++ rest))))) := by
  simp [encD, hdB, numI, List.append_assoc]
/-- The place of the last of some events; 0: there is none. -/
def lastPos (l : List Ev) : Int := match l.getLast? with | some e => e.pos | none => 0
def lastId (l : List Sb) : Int := match l.getLast? with | some s => s.id | none => 0
theorem lastPos_take {l : List Ev} {j : Nat} {e : Ev} (h : l[j]? = some e) : lastPos (l.take (j + 1)) = e.pos := by
  obtain ⟨hj, he⟩ := List.getElem?_eq_some_iff.1 h
  rw [List.take_succ_eq_append_getElem hj, he, lastPos, List.getLast?_append]
  simp
theorem lastId_take {l : List Sb} {j : Nat} {s : Sb} (h : l[j]? = some s) : lastId (l.take (j + 1)) = s.id := by
  obtain ⟨hj, he⟩ := List.getElem?_eq_some_iff.1 h
  rw [List.take_succ_eq_append_getElem hj, he, lastId, List.getLast?_append]
  simp
theorem lastPos_le {n : Nat} {D : Fdr} (h : Neat n D) {j : Nat} {e : Ev} (he : D.evs[j]? = some e) : 0 ≤ lastPos (D.evs.take j) ∧ lastPos (D.evs.take j) ≤ e.pos := by
  have hp := h.pos e (List.mem_of_getElem? he)
  cases j with
  | zero =>
    show 0 ≤ (0 : Int) ∧ (0 : Int) ≤ e.pos
    omega
  | succ j =>
    obtain ⟨hj, hje⟩ := List.getElem?_eq_some_iff.1 he
    have h1 : D.evs[j]? = some D.evs[j] := List.getElem?_eq_getElem (by omega)
    rw [lastPos_take h1]
    have h2 := (List.pairwise_iff_getElem.1 h.fine.ev.ord) j (j + 1) (by omega) hj (by omega)
    have h3 := h.pos _ (List.mem_of_getElem? h1)
    rw [hje] at h2
    omega
theorem lastId_lt {n : Nat} {D : Fdr} (h : Neat n D) {j : Nat} {s : Sb} (hs : D.subs[j]? = some s) : 0 ≤ lastId (D.subs.take j) ∧ lastId (D.subs.take j) < s.id := by
  have hp := h.idp s (List.mem_of_getElem? hs)
  cases j with
  | zero =>
    show 0 ≤ (0 : Int) ∧ (0 : Int) < s.id
    omega
  | succ j =>
    obtain ⟨hj, hje⟩ := List.getElem?_eq_some_iff.1 hs
    have h1 : D.subs[j]? = some D.subs[j] := List.getElem?_eq_getElem (by omega)
    rw [lastId_take h1]
    have h2 := (List.pairwise_iff_getElem.1 h.fine.ord.ids) j (j + 1) (by omega) hj (by omega)
    have h3 := h.idp _ (List.mem_of_getElem? h1)
    rw [hje] at h2
    omega
end Go.Proofs.Ytdjfijdnhfmeeaa
