/- Sessions: find, Ask. -/
import Derived.Test.YtiebnjkjgobklaaS1
namespace Go.Proofs.Ytiebnjkjgobklaa
open Go.RowKit Go.TM

structure Tab where
  seats : List Seat
  last : Int

def TabAt (w : World) (ok : Nat → Prop) (g : Nat) (t : Tab) : Prop :=
  ∃ v, w.heap[g]? = some (.cells #[v, .int .i64 t.last, .bool true] 54 (0, 0)) ∧ Rd seatK w ok v t.seats

theorem Good.same {l : List Seat} {last : Int} (h : Good l last) {i j : Nat} {s t : Seat} (hs : l[i]? = some s) (ht : l[j]? = some t) (he : s.ses = t.ses) : i = j := by
  rcases Nat.lt_trichotomy i j with h1 | h1 | h1
  · have := h.lt hs ht h1
    omega
  · exact h1
  · have := h.lt ht hs h1
    omega

section
variable {w : World} {ok : Nat → Prop} {g : Nat} {t : Tab}

theorem find_yes (hT : TabAt w ok g t) (HG : Good t.seats t.last) {k : Nat} {s : Seat} (hs : t.seats[k]? = some s) :
    Calls Try.prog 35 #[.pointer (some ⟨g, 0, none⟩), .int .i64 s.ses] w fun e w' => e = .returned (.tuple #[.int .i64 (k : Int), .int .i64 0]) ∧ Ext Non w w' := by
  obtain ⟨v, hb, hr⟩ := hT
  obtain ⟨A, c, rfl, hc, hm⟩ := hr.slice
  have c0 := blk_cell hb 0
  have c2 := blk_cell hb 2
  simp at c0 c2
  have HR := Lib.hid hr
  have HS := Lib.hid hs
  have h1 := HG.get hs
  have h2 := HG.last1
  clear hb hr hs
  go_enter Try.func35, Try.ntmps35
  go_wp2_with (first | (go_at_call 38; refine (dead_at g _ true c2).mono ?_; rintro e w1 ⟨rfl, rfl⟩) | fail)
  refine (search A c t.seats t.last HG w ok HR.out s.ses (by omega) (by omega)).mono ?_
  rintro e w1 ⟨i, b, rfl, hf, he⟩
  cases b
  case false => exact absurd rfl (hf s (List.mem_of_getElem? HS.out))
  obtain ⟨hi, s', hs', hss⟩ := hf
  have hik : i = (k : Int) := by
    have := HG.same hs' HS.out hss
    omega
  subst hik
  have HE := Lib.hid he
  clear he hi hs' hss
  go_wp2_with fail
  go_ret2
  exact ⟨rfl, HE.out⟩

theorem find_no (hT : TabAt w ok g t) (HG : Good t.seats t.last) {n : Int} (hn0 : -9223372036854775808 ≤ n) (hn : n ≤ 9223372036854775807) (hno : ∀ s ∈ t.seats, s.ses ≠ n) :
    Calls Try.prog 35 #[.pointer (some ⟨g, 0, none⟩), .int .i64 n] w fun e w' => e = .returned (.tuple #[.int .i64 0, .int .i64 90]) ∧ Ext Non w w' := by
  obtain ⟨v, hb, hr⟩ := hT
  obtain ⟨A, c, rfl, hc, hm⟩ := hr.slice
  have c0 := blk_cell hb 0
  have c2 := blk_cell hb 2
  simp at c0 c2
  have HR := Lib.hid hr
  have HN := Lib.hid hno
  clear hb hr hno
  go_enter Try.func35, Try.ntmps35
  go_wp2_with (first | (go_at_call 38; refine (dead_at g _ true c2).mono ?_; rintro e w1 ⟨rfl, rfl⟩) | fail)
  refine (search A c t.seats t.last HG w ok HR.out n hn0 hn).mono ?_
  rintro e w1 ⟨i, b, rfl, hf, he⟩
  cases b
  case true =>
    obtain ⟨hi, s', hs', hss⟩ := hf
    exact absurd hss (HN.out s' (List.mem_of_getElem? hs'))
  have HE := Lib.hid he
  clear he hf
  go_wp2_with fail
  go_ret2
  exact ⟨rfl, HE.out⟩
end

structure AskR where
  err : Int
  n : Int
  fresh : Bool
  e : Int

def askS (s : Seat) (seq : Int) : AskR :=
  if seq < s.seq ∨ seq < 1 then ⟨0, 0, false, 91⟩ else if seq = s.seq then ⟨s.err, s.n, false, 0⟩ else if seq = s.seq + 1 then ⟨0, 0, true, 0⟩ else ⟨0, 0, false, 92⟩
def ask (l : List Seat) (n seq : Int) : AskR :=
  match l.find? (fun s => s.ses == n) with
  | none => ⟨0, 0, false, 90⟩
  | some s => askS s seq
theorem ask_no {l : List Seat} {n seq : Int} (h : ∀ s ∈ l, s.ses ≠ n) : ask l n seq = ⟨0, 0, false, 90⟩ := by
  unfold ask
  rw [List.find?_eq_none.2 (fun s hs => by simpa using h s hs)]
theorem find_of {l : List Seat} {last : Int} (HG : Good l last) {k : Nat} {s : Seat} (hs : l[k]? = some s) : l.find? (fun x => x.ses == s.ses) = some s := by
  cases h : l.find? (fun x => x.ses == s.ses) with
  | none =>
    have := List.find?_eq_none.1 h s (List.mem_of_getElem? hs)
    simp at this
  | some t =>
    obtain ⟨j, hj⟩ := List.getElem?_of_mem (List.mem_of_find?_eq_some h)
    have := List.find?_some h
    have e := HG.same hj hs (by simpa using this)
    subst e
    rw [hj] at hs
    exact hs
theorem ask_yes {l : List Seat} {last : Int} (HG : Good l last) {k : Nat} {s : Seat} (hs : l[k]? = some s) (seq : Int) : ask l s.ses seq = askS s seq := by
  unfold ask
  rw [find_of HG hs]

def AskR.val (r : AskR) : Value := .tuple #[.agg #[.int .i64 r.err, .int .i64 r.n], .bool r.fresh, .int .i64 r.e]
def AskPost (r : AskR) (w : World) (e : Ending) (w' : World) : Prop := e = .returned r.val ∧ Ext Non w w'

theorem results14 (tmps : Array Value) (w : World) (g : Nat) (x y : Int) (h6 : tmps[6]? = some (.pointer (some ⟨g, 0, none⟩))) (hx : w.cell? ⟨g, 0, none⟩ = some (.int .i64 x)) (hy : w.cell? ⟨g, 1, none⟩ = some (.int .i64 y)) :
    (results Try.f14 tmps).run Try.prog w = .ok (.tuple #[.agg #[.int .i64 x, .int .i64 y], tmps.getD 7 undef, tmps.getD 8 undef]) w := by
  simp [results, Try.results14, h6, asAddr, go_sem, hx, hy]

set_option maxHeartbeats 400000 in
theorem Ask_some {w : World} {ok : Nat → Prop} {g : Nat} {t : Tab} (hT : TabAt w ok g t) (HG : Good t.seats t.last) {k : Nat} {s : Seat} (hk : t.seats[k]? = some s) (seq : Int) (hq : seq ≤ 9223372036854775807) :
    Calls Try.prog 14 #[.pointer (some ⟨g, 0, none⟩), .int .i64 s.ses, .int .i64 seq] w (AskPost (askS s seq) w) := by
  have HT := Lib.hid hT
  obtain ⟨v, hb, hr⟩ := hT
  obtain ⟨A, c, rfl, hc, hm⟩ := hr.slice
  have c0 := blk_cell hb 0
  simp at c0
  clear hb
  have hlt := (List.getElem?_eq_some_iff.1 hk).1
  have hs0 := (HG.get hk).2.2.1
  obtain ⟨gs, off, rfl, hgs, d0, d1, d2, d3⟩ := seat_nat hr hk
  have HK := Lib.hid hk
  clear hr hk
  go_enter Try.func14, Try.ntmps14
  go_wp2_with fail
  refine (find_yes (k := k) (s := s) (ok := ok) (t := t) ?_ HG HK.out).mono ?_
  · obtain ⟨v, hb, hr⟩ := HT.out
    exact ⟨v, ((Ext.refl Non w).alloc _).obj hb (fun e => e), hr.ext0 ((Ext.refl Non w).alloc _)⟩
  rintro e w1 ⟨rfl, he⟩
  have E : Ext Non w w1 := ((Ext.refl Non w).alloc _).trans0 he
  have c0 := E.cell c0 (fun e => e)
  have d0 := E.cell d0 (fun e => e)
  have d1 := E.cell d1 (fun e => e)
  have d2 := E.cell d2 (fun e => e)
  have d3 := E.cell d3 (fun e => e)
  have b0 := he.obj (heap_alloc_new w _) (fun e => e)
  have f0 := blk_cell b0 0
  have f1 := blk_cell b0 1
  have z0 := frozen_of_row w1 w.heap.size 0 _ _ b0
  have z1 := frozen_of_row w1 w.heap.size 1 _ _ b0
  simp at f0 f1
  have hz : w.heap.size < w1.heap.size := (Array.getElem?_eq_some_iff.1 b0).1
  have HE := Lib.hid E
  clear E he b0
  have fin : ∀ (tmps : Array Value) (W : World) (x y : Int) (f : Bool) (er : Int), tmps[6]? = some (.pointer (some ⟨w.heap.size, 0, none⟩)) → tmps.getD 7 undef = .bool f → tmps.getD 8 undef = .int .i64 er →
      W.cell? ⟨w.heap.size, 0, none⟩ = some (.int .i64 x) → W.cell? ⟨w.heap.size, 1, none⟩ = some (.int .i64 y) → Ext Non w W → askS s seq = ⟨x, y, f, er⟩ → bodyPost Try.prog Try.f14 (AskPost (askS s seq) w) .ret ⟨tmps, []⟩ W := by
    intro tmps W x y f er h6 h7 h8 hx hy hE hA
    refine bodyPost_ret (v := (askS s seq).val) ?_ rfl ⟨rfl, hE⟩
    rw [results14 tmps W w.heap.size x y h6 hx hy, h7, h8, hA]
    rfl
  have FIN := Lib.hid fin
  clear fin
  by_cases h1 : seq < s.seq ∨ seq < 1
  · have hA : askS s seq = ⟨0, 0, false, 91⟩ := if_pos h1
    have HA := Lib.hid hA
    clear hA
    go_wp2_with fail
    all_goals
      refine FIN.out _ _ 0 0 _ _ rfl rfl rfl (by go_simp) (by go_simp) ?_ HA.out
      · repeat (first | exact HE.out | refine Ext.alloc ?_ _ | refine Ext.setNew ?_ (Nat.le_refl _) _)
  · have h2 : ¬ seq < s.seq := fun h => h1 (.inl h)
    have h3 : ¬ seq < 1 := fun h => h1 (.inr h)
    by_cases h4 : seq = s.seq
    · have hA : askS s seq = ⟨s.err, s.n, false, 0⟩ := by unfold askS; rw [if_neg h1, if_pos h4]
      have HA := Lib.hid hA
      have h5 : (seq == s.seq) = true := by simpa using h4
      clear hA h4 h1
      go_wp2_with fail
      refine FIN.out _ _ s.err s.n _ _ rfl rfl rfl (by go_simp) (by go_simp) ?_ HA.out
      · repeat (first | exact HE.out | refine Ext.alloc ?_ _ | refine Ext.setNew ?_ (Nat.le_refl _) _)
    · have h5 : (seq == s.seq) = false := by simpa using h4
      have h6 : s.seq + 1 ≤ 9223372036854775807 := by omega
      by_cases h7 : seq = s.seq + 1
      · have hA : askS s seq = ⟨0, 0, true, 0⟩ := by unfold askS; rw [if_neg h1, if_neg h4, if_pos h7]
        have HA := Lib.hid hA
        have h8 : (seq != s.seq + 1) = false := by simpa using h7
        clear hA h7 h1 h4
        go_wp2_with fail
        refine FIN.out _ _ 0 0 _ _ rfl rfl rfl (by go_simp) (by go_simp) ?_ HA.out
        · repeat (first | exact HE.out | refine Ext.alloc ?_ _ | refine Ext.setNew ?_ (Nat.le_refl _) _)
      · have hA : askS s seq = ⟨0, 0, false, 92⟩ := by unfold askS; rw [if_neg h1, if_neg h4, if_neg h7]
        have HA := Lib.hid hA
        have h8 : (seq != s.seq + 1) = true := by simpa using h7
        clear hA h7 h1 h4
        go_wp2_with fail
        refine FIN.out _ _ 0 0 _ _ rfl rfl rfl (by go_simp) (by go_simp) ?_ HA.out
        · repeat (first | exact HE.out | refine Ext.alloc ?_ _ | refine Ext.setNew ?_ (Nat.le_refl _) _)
end Go.Proofs.Ytiebnjkjgobklaa
