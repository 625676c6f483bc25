/- Events; what a filter holds of; the nodes' methods. What a node holds of. -/
import Derived.Test.YtdjfijdnhfmeeaaGC
namespace Go.Proofs.Ytdjfijdnhfmeeaa
open Go.RowKit Go.TM
structure Ev where
  pos : Int
  key : ByteArray
  had : Bool
  old : ByteArray
  has : Bool
  now : ByteArray
def evV (e : Ev) : Value := .agg #[.int .i64 e.pos, .string e.key, .bool e.had, .string e.old, .bool e.has, .string e.now]
def begins (s t : ByteArray) : Bool := decide (t.size ≤ s.size) && ((s.extract 0 t.size).toList == t.toList)
abbrev FieldFn := ByteArray → ByteArray → ByteArray × Bool
def FieldSpec (fp : FieldFn) : Prop := ∀ (w : World) (s t : ByteArray), s.size ≤ 1048576 → Calls Try.prog 127 #[.string s, .string t] w fun e w' => e = .returned (.tuple #[.string (fp s t).1, .bool (fp s t).2]) ∧ Ext Non w w'
def holdsF (fp : FieldFn) : Nat → Flt → Ev → Bool
  | 0, _, _ => false
  | n + 1, f, e =>
    if f.op = 0 then true else if f.op = 1 then begins e.key f.val else if f.op = 2 then e.has && (fp e.now f.key).2 && ((fp e.now f.key).1.toList == f.val.toList) else if f.op = 3 then e.has
    else if f.op = 4 then !(f.kids.all fun k => holdsF fp n k e) else if f.op = 5 then f.kids.all fun k => holdsF fp n k e else f.kids.any fun k => holdsF fp n k e
theorem holdsF_eq (fp : FieldFn) (n : Nat) (f : Flt) (e : Ev) : holdsF fp (n + 1) f e = (if f.op = 0 then true else if f.op = 1 then begins e.key f.val else if f.op = 2 then e.has && (fp e.now f.key).2 && ((fp e.now f.key).1.toList == f.val.toList) else if f.op = 3 then e.has
    else if f.op = 4 then !(f.kids.all fun k => holdsF fp n k e) else if f.op = 5 then f.kids.all fun k => holdsF fp n k e else f.kids.any fun k => holdsF fp n k e) := rfl
/-- No question for a field. -/
def noEq : Nat → Flt → Prop
  | 0, _ => True
  | n + 1, f => f.op ≠ 2 ∧ ∀ k ∈ f.kids, noEq n k
def meth (t : TypeId) : FuncId := if t = 120 then 123 else if t = 122 then 124 else if t = 124 then 126 else if t = 125 then 129 else if t = 129 then 130 else if t = 131 then 131 else 132
theorem method_at {t : TypeId} (h : isQ t) (p : Value) (w : World) : (method 261 t p "tidemark/filter.holds").run Try.prog w = .ok (meth t, p) w := by
  rcases h with rfl | rfl | rfl | rfl | rfl | rfl | rfl <;> kernel_rfl
theorem enters_at {t : TypeId} (h : isQ t) (args : Array Value) (w : World) : (callFunc (meth t) args).run Try.prog w = .ok (.enter (meth t) args) w := by
  rcases h with rfl | rfl | rfl | rfl | rfl | rfl | rfl <;> kernel_rfl
def BoolPost (b : Bool) (w : World) (e : Ending) (w' : World) : Prop := e = .returned (.bool b) ∧ Ext Non w w'
section
variable {w : World}
set_option maxRecDepth 100000 in
set_option maxHeartbeats 1048576 in
theorem Begins_calls (s t : ByteArray) : Calls Try.prog 125 #[.string s, .string t] w (BoolPost (begins s t) w) := by
  by_cases h : (t.size : Int) ≤ (s.size : Int)
  · go_enter Try.func125, Try.ntmps125
    go_wp2_with fail
    go_ret
    refine ⟨?_, Ext.refl _ _⟩
    show _ = Ending.returned (.bool (decide (t.size ≤ s.size) && ((s.extract 0 t.size).toList == t.toList)))
    rw [decide_eq_true (by omega)]
    rfl
  · have hb : Hid (begins s t = false) := by
      show begins s t = false
      unfold begins
      rw [decide_eq_false (by omega)]
      rfl
    go_enter Try.func125, Try.ntmps125
    go_wp2_with fail
    go_ret
    exact ⟨by rw [hb.out]; rfl, Ext.refl _ _⟩
end
end Go.Proofs.Ytdjfijdnhfmeeaa

namespace Go.Proofs.Ytdjfijdnhfmeeaa
open Go.RowKit Go.TM
def NodeAt (fp : FieldFn) (n : Nat) : Prop := ∀ (f : Flt) (w : World) (ok : Nat → Prop) (t : TypeId) (p : Value) (e : Ev), (ndK (n + 1)).K w ok f [.iface t p] → (noEq (n + 1) f ∨ FieldSpec fp) → e.now.size ≤ 1048576 →
    Calls Try.prog (meth t) #[p, evV e] w (BoolPost (holdsF fp (n + 1) f e) w)
theorem nd_kid {w : World} {ok : Nat → Prop} {n : Nat} {A : Option Addr} {len c : Nat} {xs : List Flt} (h : Rd (ndK n) w ok (.slice A len c) xs) {j : Nat} {k : Flt} (hs : xs[j]? = some k) :
    ∃ g off t p m, n = m + 1 ∧ A = some ⟨g, off, none⟩ ∧ ok g ∧ g < w.heap.size ∧ isQ t ∧ w.cell? ⟨g, off + j, none⟩ = some (.iface t p) ∧ (ndK (m + 1)).K w ok k [.iface t p] := by
  obtain ⟨g, off, cs, rfl, hg, hgl, hk, hcs⟩ := h.at_ hs
  obtain ⟨u, rfl⟩ : ∃ u, cs = [u] := by
    have h := (ndK n).len hk
    rw [ndK_sz] at h
    exact List.length_eq_one_iff.1 h
  obtain ⟨t, p, rfl, hq⟩ := nd_iface hk
  have h0 := hcs 0 _ rfl
  rw [ndK_sz, Nat.mul_one, Nat.add_zero] at h0
  cases n with
  | zero => exact hk.elim
  | succ m => exact ⟨g, off, t, p, m, rfl, rfl, hg, hgl, hq, h0, hk⟩
theorem _root_.Go.TM.Kd.ext0 {α : Type} (d : Kd α) {w w' : World} {ok : Nat → Prop} {x : α} {cs : List Value} (h : d.K w ok x cs) (he : Ext Non w w') : d.K w' (fun k => ok k ∧ k < w.heap.size) x cs := d.move (fun k hk => he.block k hk.2 (fun e => e)) (d.bound h)
section
variable {fp : FieldFn} {w : World} {e : Ev}
set_option maxRecDepth 100000 in
set_option maxHeartbeats 4000000 in
theorem always_h  : Calls Try.prog 123 #[.agg #[], evV e] w (BoolPost (true) w) := by
  show Calls Try.prog 123 #[.agg #[], .agg #[.int .i64 e.pos, .string e.key, .bool e.had, .string e.old, .bool e.has, .string e.now]] w _
  go_enter Try.func123, Try.ntmps123
  go_wp2_with fail
  go_ret
  exact ⟨rfl, by repeat (first | exact Ext.refl _ _ | refine Ext.alloc ?_ _)⟩
set_option maxRecDepth 100000 in
set_option maxHeartbeats 4000000 in
theorem puts_h  : Calls Try.prog 129 #[.agg #[], evV e] w (BoolPost (e.has) w) := by
  show Calls Try.prog 129 #[.agg #[], .agg #[.int .i64 e.pos, .string e.key, .bool e.had, .string e.old, .bool e.has, .string e.now]] w _
  go_enter Try.func129, Try.ntmps129
  go_wp2_with fail
  go_ret
  exact ⟨rfl, by repeat (first | exact Ext.refl _ _ | refine Ext.alloc ?_ _)⟩
set_option maxRecDepth 100000 in
set_option maxHeartbeats 4000000 in
theorem begins_h (val : ByteArray) : Calls Try.prog 124 #[.agg #[.string val], evV e] w (BoolPost (begins e.key val) w) := by
  show Calls Try.prog 124 #[.agg #[.string val], .agg #[.int .i64 e.pos, .string e.key, .bool e.had, .string e.old, .bool e.has, .string e.now]] w _
  go_enter Try.func124, Try.ntmps124
  go_wp2_with fail
  refine (Begins_calls e.key val).mono ?_
  rintro e' w5 ⟨rfl, he⟩
  have HE : Hid (Ext Non w w5) := by
    show Ext Non w w5
    refine Ext.trans0 ?_ he
    repeat (first | exact Ext.refl _ _ | refine Ext.alloc ?_ _)
  clear he
  go_wp2_with fail
  go_ret
  exact ⟨rfl, HE.out⟩
set_option maxRecDepth 100000 in
set_option maxHeartbeats 4000000 in
theorem equals_h (hF : FieldSpec fp) (hs : e.now.size ≤ 1048576) (key val : ByteArray) : Calls Try.prog 126 #[.agg #[.string key, .string val], evV e] w (BoolPost (e.has && (fp e.now key).2 && ((fp e.now key).1.toList == val.toList)) w) := by
  show Calls Try.prog 126 #[.agg #[.string key, .string val], .agg #[.int .i64 e.pos, .string e.key, .bool e.had, .string e.old, .bool e.has, .string e.now]] w _
  obtain ⟨r, hr⟩ : ∃ r, fp e.now key = r := ⟨_, rfl⟩
  obtain ⟨s, b⟩ := r
  obtain ⟨b2, hb2⟩ : ∃ b2, e.has = b2 := ⟨_, rfl⟩
  have HRR := Lib.hid hr
  have HB := Lib.hid hb2
  rw [hr, hb2]
  clear hr hb2
  go_enter Try.func126, Try.ntmps126
  go_wp2_with fail
  refine (hF _ e.now key hs).mono ?_
  rw [HRR.out]
  rintro e' w5 ⟨rfl, he⟩
  have x4 : w5.cell? ⟨w.heap.size + 1, 4, none⟩ = some (.bool b2) := by
    have h := blk_new (w.alloc (.cells #[.string key, .string val] 124)) (.cells #[.int .i64 e.pos, .string e.key, .bool e.had, .string e.old, .bool b2, .string e.now] 43)
    have hs : (w.alloc (.cells #[.string key, .string val] 124)).heap.size = w.heap.size + 1 := by simp
    rw [hs] at h
    exact blk_cell (he.obj h (fun h => h)) 4
  have x1 : w5.cell? ⟨w.heap.size, 1, none⟩ = some (.string val) := by
    have h := blk_alloc (blk_new w (.cells #[.string key, .string val] 124)) (.cells #[.int .i64 e.pos, .string e.key, .bool e.had, .string e.old, .bool b2, .string e.now] 43)
    exact blk_cell (he.obj h (fun h => h)) 1
  have HE : Hid (Ext Non w w5) := by
    show Ext Non w w5
    refine Ext.trans0 ?_ he
    repeat (first | exact Ext.refl _ _ | refine Ext.alloc ?_ _)
  clear he
  cases b2 with
  | false =>
    go_wp2_with fail
    go_ret
    exact ⟨rfl, HE.out⟩
  | true =>
    cases b with
    | false =>
      go_wp2_with fail
      go_ret
      exact ⟨rfl, HE.out⟩
    | true =>
      go_wp2_with fail
      go_ret
      exact ⟨rfl, HE.out⟩
set_option maxRecDepth 100000 in
set_option maxHeartbeats 4000000 in
theorem not_h {n : Nat} (ih : NodeAt fp n) {ok : Nat → Prop} {k : Flt} {t : TypeId} {p : Value} (hk : (ndK (n + 1)).K w ok k [.iface t p]) (hn : noEq (n + 1) k ∨ FieldSpec fp) (hs : e.now.size ≤ 1048576) : Calls Try.prog 130 #[.agg #[.iface t p], evV e] w (BoolPost (!holdsF fp (n + 1) k e) w) := by
  show Calls Try.prog 130 #[.agg #[.iface t p], .agg #[.int .i64 e.pos, .string e.key, .bool e.had, .string e.old, .bool e.has, .string e.now]] w _
  obtain ⟨t', p', he', hq⟩ := nd_iface hk
  cases he'
  have hm := method_at hq p
  have hen := enters_at hq
  have HK := Lib.hid hk
  clear hk
  go_enter Try.func130, Try.ntmps130
  go_wp2_with fail
  refine (ih k _ _ t p e ((ndK (n + 1)).ext0 HK.out ?_) hn hs).mono ?_
  · repeat (first | exact Ext.refl _ _ | refine Ext.alloc ?_ _)
  rintro e' w5 ⟨rfl, he⟩
  have HE : Hid (Ext Non w w5) := by
    show Ext Non w w5
    refine Ext.trans0 ?_ he
    repeat (first | exact Ext.refl _ _ | refine Ext.alloc ?_ _)
  clear he
  go_wp2_with fail
  go_ret
  exact ⟨rfl, HE.out⟩
set_option maxRecDepth 100000 in
set_option maxHeartbeats 4000000 in
theorem every_h {n : Nat} (ih : ∀ m, n = m + 1 → NodeAt fp m) {ok : Nat → Prop} {kids : List Flt} {s : Value} (hr : Rd (ndK n) w ok s kids) (hn : ∀ k ∈ kids, noEq n k ∨ FieldSpec fp) (hs : e.now.size ≤ 1048576) :
    Calls Try.prog 131 #[.agg #[s], evV e] w (BoolPost (kids.all fun k => holdsF fp n k e) w) := by
  obtain ⟨A, len, cap, rfl, hlen⟩ := rd_abs hr
  show Calls Try.prog 131 #[.agg #[.slice A len cap], .agg #[.int .i64 e.pos, .string e.key, .bool e.had, .string e.old, .bool e.has, .string e.now]] w _
  have HR := Lib.hid hr.bound
  have HL := Lib.hid hlen
  have HN := Lib.hid hn
  have HIH := Lib.hid ih
  have HSZ := Lib.hid hs
  have hmx : (len : Int) ≤ 9223372036854775807 := by
    obtain ⟨_, _, h1, _, h3⟩ := hr.slice
    simp only [Value.slice.injEq] at h1
    have := h1.2.1
    omega
  clear hr hn ih hs hlen
  go_enter Try.func131, Try.ntmps131
  go_wp2_with fail
  have E0 : Hid (Ext Non w ((w.alloc (.cells #[.slice A len cap] 131)).alloc (.cells #[.int .i64 e.pos, .string e.key, .bool e.had, .string e.old, .bool e.has, .string e.now] 43))) := ((Ext.refl _ _).alloc _).alloc _
  have BX : Hid (((w.alloc (.cells #[.slice A len cap] 131)).alloc (.cells #[.int .i64 e.pos, .string e.key, .bool e.had, .string e.old, .bool e.has, .string e.now] 43)).heap[w.heap.size + 1]? = some (.cells #[.int .i64 e.pos, .string e.key, .bool e.had, .string e.old, .bool e.has, .string e.now] 43)) := by
    have hsz1 : (w.alloc (.cells #[.slice A len cap] 131)).heap.size = w.heap.size + 1 := by simp
    have h := blk_new (w.alloc (.cells #[.slice A len cap] 131)) (.cells #[.int .i64 e.pos, .string e.key, .bool e.had, .string e.old, .bool e.has, .string e.now] 43)
    rw [hsz1] at h
    exact h
  obtain ⟨w0, hw0⟩ : ∃ w0, (w.alloc (.cells #[.slice A len cap] 131)).alloc (.cells #[.int .i64 e.pos, .string e.key, .bool e.had, .string e.old, .bool e.has, .string e.now] 43) = w0 := ⟨_, rfl⟩
  rw [hw0] at E0 BX ⊢
  clear hw0
  go_loopw [10] (fun i wr => ∃ j : Nat, i = .int .i64 (j : Int) ∧ j ≤ len ∧ Hid (Ext Non w0 wr) ∧ Hid (((kids.take j).all fun k => holdsF fp n k e) = true)) (fun i _ => len - (intOf i).toNat)
  case atStart => exact ⟨0, rfl, by omega, Ext.refl _ _, by show _ = _; simp⟩
  case round =>
    obtain ⟨j, rfl, hj, HE, HT⟩ := hrel
    by_cases hlt : j < len
    · obtain ⟨k, hk0⟩ : ∃ k, kids[j]? = some k := ⟨_, List.getElem?_eq_getElem (by rw [← HL.out]; exact hlt)⟩
      have hnext : ((kids.take (j + 1)).all fun k => holdsF fp n k e) = (((kids.take j).all fun k => holdsF fp n k e) && holdsF fp n k e) := by rw [List.take_add_one, hk0]; simp
      have hmem := List.mem_of_getElem? hk0
      obtain ⟨gk, off, t, p, m, hnm, rfl, hgk, hgl, hq, d0, hK⟩ := nd_kid (HR.out.ext0 (E0.out.trans0 HE.out)) hk0
      have hm := method_at hq p
      have hen := enters_at hq
      have HK := Lib.hid hK
      have HX := Lib.hid hnext
      have HMEM := Lib.hid hmem
      have x0 : wr.cell? ⟨w.heap.size + 1, 0, none⟩ = some (.int .i64 e.pos) := blk_cell (HE.out.obj BX.out (fun h => h)) 0
      have x1 : wr.cell? ⟨w.heap.size + 1, 1, none⟩ = some (.string e.key) := blk_cell (HE.out.obj BX.out (fun h => h)) 1
      have x2 : wr.cell? ⟨w.heap.size + 1, 2, none⟩ = some (.bool e.had) := blk_cell (HE.out.obj BX.out (fun h => h)) 2
      have x3 : wr.cell? ⟨w.heap.size + 1, 3, none⟩ = some (.string e.old) := blk_cell (HE.out.obj BX.out (fun h => h)) 3
      have x4 : wr.cell? ⟨w.heap.size + 1, 4, none⟩ = some (.bool e.has) := blk_cell (HE.out.obj BX.out (fun h => h)) 4
      have x5 : wr.cell? ⟨w.heap.size + 1, 5, none⟩ = some (.string e.now) := blk_cell (HE.out.obj BX.out (fun h => h)) 5
      obtain ⟨b, hb⟩ : ∃ b, holdsF fp n k e = b := ⟨_, rfl⟩
      have HB := Lib.hid hb
      clear hK hnext hmem hk0 hb
      cases b with
      | false =>
        have hfin : Hid ((kids.all fun k => holdsF fp n k e) = false) := by
          show _ = _
          rw [List.all_eq_false]; exact ⟨k, HMEM.out, by rw [HB.out]; simp⟩
        go_wp2_with fail
        refine (HIH.out m hnm k _ _ t p e HK.out (by have h := HN.out k HMEM.out; rw [hnm] at h; exact h) HSZ.out).mono ?_
        rw [← hnm, HB.out]
        rintro e' w5 ⟨rfl, he⟩
        have HE5 := Lib.hid (E0.out.trans0 (HE.out.trans0 he))
        clear he
        go_wp2_with fail
        go_ret
        exact ⟨by rw [hfin.out]; rfl, HE5.out⟩
      | true =>
        go_wp2_with fail
        refine (HIH.out m hnm k _ _ t p e HK.out (by have h := HN.out k HMEM.out; rw [hnm] at h; exact h) HSZ.out).mono ?_
        rw [← hnm, HB.out]
        rintro e' w5 ⟨rfl, he⟩
        have HE5 := Lib.hid (HE.out.trans0 he)
        clear he
        go_wp2_with fail
        go_roundw
        case rel => exact ⟨j + 1, by go_num, by omega, HE5.out, by show _ = _; rw [HX.out, HT.out, HB.out]; rfl⟩
        case measure => simp [intOf]; omega
    · obtain rfl : j = len := by omega
      have hfin : Hid ((kids.all fun k => holdsF fp n k e) = true) := by
        have h := HT.out
        rw [List.take_of_length_le (by rw [← HL.out]; omega)] at h
        exact h
      go_wp2_with fail
      go_ret
      exact ⟨by rw [hfin.out]; rfl, E0.out.trans0 HE.out⟩
set_option maxRecDepth 100000 in
set_option maxHeartbeats 4000000 in
theorem some_h {n : Nat} (ih : ∀ m, n = m + 1 → NodeAt fp m) {ok : Nat → Prop} {kids : List Flt} {s : Value} (hr : Rd (ndK n) w ok s kids) (hn : ∀ k ∈ kids, noEq n k ∨ FieldSpec fp) (hs : e.now.size ≤ 1048576) :
    Calls Try.prog 132 #[.agg #[s], evV e] w (BoolPost (kids.any fun k => holdsF fp n k e) w) := by
  obtain ⟨A, len, cap, rfl, hlen⟩ := rd_abs hr
  show Calls Try.prog 132 #[.agg #[.slice A len cap], .agg #[.int .i64 e.pos, .string e.key, .bool e.had, .string e.old, .bool e.has, .string e.now]] w _
  have HR := Lib.hid hr.bound
  have HL := Lib.hid hlen
  have HN := Lib.hid hn
  have HIH := Lib.hid ih
  have HSZ := Lib.hid hs
  have hmx : (len : Int) ≤ 9223372036854775807 := by
    obtain ⟨_, _, h1, _, h3⟩ := hr.slice
    simp only [Value.slice.injEq] at h1
    have := h1.2.1
    omega
  clear hr hn ih hs hlen
  go_enter Try.func132, Try.ntmps132
  go_wp2_with fail
  have E0 : Hid (Ext Non w ((w.alloc (.cells #[.slice A len cap] 132)).alloc (.cells #[.int .i64 e.pos, .string e.key, .bool e.had, .string e.old, .bool e.has, .string e.now] 43))) := ((Ext.refl _ _).alloc _).alloc _
  have BX : Hid (((w.alloc (.cells #[.slice A len cap] 132)).alloc (.cells #[.int .i64 e.pos, .string e.key, .bool e.had, .string e.old, .bool e.has, .string e.now] 43)).heap[w.heap.size + 1]? = some (.cells #[.int .i64 e.pos, .string e.key, .bool e.had, .string e.old, .bool e.has, .string e.now] 43)) := by
    have hsz1 : (w.alloc (.cells #[.slice A len cap] 132)).heap.size = w.heap.size + 1 := by simp
    have h := blk_new (w.alloc (.cells #[.slice A len cap] 132)) (.cells #[.int .i64 e.pos, .string e.key, .bool e.had, .string e.old, .bool e.has, .string e.now] 43)
    rw [hsz1] at h
    exact h
  obtain ⟨w0, hw0⟩ : ∃ w0, (w.alloc (.cells #[.slice A len cap] 132)).alloc (.cells #[.int .i64 e.pos, .string e.key, .bool e.had, .string e.old, .bool e.has, .string e.now] 43) = w0 := ⟨_, rfl⟩
  rw [hw0] at E0 BX ⊢
  clear hw0
  go_loopw [10] (fun i wr => ∃ j : Nat, i = .int .i64 (j : Int) ∧ j ≤ len ∧ Hid (Ext Non w0 wr) ∧ Hid (((kids.take j).any fun k => holdsF fp n k e) = false)) (fun i _ => len - (intOf i).toNat)
  case atStart => exact ⟨0, rfl, by omega, Ext.refl _ _, by show _ = _; simp⟩
  case round =>
    obtain ⟨j, rfl, hj, HE, HT⟩ := hrel
    by_cases hlt : j < len
    · obtain ⟨k, hk0⟩ : ∃ k, kids[j]? = some k := ⟨_, List.getElem?_eq_getElem (by rw [← HL.out]; exact hlt)⟩
      have hnext : ((kids.take (j + 1)).any fun k => holdsF fp n k e) = (((kids.take j).any fun k => holdsF fp n k e) || holdsF fp n k e) := by rw [List.take_add_one, hk0]; simp
      have hmem := List.mem_of_getElem? hk0
      obtain ⟨gk, off, t, p, m, hnm, rfl, hgk, hgl, hq, d0, hK⟩ := nd_kid (HR.out.ext0 (E0.out.trans0 HE.out)) hk0
      have hm := method_at hq p
      have hen := enters_at hq
      have HK := Lib.hid hK
      have HX := Lib.hid hnext
      have HMEM := Lib.hid hmem
      have x0 : wr.cell? ⟨w.heap.size + 1, 0, none⟩ = some (.int .i64 e.pos) := blk_cell (HE.out.obj BX.out (fun h => h)) 0
      have x1 : wr.cell? ⟨w.heap.size + 1, 1, none⟩ = some (.string e.key) := blk_cell (HE.out.obj BX.out (fun h => h)) 1
      have x2 : wr.cell? ⟨w.heap.size + 1, 2, none⟩ = some (.bool e.had) := blk_cell (HE.out.obj BX.out (fun h => h)) 2
      have x3 : wr.cell? ⟨w.heap.size + 1, 3, none⟩ = some (.string e.old) := blk_cell (HE.out.obj BX.out (fun h => h)) 3
      have x4 : wr.cell? ⟨w.heap.size + 1, 4, none⟩ = some (.bool e.has) := blk_cell (HE.out.obj BX.out (fun h => h)) 4
      have x5 : wr.cell? ⟨w.heap.size + 1, 5, none⟩ = some (.string e.now) := blk_cell (HE.out.obj BX.out (fun h => h)) 5
      obtain ⟨b, hb⟩ : ∃ b, holdsF fp n k e = b := ⟨_, rfl⟩
      have HB := Lib.hid hb
      clear hK hnext hmem hk0 hb
      cases b with
      | true =>
        have hfin : Hid ((kids.any fun k => holdsF fp n k e) = true) := by
          show _ = _
          rw [List.any_eq_true]; exact ⟨k, HMEM.out, HB.out⟩
        go_wp2_with fail
        refine (HIH.out m hnm k _ _ t p e HK.out (by have h := HN.out k HMEM.out; rw [hnm] at h; exact h) HSZ.out).mono ?_
        rw [← hnm, HB.out]
        rintro e' w5 ⟨rfl, he⟩
        have HE5 := Lib.hid (E0.out.trans0 (HE.out.trans0 he))
        clear he
        go_wp2_with fail
        go_ret
        exact ⟨by rw [hfin.out]; rfl, HE5.out⟩
      | false =>
        go_wp2_with fail
        refine (HIH.out m hnm k _ _ t p e HK.out (by have h := HN.out k HMEM.out; rw [hnm] at h; exact h) HSZ.out).mono ?_
        rw [← hnm, HB.out]
        rintro e' w5 ⟨rfl, he⟩
        have HE5 := Lib.hid (HE.out.trans0 he)
        clear he
        go_wp2_with fail
        go_roundw
        case rel => exact ⟨j + 1, by go_num, by omega, HE5.out, by show _ = _; rw [HX.out, HT.out, HB.out]; rfl⟩
        case measure => simp [intOf]; omega
    · obtain rfl : j = len := by omega
      have hfin : Hid ((kids.any fun k => holdsF fp n k e) = false) := by
        have h := HT.out
        rw [List.take_of_length_le (by rw [← HL.out]; omega)] at h
        exact h
      go_wp2_with fail
      go_ret
      exact ⟨by rw [hfin.out]; rfl, E0.out.trans0 HE.out⟩
theorem node_step (fp : FieldFn) (n : Nat) (ih : ∀ m, n = m + 1 → NodeAt fp m) : NodeAt fp n := by
  intro f w ok t p e hk hn hs
  have hn' : ∀ k ∈ f.kids, noEq n k ∨ FieldSpec fp := fun k hm => hn.elim (fun h => .inl (h.2 k hm)) .inr
  rcases hk with ⟨h0, h⟩ | ⟨h0, h⟩ | ⟨h0, h⟩ | ⟨h0, h⟩ | ⟨h0, k, u, h1, h, h3⟩ | ⟨h0, s, h, hr⟩ | ⟨h0, s, h, hr⟩
  all_goals
    simp only [List.cons.injEq, Value.iface.injEq, and_true] at h
    obtain ⟨rfl, rfl⟩ := h
  · have e1 : holdsF fp (n + 1) f e = true := by rw [holdsF_eq, if_pos h0]
    rw [e1]
    exact always_h
  · have e1 : holdsF fp (n + 1) f e = begins e.key f.val := by rw [holdsF_eq, if_neg (by omega), if_pos h0]
    rw [e1]
    exact begins_h f.val
  · have e1 : holdsF fp (n + 1) f e = (e.has && (fp e.now f.key).2 && ((fp e.now f.key).1.toList == f.val.toList)) := by rw [holdsF_eq, if_neg (by omega), if_neg (by omega), if_pos h0]
    rw [e1]
    rcases hn with h | h
    · exact absurd h0 h.1
    · exact equals_h h hs f.key f.val
  · have e1 : holdsF fp (n + 1) f e = e.has := by rw [holdsF_eq, if_neg (by omega), if_neg (by omega), if_neg (by omega), if_pos h0]
    rw [e1]
    exact puts_h
  · have e1 : holdsF fp (n + 1) f e = !(f.kids.all fun k => holdsF fp n k e) := by rw [holdsF_eq, if_neg (by omega), if_neg (by omega), if_neg (by omega), if_neg (by omega), if_pos h0]
    rw [e1, h1]
    obtain ⟨t, p, rfl, hq⟩ := nd_iface h3
    cases n with
    | zero => exact h3.elim
    | succ m =>
      have h := not_h (ih m rfl) h3 (hn' k (by rw [h1]; exact List.mem_cons_self)) hs
      show Calls Try.prog 130 _ _ _
      simpa using h
  · have e1 : holdsF fp (n + 1) f e = (f.kids.all fun k => holdsF fp n k e) := by rw [holdsF_eq, if_neg (by omega), if_neg (by omega), if_neg (by omega), if_neg (by omega), if_neg (by omega), if_pos h0]
    rw [e1]
    exact every_h ih hr hn' hs
  · have e1 : holdsF fp (n + 1) f e = (f.kids.any fun k => holdsF fp n k e) := by rw [holdsF_eq, if_neg (by omega), if_neg (by omega), if_neg (by omega), if_neg (by omega), if_neg (by omega), if_neg (by omega)]
    rw [e1]
    exact some_h ih hr hn' hs
theorem node_at (fp : FieldFn) : ∀ n, NodeAt fp n := by
  intro n
  induction n with
  | zero => exact node_step fp 0 (fun m h => by omega)
  | succ n ih => exact node_step fp (n + 1) (fun m h => by cases h; exact ih)
/-- What Holds tells. -/
def holdsP (fp : FieldFn) (n : Nat) (f : Flt) (e : Ev) : Bool := if checkE n f = 0 then holdsF fp n f e else false
end
end Go.Proofs.Ytdjfijdnhfmeeaa

