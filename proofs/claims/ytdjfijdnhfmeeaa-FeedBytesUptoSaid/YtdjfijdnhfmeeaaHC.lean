/- The document's Same, of two filters that are the same. The verifier's kind: a filter over kids. Reading a filter: plain. -/
import Derived.Test.YtdjfijdnhfmeeaaGC
import Derived.Test.YtdjfijdnhfmeeaaL
namespace Go.Proofs.Ytdjfijdnhfmeeaa
open Go.RowKit Go.TM
theorem rd_up {w : World} {ok : Nat → Prop} {v : Value} {l : List Flt} {n m : Nat} (hnm : n ≤ m) (h : Rd (fltK n) w ok v l) : Rd (fltK m) w ok v l := h.kind ((fltK_sz m).trans (fltK_sz n).symm) (fun _ _ _ hk => fltK_le hnm hk)
theorem FV.up {w : World} {ok : Nat → Prop} {x : Value} {f : Flt} {n m : Nat} (hnm : n ≤ m) (h : FV n w ok x f) : FV m w ok x f := by
  obtain ⟨v, rfl, hr⟩ := h
  exact ⟨v, rfl, rd_up hnm hr⟩
theorem okL_up {f : Flt} {n : Nat} (h : okL n f) : okL (n + 1) f := by
  induction n generalizing f with
  | zero => exact False.elim h
  | succ n ih => exact ⟨h.1, h.2.1, h.2.2.1, h.2.2.2.1, fun k hk => ih (h.2.2.2.2 k hk)⟩
theorem okL_le {f : Flt} {n m : Nat} (hnm : n ≤ m) (h : okL n f) : okL m f := by
  obtain ⟨k, rfl⟩ := Nat.exists_eq_add_of_le hnm
  induction k with
  | zero => exact h
  | succ k ih => exact okL_up (ih (Nat.le_add_right _ _))
def SamePost (w : World) (e : Ending) (w' : World) : Prop := e = .returned (.bool true) ∧ Ext Non w w'
def SameAt (n : Nat) : Prop := ∀ (f : Flt) (w : World) (okA okB : Nat → Prop) (v v' : Value), Rd (fltK n) w okA v f.kids → Rd (fltK n) w okB v' f.kids → okL (n + 1) f →
    Calls Try.prog 61 #[.agg #[.int .i64 f.op, .string f.key, .string f.val, v], .agg #[.int .i64 f.op, .string f.key, .string f.val, v']] w (SamePost w)
set_option maxRecDepth 100000 in
set_option maxHeartbeats 8000000 in
theorem same_step (n : Nat) (ih : ∀ m, n = m + 1 → SameAt m) : SameAt n := by
  intro f w okA okB v v' hr hr' hokf
  obtain ⟨op, key, val, kids⟩ := f
  obtain ⟨A, len, cap, rfl, hlen⟩ := rd_abs hr
  obtain ⟨B, len2, cap2, rfl, hlen2⟩ := rd_abs hr'
  obtain rfl : len2 = len := hlen2.trans hlen.symm
  have HL : Hid (len2 = kids.length) := hlen
  have s3 : len2 ≤ 1000 := by have h := hokf.2.2.2.1; rw [HL.out]; exact h
  have HOK : Hid (∀ k ∈ kids, okL n k) := hokf.2.2.2.2
  have HR : Hid (Rd (fltK n) w okA (.slice A len2 cap) kids) := hr
  have HR2 : Hid (Rd (fltK n) w okB (.slice B len2 cap2) kids) := hr'
  have HIH := Lib.hid ih
  show Calls Try.prog 61 #[.agg #[.int .i64 op, .string key, .string val, .slice A len2 cap], .agg #[.int .i64 op, .string key, .string val, .slice B len2 cap2]] w (SamePost w)
  clear hr hr' hokf ih hlen hlen2
  go_enter Try.func61, Try.ntmps61
  go_wp2_with fail
  have E0 : Hid (Ext Non w ((w.alloc (.cells #[.int .i64 op, .string key, .string val, .slice A len2 cap] 24)).alloc (.cells #[.int .i64 op, .string key, .string val, .slice B len2 cap2] 24))) := ((Ext.refl _ _).alloc _).alloc _
  have BX : Hid (((w.alloc (.cells #[.int .i64 op, .string key, .string val, .slice A len2 cap] 24)).alloc (.cells #[.int .i64 op, .string key, .string val, .slice B len2 cap2] 24)).heap[w.heap.size]? = some (.cells #[.int .i64 op, .string key, .string val, .slice A len2 cap] 24)) := blk_alloc (blk_new _ _) _
  have BY : Hid (((w.alloc (.cells #[.int .i64 op, .string key, .string val, .slice A len2 cap] 24)).alloc (.cells #[.int .i64 op, .string key, .string val, .slice B len2 cap2] 24)).heap[w.heap.size + 1]? = some (.cells #[.int .i64 op, .string key, .string val, .slice B len2 cap2] 24)) := by
    have hsz1 : (w.alloc (.cells #[.int .i64 op, .string key, .string val, .slice A len2 cap] 24)).heap.size = w.heap.size + 1 := by simp
    have h := blk_new (w.alloc (.cells #[.int .i64 op, .string key, .string val, .slice A len2 cap] 24)) (.cells #[.int .i64 op, .string key, .string val, .slice B len2 cap2] 24)
    rw [hsz1] at h
    exact h
  obtain ⟨w0, hw0⟩ : ∃ w0, ((w.alloc (.cells #[.int .i64 op, .string key, .string val, .slice A len2 cap] 24)).alloc (.cells #[.int .i64 op, .string key, .string val, .slice B len2 cap2] 24)) = w0 := ⟨_, rfl⟩
  rw [hw0] at E0 BX BY ⊢
  clear hw0
  go_loopw [37] (fun i wr => ∃ j : Nat, i = .int .i64 (j : Int) ∧ j ≤ len2 ∧ Hid (Ext Non w0 wr)) (fun i _ => len2 - (intOf i).toNat)
  case atStart => exact ⟨0, rfl, by omega, Ext.refl _ _⟩
  case round =>
    obtain ⟨j, rfl, hj, HE⟩ := hrel
    by_cases hlt : j < len2
    · obtain ⟨k, hk0⟩ : ∃ k, kids[j]? = some k := ⟨_, List.getElem?_eq_getElem (by rw [← HL.out]; exact hlt)⟩
      have EW := E0.out.trans0 HE.out
      obtain ⟨ga, offa, va, m, hnm, rfl, hga, hgla, a0, a1, a2, a3, hka⟩ := kid_at (HR.out.ext0 EW) hk0
      obtain ⟨gb, offb, vb, m2, hnm2, rfl, hgb, hglb, b0, b1, b2, b3, hkb⟩ := kid_at (HR2.out.ext0 EW) hk0
      obtain rfl : m2 = m := by omega
      have hkok : okL (m2 + 1) k := hnm ▸ HOK.out k (List.mem_of_getElem? hk0)
      obtain ⟨A3, n3, c3, rfl, hn3⟩ := rd_abs hka
      obtain ⟨A4, n4, c4, rfl, hn4⟩ := rd_abs hkb
      have x3 : wr.cell? ⟨w.heap.size, 3, none⟩ = some (.slice (some ⟨ga, offa, none⟩) len2 cap) := blk_cell (HE.out.obj BX.out (fun h => h)) 3
      have y3 : wr.cell? ⟨w.heap.size + 1, 3, none⟩ = some (.slice (some ⟨gb, offb, none⟩) len2 cap2) := blk_cell (HE.out.obj BY.out (fun h => h)) 3
      have HKA := Lib.hid hka
      have HKB := Lib.hid hkb
      clear hka hkb hk0 hn3 hn4
      go_wp2_with fail
      refine Last.start_ (S := fun W => W.cell? ⟨w.heap.size, 3, none⟩ = some (.slice (some ⟨ga, offa, none⟩) len2 cap) ∧ W.cell? ⟨w.heap.size + 1, 3, none⟩ = some (.slice (some ⟨gb, offb, none⟩) len2 cap2) ∧ W.cell? ⟨ga, offa + j * 4, none⟩ = some (.int .i64 k.op) ∧ W.cell? ⟨ga, offa + j * 4 + 1, none⟩ = some (.string k.key) ∧ W.cell? ⟨ga, offa + j * 4 + 2, none⟩ = some (.string k.val) ∧ W.cell? ⟨ga, offa + j * 4 + 3, none⟩ = some (.slice A3 n3 c3) ∧ W.cell? ⟨gb, offb + j * 4, none⟩ = some (.int .i64 k.op) ∧ W.cell? ⟨gb, offb + j * 4 + 1, none⟩ = some (.string k.key) ∧ W.cell? ⟨gb, offb + j * 4 + 2, none⟩ = some (.string k.val) ∧ W.cell? ⟨gb, offb + j * 4 + 3, none⟩ = some (.slice A4 n4 c4)) (ds := []) #[false, false, false, false, false, false, false, false, false, false, false, false] (by kernel_rfl) (by rfl) (by rfl) ⟨x3, y3, a0, a1, a2, a3, b0, b1, b2, b3⟩ (fun hS => ?_)
      refine Last.take_ (i := 0) (N := some 40) (v := .pointer (some ⟨w.heap.size, 3, none⟩)) #[true, false, false, false, false, false, false, false, false, false, false, false] (by simp only [List.getElem?_toArray, List.getElem?_cons_zero]; rfl) rfl (by kernel_rfl) (by exact fun _ _ _ h => h) (Or.inl ⟨by rfl, fun W hW => by first | rfl | (try dsimp only at hW); go_simp⟩) hS rfl ?_
      simp only [Act.put, List.setIfInBounds_toArray, List.set_cons_zero, List.set_cons_succ]
      refine Last.take_ (i := 1) (N := some 41) (v := .slice (some ⟨ga, offa, none⟩) len2 cap) #[true, true, false, false, false, false, false, false, false, false, false, false] (by simp only [List.getElem?_toArray, List.getElem?_cons_zero, List.getElem?_cons_succ]; rfl) rfl (by kernel_rfl) (by exact fun _ _ _ h => h) (Or.inl ⟨by rfl, fun W hW => by first | rfl | (try dsimp only at hW); go_simp⟩) hS rfl ?_
      simp only [Act.put, List.setIfInBounds_toArray, List.set_cons_zero, List.set_cons_succ]
      refine Last.take_ (i := 2) (N := some 42) (v := .int .i64 (j : Int)) #[true, true, true, false, false, false, false, false, false, false, false, false] (by simp only [List.getElem?_toArray, List.getElem?_cons_zero, List.getElem?_cons_succ]; rfl) rfl (by kernel_rfl) (by exact fun _ _ _ h => h) (Or.inl ⟨by rfl, fun W hW => by first | rfl | (try dsimp only at hW); go_simp⟩) hS rfl ?_
      simp only [Act.put, List.setIfInBounds_toArray, List.set_cons_zero, List.set_cons_succ]
      refine Last.take_ (i := 3) (N := some 43) (v := .pointer (some ⟨ga, offa + j * 4, none⟩)) #[true, true, true, true, false, false, false, false, false, false, false, false] (by simp only [List.getElem?_toArray, List.getElem?_cons_zero, List.getElem?_cons_succ]; rfl) rfl (by kernel_rfl) (by exact fun _ _ _ h => h) (Or.inl ⟨by rfl, fun W hW => by first | rfl | (try dsimp only at hW); go_simp⟩) hS rfl ?_
      simp only [Act.put, List.setIfInBounds_toArray, List.set_cons_zero, List.set_cons_succ]
      refine Last.take_ (i := 4) (N := some 44) (v := .agg #[.int .i64 k.op, .string k.key, .string k.val, .slice A3 n3 c3]) #[true, true, true, true, true, false, false, false, false, false, false, false] (by simp only [List.getElem?_toArray, List.getElem?_cons_zero, List.getElem?_cons_succ]; rfl) rfl (by kernel_rfl) (by exact fun _ _ _ h => h) (Or.inl ⟨by rfl, fun W hW => by first | rfl | (try dsimp only at hW); go_simp⟩) hS rfl ?_
      simp only [Act.put, List.setIfInBounds_toArray, List.set_cons_zero, List.set_cons_succ]
      refine Last.take_ (i := 5) (N := some 45) (v := .pointer (some ⟨w.heap.size + 1, 3, none⟩)) #[true, true, true, true, true, true, false, false, false, false, false, false] (by simp only [List.getElem?_toArray, List.getElem?_cons_zero, List.getElem?_cons_succ]; rfl) rfl (by kernel_rfl) (by exact fun _ _ _ h => h) (Or.inl ⟨by rfl, fun W hW => by first | rfl | (try dsimp only at hW); go_simp⟩) hS rfl ?_
      simp only [Act.put, List.setIfInBounds_toArray, List.set_cons_zero, List.set_cons_succ]
      refine Last.take_ (i := 6) (N := some 46) (v := .slice (some ⟨gb, offb, none⟩) len2 cap2) #[true, true, true, true, true, true, true, false, false, false, false, false] (by simp only [List.getElem?_toArray, List.getElem?_cons_zero, List.getElem?_cons_succ]; rfl) rfl (by kernel_rfl) (by exact fun _ _ _ h => h) (Or.inl ⟨by rfl, fun W hW => by first | rfl | (try dsimp only at hW); go_simp⟩) hS rfl ?_
      simp only [Act.put, List.setIfInBounds_toArray, List.set_cons_zero, List.set_cons_succ]
      refine Last.take_ (i := 7) (N := some 47) (v := .int .i64 (j : Int)) #[true, true, true, true, true, true, true, true, false, false, false, false] (by simp only [List.getElem?_toArray, List.getElem?_cons_zero, List.getElem?_cons_succ]; rfl) rfl (by kernel_rfl) (by exact fun _ _ _ h => h) (Or.inl ⟨by rfl, fun W hW => by first | rfl | (try dsimp only at hW); go_simp⟩) hS rfl ?_
      simp only [Act.put, List.setIfInBounds_toArray, List.set_cons_zero, List.set_cons_succ]
      refine Last.take_ (i := 8) (N := some 48) (v := .pointer (some ⟨gb, offb + j * 4, none⟩)) #[true, true, true, true, true, true, true, true, true, false, false, false] (by simp only [List.getElem?_toArray, List.getElem?_cons_zero, List.getElem?_cons_succ]; rfl) rfl (by kernel_rfl) (by exact fun _ _ _ h => h) (Or.inl ⟨by rfl, fun W hW => by first | rfl | (try dsimp only at hW); go_simp⟩) hS rfl ?_
      simp only [Act.put, List.setIfInBounds_toArray, List.set_cons_zero, List.set_cons_succ]
      refine Last.take_ (i := 9) (N := some 49) (v := .agg #[.int .i64 k.op, .string k.key, .string k.val, .slice A4 n4 c4]) #[true, true, true, true, true, true, true, true, true, true, false, false] (by simp only [List.getElem?_toArray, List.getElem?_cons_zero, List.getElem?_cons_succ]; rfl) rfl (by kernel_rfl) (by exact fun _ _ _ h => h) (Or.inl ⟨by rfl, fun W hW => by first | rfl | (try dsimp only at hW); go_simp⟩) hS rfl ?_
      simp only [Act.put, List.setIfInBounds_toArray, List.set_cons_zero, List.set_cons_succ]
      refine Last.one_ (i := 10) (N := some 50) #[true, true, true, true, true, true, true, true, true, true, true, false] (by simp only [List.getElem?_toArray, List.getElem?_cons_zero, List.getElem?_cons_succ]; rfl) rfl (by kernel_rfl) (by decide) (fun K hK => ?_)
      refine Last.goes_ Try.func61 (by kernel_rfl) rfl #[.agg #[.int .i64 k.op, .string k.key, .string k.val, .slice A3 n3 c3], .agg #[.int .i64 k.op, .string k.key, .string k.val, .slice A4 n4 c4]] (by rfl) rfl rfl (by simp [Act.eval]) ?_
      refine (HIH.out m2 hnm k _ okA okB (.slice A3 n3 c3) (.slice A4 n4 c4) (HKA.out.ext0 (Ext.refl _ _).drew) (HKB.out.ext0 (Ext.refl _ _).drew) hkok).mono ?_
      rintro e w6 ⟨rfl, he⟩
      have E6 := Lib.hid he
      clear he
      refine ⟨_, rfl, hK.out _ _ ⟨E6.out.cell x3 (fun h => h), E6.out.cell y3 (fun h => h), E6.out.cell a0 (fun h => h), E6.out.cell a1 (fun h => h), E6.out.cell a2 (fun h => h), E6.out.cell a3 (fun h => h), E6.out.cell b0 (fun h => h), E6.out.cell b1 (fun h => h), E6.out.cell b2 (fun h => h), E6.out.cell b3 (fun h => h)⟩ (fun hS => ?_)⟩
      try simp only [Act.put, List.setIfInBounds_toArray, List.set_cons_zero, List.set_cons_succ]
      refine Last.take_ (i := 11) (N := some 51) (v := .bool false) #[true, true, true, true, true, true, true, true, true, true, true, true] (by simp only [List.getElem?_toArray, List.getElem?_cons_zero, List.getElem?_cons_succ]; rfl) rfl (by kernel_rfl) (by exact fun _ _ _ h => h) (Or.inl ⟨by rfl, fun W hW => by first | rfl | (try dsimp only at hW); go_simp⟩) hS rfl ?_
      simp only [Act.put, List.setIfInBounds_toArray, List.set_cons_zero, List.set_cons_succ]
      refine Last.done_ (by kernel_rfl) ?_
      have HE6 := Lib.hid (HE.out.drew.trans0 E6.out)
      go_wp2_with fail
      go_roundw
      case rel => exact ⟨j + 1, by go_num, by omega, HE6.out⟩
      case measure => simp [intOf]; omega
    · obtain rfl : j = len2 := by omega
      go_wp2_with fail
      go_ret
      exact ⟨rfl, E0.out.trans0 HE.out⟩
theorem same_at : ∀ n, SameAt n := by
  intro n
  induction n with
  | zero => exact same_step 0 (fun m h => by omega)
  | succ n ih => exact same_step (n + 1) (fun m h => by cases h; exact ih)
theorem Same_calls {n m : Nat} {f : Flt} {w : World} {okA okB : Nat → Prop} {x y : Value} (hx : FV n w okA x f) (hy : FV m w okB y f) (hok : okL (n + 1) f) : Calls Try.prog 61 #[x, y] w (SamePost w) := by
  obtain ⟨v, rfl, hr⟩ := hx.up (Nat.le_max_left n m)
  obtain ⟨v', rfl, hr'⟩ := hy.up (Nat.le_max_right n m)
  exact same_at (max n m) f w okA okB v v' hr hr' (okL_le (by have := Nat.le_max_left n m; omega) hok)
end Go.Proofs.Ytdjfijdnhfmeeaa

namespace Go.Proofs.Ytdjfijdnhfmeeaa
open Go.RowKit Go.TM
theorem results_cell_row2 {P : Program} {fn : Func} {p u : Tmp} {ty : TypeId} (h : fn.results = #[.cell p ty, .tmp u]) (tmps : Array Value) (w : World) (g : Nat) (t : TypeId) (cs : Array Value) (fr : Nat × Nat) (d : TypeDesc)
    (hp : tmps.getD p undef = .pointer (some ⟨g, 0, none⟩)) (hg : w.heap[g]? = some (.cells cs t fr))
    (hu : P.underlying ty = some d) (hd : (match d with | .struct _ | .array _ _ => true | _ => false) = true) (hi : (P.info? ty).map (·.size) = some cs.size) :
    (results fn tmps).run P w = .ok (.tuple #[.agg cs, tmps.getD u undef]) w := by
  have hp' : tmps[p]?.getD undef = .pointer (some ⟨g, 0, none⟩) := by simpa using hp
  simp [results, h, hp', asAddr, run_loadVar_row w g t ty cs fr d hg hu hd hi]
end Go.Proofs.Ytdjfijdnhfmeeaa

