/- Sessions: Delete, Close. -/
import Derived.Test.YtiebnjkjgobklaaS3
namespace Go.Proofs.Ytiebnjkjgobklaa
open Go.RowKit Go.TM

def DelPost (ok : Nat → Prop) (base g c : Nat) (ys : List Seat) (w : World) (e : Ending) (w' : World) : Prop :=
  e = .returned (.slice (some ⟨g, 0, none⟩) ys.length c) ∧ (∃ cur, Blk 4 Seat.cells 47 w' base ok g c ys cur) ∧ Ext (Only g) w w'

theorem info47' : ∃ i, Try.prog.info? 47 = some i ∧ i.size = 4 := by
  obtain ⟨i, hi, hz⟩ := Option.map_eq_some_iff.1 info47
  simp only [Prod.mk.injEq] at hz
  exact ⟨i, hi, hz.2.1⟩

theorem cells_drop {xs : List Seat} {cur : Array Value} (ht : cur.toList.take (xs.length * 4) = xs.flatMap Seat.cells) (k : Nat) (hk : k ≤ xs.length) :
    ∀ j u, ((xs.drop k).flatMap Seat.cells)[j]? = some u → cur[k * 4 + j]? = some u := by
  intro j u hu
  have h1 : (xs.flatMap Seat.cells).drop (k * 4) = (xs.drop k).flatMap Seat.cells := by
    conv => lhs; rw [← List.take_append_drop k xs, List.flatMap_append]
    rw [List.drop_append, List.drop_eq_nil_of_le (by rw [flatMap_length Seat.cells 4 (fun _ => rfl), List.length_take]; omega), List.nil_append, flatMap_length Seat.cells 4 (fun _ => rfl), List.length_take, Nat.min_eq_left hk, Nat.sub_self, List.drop_zero]
  have hl : j < ((xs.drop k).flatMap Seat.cells).length := (List.getElem?_eq_some_iff.1 hu).1
  rw [flatMap_length Seat.cells 4 (fun _ => rfl), List.length_drop] at hl
  rw [← h1, ← ht, List.getElem?_drop, List.getElem?_take_of_lt (by omega)] at hu
  simpa using hu

theorem take_drop_cells {xs : List Seat} {cur : Array Value} {c : Nat} (ht : cur.toList.take (xs.length * 4) = xs.flatMap Seat.cells) (hs : cur.size = c * 4) (hc : xs.length ≤ c) (k : Nat) (hk : k < xs.length) :
    ∃ cur2, cur2 = (cur.toList.take (k * 4) ++ (xs.drop (k + 1)).flatMap Seat.cells ++ cur.toList.drop (k * 4 + ((xs.drop (k + 1)).flatMap Seat.cells).length)).toArray ∧
    cur2.size = c * 4 ∧ ∀ m, m ≤ (xs.length - 1) * 4 → cur2.toList.take m = ((xs.eraseIdx k).flatMap Seat.cells).take m := by
  have hl : ((xs.drop (k + 1)).flatMap Seat.cells).length = (xs.length - (k + 1)) * 4 := by rw [flatMap_length Seat.cells 4 (fun _ => rfl), List.length_drop]
  have h1 : cur.toList.take (k * 4) = (xs.take k).flatMap Seat.cells := by
    have : cur.toList.take (k * 4) = (cur.toList.take (xs.length * 4)).take (k * 4) := by rw [List.take_take, Nat.min_eq_left (by omega)]
    rw [this, ht]
    conv => lhs; rw [← List.take_append_drop k xs, List.flatMap_append]
    rw [List.take_append_of_le_length (by rw [flatMap_length Seat.cells 4 (fun _ => rfl), List.length_take]; omega), List.take_of_length_le (by rw [flatMap_length Seat.cells 4 (fun _ => rfl), List.length_take]; omega)]
  refine ⟨_, rfl, ?_, fun m hm => ?_⟩
  · simp only [List.size_toArray, List.length_append, List.length_take, List.length_drop, Array.length_toList, hl, hs]
    omega
  · simp only []
    rw [h1, ← List.flatMap_append, List.eraseIdx_eq_take_drop_succ, List.take_append_of_le_length]
    rw [flatMap_length Seat.cells 4 (fun _ => rfl), List.length_append, List.length_take, List.length_drop]
    omega

theorem clear_one (w : World) (g o c' : Nat) (cur : Array Value) (hb : w.heap[g]? = some (.cells cur 47 (0, 0))) (ho : o + 4 ≤ cur.size) :
    ∃ w' cur', (Builtin.clear_ #[38] 0 #[.slice (some ⟨g, o, none⟩) 1 c']).run Try.prog w = .ok (.tuple #[]) w' ∧ w'.heap[g]? = some (.cells cur' 47 (0, 0)) ∧ cur'.size = cur.size ∧ (∀ j, j < o → cur'[j]? = cur[j]?) ∧ Ext (Only g) w w' := by
  obtain ⟨i, hi, hzz⟩ := Option.map_eq_some_iff.1 info47
  simp only [Prod.mk.injEq] at hzz
  obtain ⟨hz0, hz1, hz2⟩ := hzz
  have hst := run_storeCells_at Try.prog g o 47 [.int .i64 0, .int .i64 0, .int .i64 0, .int .i64 0] 0 cur w hb (by simpa using ho) (by simp [Value.oneCell'])
  simp only [Nat.add_zero] at hst
  have hz : (Builtin.zeroCells (#[.int .i64 0, .int .i64 0, .int .i64 0, .int .i64 0]) 1).toList = [Value.int .i64 0, .int .i64 0, .int .i64 0, .int .i64 0] := by
    simp [Builtin.zeroCells, List.range, List.range.loop]
  refine ⟨w.setRow g _, _, ?_, setRow_heap w g cur (cur.toList.take o ++ [Value.int .i64 0, Value.int .i64 0, Value.int .i64 0, Value.int .i64 0] ++ cur.toList.drop (o + 4)).toArray 47 (0, 0) hb, ?_, ?_, ?_⟩
  rotate_left
  · simp
    omega
  · intro j hj
    simp [List.getElem?_append, hj]
    omega
  · exact ⟨rfl, rfl, rfl, by simp, fun i _ hi => setRow_other w g i _ hi⟩
  · have hu := run_underlying (P := Try.prog) Try.underlying38
    simp only [Builtin.clear_]
    simp [hu, zeroValue, typeInfo, hi, hz0, Value.cells, hz, hst]

set_option maxHeartbeats 1000000 in
theorem Delete_calls {w : World} {ok : Nat → Prop} {base g c : Nat} {xs : List Seat} {cur : Array Value} (hb : Blk 4 Seat.cells 47 w base ok g c xs cur) (k : Nat) (hk : k < xs.length) :
    Calls Try.prog 39 #[.slice (some ⟨g, 0, none⟩) xs.length c, .int .i64 (k : Int), .int .i64 ((k : Int) + 1)] w (DelPost ok base g c (xs.eraseIdx k) w) := by
  have hc := hb.len
  have hm := hb.cap
  unfold maxLen at hm
  have HB := Lib.hid hb
  have hk1 : ((k : Int) == (k : Int) + 1) = false := by rw [beq_eq_false_iff_ne]; omega
  obtain ⟨i0, hi, hisz⟩ := info47'
  have hl : ((xs.drop (k + 1)).flatMap Seat.cells).length = (xs.length - (k + 1)) * 4 := by rw [flatMap_length Seat.cells 4 (fun _ => rfl), List.length_drop]
  have hone : ∀ u ∈ (xs.drop (k + 1)).flatMap Seat.cells, u.oneCell' = true := by
    intro u hu
    obtain ⟨x, _, hx⟩ := List.mem_flatMap.1 hu
    simp only [Seat.cells, List.mem_cons, List.not_mem_nil, or_false] at hx
    rcases hx with rfl | rfl | rfl | rfl <;> rfl
  have hrun : ∀ (A : Option Addr) (c' : Nat), (c = k + 1 ∨ A = some ⟨g, (k + 1) * 4, none⟩) → (∃ a, A = some a) →
      (Builtin.append_ #[38, 38] 38 #[.slice (some ⟨g, 0, none⟩) k c, .slice A (xs.length - (k + 1)) c']).run Try.prog w.drew =
        .ok (.slice (some ⟨g, 0, none⟩) (k + (xs.length - (k + 1))) c) (w.drew.setRow g (cur.toList.take (k * 4) ++ (xs.drop (k + 1)).flatMap Seat.cells ++ cur.toList.drop (k * 4 + ((xs.drop (k + 1)).flatMap Seat.cells).length)).toArray) := by
    intro A c' hA hA'
    obtain ⟨a, rfl⟩ := hA'
    have hr := run_append_room (P := Try.prog) w.drew 38 38 47 i0 Try.underlying38 hi g k c cur hb.blk a (xs.length - (k + 1)) c' ((xs.drop (k + 1)).flatMap Seat.cells) (by rw [hisz, hl]) (fun j u hu => by
      have hlt : j < ((xs.drop (k + 1)).flatMap Seat.cells).length := (List.getElem?_eq_some_iff.1 hu).1
      rcases hA with hA | hA
      · rw [hl] at hlt
        omega
      · injection hA with hA
        subst hA
        have hadd : (⟨g, (k + 1) * 4, none⟩ : Addr).add j = ⟨g, (k + 1) * 4 + j, none⟩ := by unfold Addr.add; split <;> simp_all
        rw [hadd]
        exact (cell_of_row w.drew g _ cur 47 (0, 0) hb.blk).trans (cells_drop hb.take (k + 1) (by omega) j u hu)) hone (by omega) (by rw [hisz, hl, hb.size]; omega)
    rw [hisz] at hr
    exact hr
  obtain ⟨cur2, he, tk⟩ := take_drop_cells hb.take hb.size hb.len k hk
  rw [← he] at hrun
  have HR := Lib.hid hrun
  clear he
  have TK := Lib.hid tk
  clear hb hi hisz hl hone hrun tk
  have fin : ∀ (w2 w3 : World), Ext (Only g) w w2 → Ext (Only g) w2 w3 → (∃ cur3, w3.heap[g]? = some (.cells cur3 47 (0, 0)) ∧ cur3.size = c * 4 ∧ ∀ j, j < (xs.length - 1) * 4 → cur3[j]? = cur2[j]?) → DelPost ok base g c (xs.eraseIdx k) w (.returned (.slice (some ⟨g, 0, none⟩) (k + (xs.length - (k + 1))) c)) w3 := by
    intro w2 w3 h1 h2 ⟨cur3, h3, h4, h5⟩
    have hl : (xs.eraseIdx k).length = xs.length - 1 := List.length_eraseIdx_of_lt hk
    refine ⟨by rw [hl, show k + (xs.length - (k + 1)) = xs.length - 1 from by omega], ⟨cur3, HB.out.okg, HB.out.basele, h3, by omega, HB.out.cap, h4, ?_⟩, h1.trans h2 (fun _ _ h => h)⟩
    rw [hl]
    have h6 := TK.out.2 _ (Nat.le_refl _)
    rw [List.take_of_length_le (l := (xs.eraseIdx k).flatMap Seat.cells) (by rw [flatMap_length Seat.cells 4 (fun _ => rfl), hl]; exact Nat.le_refl _)] at h6
    rw [← h6]
    apply List.ext_getElem?
    intro j
    rw [List.getElem?_take, List.getElem?_take]
    split
    · rename_i hj
      have := h5 j hj
      simpa using this
    · rfl
  have FIN := Lib.hid fin
  clear fin
  have q1 : (k : Int) ≤ (c : Int) := by omega
  have q2 : (k : Int) + 1 ≤ (c : Int) := by omega
  have q3 : (k : Int) + 1 ≤ (xs.length : Int) := by omega
  have q4 : (0 : Int) ≤ (k : Int) + 1 := by omega
  go_enter Try.func39, Try.ntmps39
  go_wp2_with fail
  by_cases hck : c = k + 1
  · have HC := Lib.hid hck
    clear hck
    go_region_law (refine step_run_append (v := .slice (some ⟨g, 0, none⟩) k c) (vx := .slice (if c = k + 1 then some ⟨g, 0, none⟩ else some ⟨g, (k + 1) * 4, none⟩) (xs.length - (k + 1)) (c - (k + 1))) (by rfl) _ _ 38 38 (by rfl) (by simp [Act.eval, Act.put]) (by simp [Act.eval, Act.put]) (HR.out _ _ (.inl HC.out) (by split <;> exact ⟨_, rfl⟩)) ?_)
    all_goals
      have b2 := setRow_heap w.drew g cur cur2 47 (0, 0) HB.out.blk
      have E2 : Ext (Only g) w (w.drew.setRow g cur2) := ⟨rfl, rfl, rfl, by simp, fun i _ hi => setRow_other w.drew g i cur2 hi⟩
      generalize w.drew.setRow g cur2 = w2 at b2 E2 ⊢
      obtain ⟨w3, cur3, hclr, b3, s3, hj3, E3⟩ := clear_one w2 g ((xs.length - 1) * 4) (c - (xs.length - 1)) cur2 b2 (by rw [TK.out.1]; omega)
      have B3 := Lib.hid b3
      have S3 := Lib.hid s3
      have J3 := Lib.hid hj3
      have hE2 := Lib.hid E2
      have hE3 := Lib.hid E3
      have q5 : k + (xs.length - (k + 1)) = xs.length - 1 := by omega
      have q6 : ((xs.length - 1 : Nat) : Int) ≤ (xs.length : Int) := by omega
      have q7 : (xs.length : Int) ≤ (c : Int) := by omega
      have q8 : ¬ c = xs.length - 1 := by omega
      have q9 : xs.length - (xs.length - 1) = 1 := by omega
      clear b2 E2 b3 s3 hj3 E3
      go_wp2_with fail
      go_ret
      have := FIN.out w2 w3 hE2.out hE3.out ⟨cur3, B3.out, S3.out.trans TK.out.1, J3.out⟩
      rw [q5] at this
      obtain rfl := HC.out
      exact this
  · go_region_law (refine step_run_append (v := .slice (some ⟨g, 0, none⟩) k c) (vx := .slice (some ⟨g, (k + 1) * 4, none⟩) (xs.length - (k + 1)) (c - (k + 1))) (by rfl) _ _ 38 38 (by rfl) (by simp [Act.eval, Act.put]) (by simp [Act.eval, Act.put]) (HR.out _ _ (.inr rfl) ⟨_, rfl⟩) ?_)
    all_goals
      have b2 := setRow_heap w.drew g cur cur2 47 (0, 0) HB.out.blk
      have E2 : Ext (Only g) w (w.drew.setRow g cur2) := ⟨rfl, rfl, rfl, by simp, fun i _ hi => setRow_other w.drew g i cur2 hi⟩
      generalize w.drew.setRow g cur2 = w2 at b2 E2 ⊢
      obtain ⟨w3, cur3, hclr, b3, s3, hj3, E3⟩ := clear_one w2 g ((xs.length - 1) * 4) (c - (xs.length - 1)) cur2 b2 (by rw [TK.out.1]; omega)
      have B3 := Lib.hid b3
      have S3 := Lib.hid s3
      have J3 := Lib.hid hj3
      have hE2 := Lib.hid E2
      have hE3 := Lib.hid E3
      have q5 : k + (xs.length - (k + 1)) = xs.length - 1 := by omega
      have q6 : ((xs.length - 1 : Nat) : Int) ≤ (xs.length : Int) := by omega
      have q7 : (xs.length : Int) ≤ (c : Int) := by omega
      have q8 : ¬ c = xs.length - 1 := by omega
      have q9 : xs.length - (xs.length - 1) = 1 := by omega
      clear b2 E2 b3 s3 hj3 E3
      go_wp2_with fail
      go_ret
      have := FIN.out w2 w3 hE2.out hE3.out ⟨cur3, B3.out, S3.out.trans TK.out.1, J3.out⟩
      rw [q5] at this
      exact this

theorem Good.erase {l : List Seat} {last : Int} (h : Good l last) (k : Nat) : Good (l.eraseIdx k) last := by
  have hs := List.eraseIdx_sublist l k
  exact ⟨h.rising.sublist hs, fun s m => h.low s (hs.subset m), fun s m => h.high s (hs.subset m), h.last0, h.last1, Nat.le_trans hs.length_le h.few, fun s m => h.seq0 s (hs.subset m), fun s m => h.seq1 s (hs.subset m)⟩
theorem erase_filter {l : List Seat} {last : Int} (h : Good l last) {k : Nat} {s : Seat} (hs : l[k]? = some s) : l.eraseIdx k = l.filter (fun x => !(x.ses == s.ses)) := by
  have hk := (List.getElem?_eq_some_iff.1 hs).1
  rw [List.eraseIdx_eq_take_drop_succ]
  conv => rhs; rw [← List.take_append_drop k l, List.filter_append, List.drop_eq_getElem_cons hk]
  have e : l[k] = s := (List.getElem?_eq_some_iff.1 hs).2
  rw [List.filter_cons_of_neg (by simp [e])]
  rw [List.filter_eq_self.2, List.filter_eq_self.2]
  · intro x hx
    obtain ⟨j, hj⟩ := List.getElem?_of_mem hx
    rw [List.getElem?_drop] at hj
    have := h.lt hs hj (by omega)
    simp
    omega
  · intro x hx
    obtain ⟨j, hj⟩ := List.getElem?_of_mem hx
    have hjk : j < k := by
      have := (List.getElem?_eq_some_iff.1 hj).1
      rw [List.length_take] at this
      omega
    rw [List.getElem?_take_of_lt hjk] at hj
    have := h.lt hj hs hjk
    simp
    omega

theorem seat_own {w : World} {base : Nat} {ok : Nat → Prop} {g c : Nat} {xs : List Seat} {cur : Array Value} (h : Blk 4 Seat.cells 47 w base ok g c xs cur) : Own seatK 47 w base ok (.slice (some ⟨g, 0, none⟩) xs.length c) xs := Own.of_blk h

/-- A table behind Close, and its error. -/
def close (t : Tab) (n : Int) : Int × Tab := if t.seats.any (fun x => x.ses == n) then (0, ⟨t.seats.filter (fun x => !(x.ses == n)), t.last⟩) else (90, t)
def EPost (ok : Nat → Prop) (g : Nat) (r : Int × Tab) (w : World) (e : Ending) (w' : World) : Prop :=
  e = .returned (.int .i64 r.1) ∧ TabAt w' ok g r.2 ∧ Ext (Only g) w w'

theorem TabAt.ext {w w' : World} {ok : Nat → Prop} {g : Nat} {t : Tab} (h : TabAt w ok g t) (he : Ext Non w w') : TabAt w' ok g t := by
  obtain ⟨v, hb, hr⟩ := h
  exact ⟨v, he.obj hb (fun e => e), hr.ext0 he⟩

set_option maxHeartbeats 1000000 in
theorem Close_calls {w : World} {ok : Nat → Prop} {g : Nat} {t : Tab} (hT : TabAt w ok g t) (HG : Good t.seats t.last) (n : Int) (hn0 : -9223372036854775808 ≤ n) (hn : n ≤ 9223372036854775807) (hf : ∀ k, w.heap.size ≤ k → ok k) (hg : ¬ ok g) :
    Calls Try.prog 20 #[.pointer (some ⟨g, 0, none⟩), .int .i64 n] w (EPost ok g (close t n) w) := by
  by_cases hyes : ∃ s ∈ t.seats, s.ses = n
  · obtain ⟨s, hs, rfl⟩ := hyes
    obtain ⟨k, hk⟩ := List.getElem?_of_mem hs
    have hA : close t s.ses = (0, ⟨t.seats.eraseIdx k, t.last⟩) := by
      unfold close
      rw [if_pos (List.any_eq_true.2 ⟨s, hs, by simp⟩), erase_filter HG hk]
    rw [hA]
    clear hA hs
    have HT := Lib.hid hT
    obtain ⟨v, hb, hr⟩ := hT
    obtain ⟨A, c, rfl, hc, hm⟩ := hr.slice
    have hlt := (List.getElem?_eq_some_iff.1 hk).1
    have hfew := HG.few
    have HB := Lib.hid hb
    have HR := Lib.hid hr
    have HK := Lib.hid hk
    have HF := Lib.hid hf
    clear hb hr hk hf
    go_enter Try.func20, Try.ntmps20
    go_wp2_with fail
    refine (find_yes HT.out HG HK.out).mono ?_
    rintro e w1 ⟨rfl, he⟩
    have b1 := he.obj HB.out (fun e => e)
    have c0 := blk_cell b1 0
    simp at c0
    have R1 := Lib.hid (HR.out.ext0 he)
    have B1 := Lib.hid b1
    have E1 := Lib.hid he
    clear b1 he
    go_wp2_with fail
    refine (Clone_calls R1.out (fun i hi => HF.out i (Nat.le_trans E1.out.size hi)) (by omega)).mono ?_
    rintro e w2 ⟨v', rfl, h3, h4⟩
    have b2 := h4.obj B1.out (fun e => e)
    obtain ⟨A2, c2, rfl, hc2, hm2⟩ := h3.slice
    have hA2 : ∃ g2, A2 = some ⟨g2, 0, none⟩ := by
      obtain ⟨_, inner, ho, _⟩ := h3
      rcases ho.2 with ⟨h, _⟩ | ⟨g2, cap, cur, h, _⟩
      · simp at h
        omega
      · simp at h
        exact ⟨g2, h.1⟩
    obtain ⟨g2, rfl⟩ := hA2
    obtain ⟨_, cur, hblk⟩ := h3.to_blk
    have hne : g2 ≠ g := by
      have := hblk.basele
      have := blk_lt B1.out
      omega
    have BL := Lib.hid hblk
    have B2 := Lib.hid b2
    have E2 := Lib.hid (E1.out.trans0 h4)
    have k1 : (k : Int) + 1 ≤ 9223372036854775807 := by omega
    clear b2 h3 h4 hblk
    go_wp2_with fail
    refine (Delete_calls BL.out k hlt).mono ?_
    rintro e w3 ⟨rfl, ⟨cur3, h5⟩, h6⟩
    have b3 := h6.obj B2.out (fun e => hne e.symm)
    have y0 := blk_frozen b3 0
    have c3 := blk_cell b3 0
    simp at c3
    have B3 := Lib.hid b3
    have E3 := Lib.hid (E2.out.trans h6 (M := Non) (fun i hi e => by
      have := BL.out.basele
      have := E1.out.size
      omega))
    have BL3 := Lib.hid h5
    clear b3 h5 h6
    go_wp2_with fail
    go_ret
    refine ⟨rfl, ⟨_, (by simpa using blk_set B3.out 0 _), ?_⟩, ?_⟩
    · exact Rd.ext (w := w3) (seat_own BL3.out).rd ((Ext.refl (Only g) _).setCell (p := ⟨g, 0, none⟩) (fun _ => rfl) _) (fun k hk _ e => hg (e ▸ hk))
    · exact (E3.out.of0 (M := Only g)).setCell (p := ⟨g, 0, none⟩) (fun _ => rfl) _
  · have hno : ∀ s ∈ t.seats, s.ses ≠ n := fun s hs e => hyes ⟨s, hs, e⟩
    have hA : close t n = (90, t) := by
      unfold close
      rw [if_neg]
      rw [List.any_eq_true]
      rintro ⟨s, hs, e⟩
      exact hno s hs (by simpa using e)
    rw [hA]
    clear hA
    have HT := Lib.hid hT
    have HN := Lib.hid hno
    clear hno hT
    go_enter Try.func20, Try.ntmps20
    go_wp2_with fail
    refine (find_no HT.out HG hn0 hn HN.out).mono ?_
    rintro e w1 ⟨rfl, he⟩
    have E1 := Lib.hid he
    clear he
    go_wp2_with fail
    go_ret
    exact ⟨rfl, HT.out.ext E1.out, E1.out.of0⟩
end Go.Proofs.Ytiebnjkjgobklaa
