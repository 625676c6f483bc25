/- Look, Tape, New, Clone; bytes.Equal. -/
import Derived.Test.YtpmncppfopbaaaaB9
import Derived.Laws.IdiomStrings
import Derived.Laws.BytesArg
namespace Go.Proofs.Ytpmncppfopbaaaa
open Go.RowKit Go.TM

def _root_.Go.TM.Dk.look (d : Dk) (i : Int) : List UInt8 × Int := if d.able ≠ 0 then ([], d.able) else if i < 0 ∨ 1 < i then ([], 31) else (d.now.slot i, 0)
def _root_.Go.TM.Dk.tapeR (d : Dk) : List UInt8 × Int := if d.able ≠ 0 then ([], d.able) else (d.now.tape, 0)
abbrev Fresh (w w' : World) : Nat → Prop := fun k => w.heap.size ≤ k ∧ k < w'.heap.size
def LPost (r : List UInt8 × Int) (w : World) (e : Ending) (w' : World) : Prop :=
  ∃ A n c, e = .returned (.tuple #[.slice A n c, .int .i64 r.2]) ∧ Hid (Own Kd.u8 5 w' w.heap.size (Fresh w w') (.slice A n c) r.1) ∧ Hid (Ext Non w w')
set_option maxHeartbeats 1000000 in
theorem Look_calls {w : World} {ok : Nat → Prop} {g : Nat} {d : Dk} (H : DiskAt w ok g d) (hG : d.able = 0 → d.Good) (i : Int) :
    Calls Try.prog 29 #[.pointer (some ⟨g, 0, none⟩), .int .i64 i] w (LPost (d.look i) w) := by
  have HH := Lib.hid H
  rcases able_cases d with h0 | ⟨h0, A', hA, q, q2⟩
  · have HA := Lib.hid h0
    by_cases hi : i < 0 ∨ 1 < i
    · have hr : d.look i = ([], 31) := by unfold Dk.look; rw [if_neg (by simp [h0]), if_pos hi]
      rw [hr]
      clear H h0 hr hG
      rcases hi with hi | hi
      case' inr => have hi2 : 0 ≤ i := by omega
      all_goals
        go_enter Try.func29, Try.ntmps29
        go_wp2_with fail
        refine (able_calls HH.out).mono ?_
        rintro e w1 ⟨rfl, rfl⟩
        rw [HA.out]
        go_wp2_with fail
        go_ret2
        exact ⟨_, _, _, rfl, Own.nil _ _ _ _ _, Ext.refl _ _⟩
    · obtain ⟨A0, n0, c0, A1, n1, c1, A2, n2, c2, B0, m0, d0, B1, m1, d1, B2, m2, d2, Aw, nw, cw, hb, hp, -, -, -⟩ := H.open
      have hus := (hG h0).used
      have hroom := (hG h0).room
      have e0 : w.cell? ⟨g, 0, none⟩ = some (.slice A0 n0 c0) := blk_cell hb 0
      have e1 : w.cell? ⟨g, 1, none⟩ = some (.slice A1 n1 c1) := blk_cell hb 1
      have hu0 : d.now.s0.length ≤ 140737488355328 := by unfold Plate.used at hus; omega
      have hu1 : d.now.s1.length ≤ 140737488355328 := by unfold Plate.used at hus; omega
      have hr : d.look i = (d.now.slot i, 0) := by
        unfold Dk.look
        rw [if_neg (by simp [h0]), if_neg hi]
      rw [hr]
      have hgs := blk_lt hb
      rcases slot01 hi with rfl | rfl
      case' inl =>
        have RR : Hid (Rd Kd.u8 w ok (.slice A0 n0 c0) (d.now.slot 0)) := hp.1
        have HU : Hid ((d.now.slot 0).length ≤ 140737488355328) := hu0
      case' inr =>
        have RR : Hid (Rd Kd.u8 w ok (.slice A1 n1 c1) (d.now.slot 1)) := hp.2.1
        have HU : Hid ((d.now.slot 1).length ≤ 140737488355328) := hu1
      all_goals
        clear H h0 hr hG hb hp hus hroom hu0 hu1 hi
        go_enter Try.func29, Try.ntmps29
        go_wp2_with fail
        refine (able_calls HH.out).mono ?_
        rintro e w1 ⟨rfl, rfl⟩
        rw [HA.out]
        go_wp2_with fail
        refine (own_calls RR.out HU.out).mono ?_
        rintro e w2 ⟨A1', n1', c1', rfl, ho, he⟩
        go_wp2_with fail
        go_ret2
        exact ⟨_, _, _, rfl, ho, he⟩
  · have hr : d.look i = ([], A') := by unfold Dk.look; rw [if_pos h0, hA]
    rw [hr]
    have HA := Lib.hid hA
    clear H h0 hr hA hG
    go_enter Try.func29, Try.ntmps29
    go_wp2_with fail
    refine (able_calls HH.out).mono ?_
    rintro e w1 ⟨rfl, rfl⟩
    rw [HA.out]
    go_wp2_with fail
    go_ret2
    exact ⟨_, _, _, rfl, Own.nil _ _ _ _ _, Ext.refl _ _⟩
theorem Tape_calls {w : World} {ok : Nat → Prop} {g : Nat} {d : Dk} (H : DiskAt w ok g d) (hG : d.able = 0 → d.Good) :
    Calls Try.prog 20 #[.pointer (some ⟨g, 0, none⟩)] w (LPost d.tapeR w) := by
  have HH := Lib.hid H
  rcases able_cases d with h0 | ⟨h0, A', hA, q, q2⟩
  · have HA := Lib.hid h0
    obtain ⟨A0, n0, c0, A1, n1, c1, A2, n2, c2, B0, m0, d0, B1, m1, d1, B2, m2, d2, Aw, nw, cw, hb, hp, -, -, -⟩ := H.open
    have hus := (hG h0).used
    have hroom := (hG h0).room
    have e0 : w.cell? ⟨g, 2, none⟩ = some (.slice A2 n2 c2) := blk_cell hb 2
    have hu0 : d.now.tape.length ≤ 140737488355328 := by unfold Plate.used at hus; omega
    have hr : d.tapeR = (d.now.tape, 0) := by
      unfold Dk.tapeR
      rw [if_neg (by simp [h0])]
    rw [hr]
    have hgs := blk_lt hb
    have RR : Hid (Rd Kd.u8 w ok (.slice A2 n2 c2) d.now.tape) := hp.2.2
    have HU : Hid (d.now.tape.length ≤ 140737488355328) := hu0
    clear H h0 hr hG hb hp hus hroom hu0
    go_enter Try.func20, Try.ntmps20
    go_wp2_with fail
    refine (able_calls HH.out).mono ?_
    rintro e w1 ⟨rfl, rfl⟩
    rw [HA.out]
    go_wp2_with fail
    refine (own_calls RR.out HU.out).mono ?_
    rintro e w2 ⟨A1', n1', c1', rfl, ho, he⟩
    go_wp2_with fail
    go_ret2
    exact ⟨_, _, _, rfl, ho, he⟩
  · have hr : d.tapeR = ([], A') := by unfold Dk.tapeR; rw [if_pos h0, hA]
    rw [hr]
    have HA := Lib.hid hA
    clear H h0 hr hA hG
    go_enter Try.func20, Try.ntmps20
    go_wp2_with fail
    refine (able_calls HH.out).mono ?_
    rintro e w1 ⟨rfl, rfl⟩
    rw [HA.out]
    go_wp2_with fail
    go_ret2
    exact ⟨_, _, _, rfl, Own.nil _ _ _ _ _, Ext.refl _ _⟩
/-- A disk of one's own: its block is new, and what it leads to as well. -/
abbrev Mine (base g : Nat) : Nat → Prop := fun k => base ≤ k ∧ k ≠ g
theorem New_calls (w : World) (room : Int) (h1 : 1 ≤ room) (h2 : room ≤ 16777216) :
    Calls Try.prog 22 #[.int .i64 room] w fun e w' => e = .returned (.tuple #[.pointer (some ⟨w.heap.size, 0, none⟩), .int .i64 0]) ∧ Live w' (Mine w.heap.size w.heap.size) w.heap.size (Dk.new room) ∧ Ext Non w w' ∧ w.heap.size < w'.heap.size := by
  go_enter Try.func22, Try.ntmps22
  go_wp2_with fail
  go_ret2
  refine ⟨rfl, ⟨?_, Dk.Good.new h1 h2, fun k hk => ?_, fun h => h.2 rfl, by simp [Dk.new]⟩, (Ext.refl Non w).alloc _, by simp⟩
  · refine ⟨.slice none 0 0, .slice none 0 0, .slice none 0 0, .slice none 0 0, .slice none 0 0, .slice none 0 0, .slice none 0 0, ?_, Rd.nil _ _ _, Rd.nil _ _ _, Rd.nil _ _ _, Rd.nil _ _ _, Rd.nil _ _ _, Rd.nil _ _ _, Rd.nil _ _ _⟩
    exact heap_alloc_new w _
  · simp at hk
    exact ⟨by omega, by omega⟩
theorem DiskAt.same_block {w w' : World} {ok ok' : Nat → Prop} {g g' : Nat} {d : Dk} {cs : Array Value} (h : DiskAt w ok g d) (he : Ext Non w w') (h0 : w.heap[g]? = some (.cells cs 57 (0, 0))) (h1 : w'.heap[g']? = some (.cells cs 57 (0, 0))) (hok : ∀ k, ok k → k < w.heap.size → ok' k) : DiskAt w' ok' g' d := by
  obtain ⟨a0, a1, a2, b0, b1, b2, wv, hb, r0, r1, r2, r3, r4, r5, r6⟩ := h
  rw [hb] at h0
  simp at h0
  subst h0
  have hm : ∀ k, ok k ∧ k < w.heap.size → ok' k := fun k hk => hok k hk.1 hk.2
  exact ⟨a0, a1, a2, b0, b1, b2, wv, h1, (r0.bound.ext0 he).mono hm, (r1.bound.ext0 he).mono hm, (r2.bound.ext0 he).mono hm, (r3.bound.ext0 he).mono hm, (r4.bound.ext0 he).mono hm, (r5.bound.ext0 he).mono hm, (r6.bound.ext0 he).mono hm⟩
theorem DiskAt.sub {w : World} {ok ok' : Nat → Prop} {g : Nat} {d : Dk} (h : DiskAt w ok g d) (hok : ∀ k, ok k → k < w.heap.size → ok' k) : DiskAt w ok' g d := by
  obtain ⟨a0, a1, a2, b0, b1, b2, wv, hb, _⟩ := id h
  exact h.same_block (Ext.refl _ _) hb hb hok
theorem Clone_calls {w : World} {ok : Nat → Prop} {g : Nat} {d : Dk} (H : DiskAt w ok g d) :
    Calls Try.prog 30 #[.pointer (some ⟨g, 0, none⟩)] w fun e w' => e = .returned (.pointer (some ⟨w.heap.size, 0, none⟩)) ∧ DiskAt w' ok w.heap.size d ∧ Ext Non w w' ∧ w'.heap.size = w.heap.size + 1 := by
  have HH := Lib.hid H
  obtain ⟨a0, a1, a2, b0, b1, b2, wv, hb, r0, r1, r2, r3, r4, r5, r6⟩ := H
  obtain ⟨A0, n0, c0, rfl, -⟩ := rd_abs r0
  obtain ⟨A1, n1, c1, rfl, -⟩ := rd_abs r1
  obtain ⟨A2, n2, c2, rfl, -⟩ := rd_abs r2
  obtain ⟨B0, m0, d0, rfl, -⟩ := rd_abs r3
  obtain ⟨B1, m1, d1, rfl, -⟩ := rd_abs r4
  obtain ⟨B2, m2, d2, rfl, -⟩ := rd_abs r5
  obtain ⟨Aw, nw, cw, rfl, -⟩ := rd_abs r6
  have e0 := blk_cell hb 0
  have e1 := blk_cell hb 1
  have e2 := blk_cell hb 2
  have e3 := blk_cell hb 3
  have e4 := blk_cell hb 4
  have e5 := blk_cell hb 5
  have e6 := blk_cell hb 6
  have e7 := blk_cell hb 7
  have e8 := blk_cell hb 8
  have e9 := blk_cell hb 9
  have e10 := blk_cell hb 10
  have e11 := blk_cell hb 11
  simp at e0 e1 e2 e3 e4 e5 e6 e7 e8 e9 e10 e11
  have HB := Lib.hid hb
  clear r0 r1 r2 r3 r4 r5 r6 hb
  go_enter Try.func30, Try.ntmps30
  go_wp2_with fail
  go_ret
  refine ⟨rfl, HH.out.same_block ((Ext.refl Non w).alloc _) HB.out (heap_alloc_new w _) (fun k h _ => h), (Ext.refl Non w).alloc _, by simp⟩

theorem conv_rd {w : World} {ok : Nat → Prop} {A : Option Addr} {n c : Nat} {bs : List UInt8} (h : Rd Kd.u8 w ok (.slice A n c) bs) : (convert 30 9 (.slice A n c)).run Try.prog w = .ok (.string ⟨bs.toArray⟩) w := by
  obtain ⟨A', c', he, hc, hm, hr⟩ := h
  simp only [Value.slice.injEq] at he
  obtain ⟨rfl, rfl, rfl⟩ := he
  cases bs with
  | nil =>
    cases A with
    | none => exact run_convert_bytes_nil w 30 5 Try.underlying30 Try.underlying5 _ _ 9 Try.underlying9
    | some a => exact run_convert_bytes_back w 30 9 5 a _ [] Try.underlying30 Try.underlying5 Try.underlying9 (fun j hj => by simp at hj)
  | cons b bs =>
    obtain ⟨g, off, rfl, hg, hlt, hx⟩ := hr (by simp)
    refine run_convert_bytes_back w 30 9 5 _ _ (b :: bs) Try.underlying30 Try.underlying5 Try.underlying9 (fun j hj => ?_)
    obtain ⟨cs, hk, hcs⟩ := hx j _ (List.getElem?_eq_getElem hj)
    have hk' : cs = [Value.int .u8 ((b :: bs)[j]).toNat] := hk
    subst hk'
    have := hcs 0 _ rfl
    have hadd : (⟨g, off, none⟩ : Addr).add j = ⟨g, off + j, none⟩ := by unfold Addr.add; split <;> simp_all
    rw [hadd]
    simpa [Kd.u8, Kd.flat] using this
theorem Equal_calls {w : World} {ok ok2 : Nat → Prop} {A B : Option Addr} {n m c d : Nat} {xs ys : List UInt8} (H : Rd Kd.u8 w ok (.slice A n c) xs) (K : Rd Kd.u8 w ok2 (.slice B m d) ys) :
    Calls Try.prog 27 #[.slice A n c, .slice B m d] w fun e w' => e = .returned (.bool (xs == ys)) ∧ w = w' := by
  have c1 := conv_rd H
  have c2 := conv_rd K
  clear H K
  go_enter Try.func27, Try.ntmps27
  go_wp2_with fail
  go_ret
  exact ⟨rfl, rfl⟩
end Go.Proofs.Ytpmncppfopbaaaa
