/- A call of a disk; what it tells; whether two tell the same. -/
import Derived.Test.YtpmncppfopbaaaaC1
namespace Go.Proofs.Ytpmncppfopbaaaa
open Go.RowKit Go.TM

theorem kind_eq (op : Int) : wrap64 ((IntKind.u64.wrap op).tmod 9) = (op % 18446744073709551616) % 9 := by
  have h : IntKind.u64.wrap op = op % 18446744073709551616 := by
    simp [IntKind.wrap, IntKind.signed, IntKind.bits]
  rw [h, Int.tmod_eq_emod_of_nonneg (by omega)]
  unfold wrap64
  omega
set_option maxHeartbeats 2000000 in
theorem does_calls {w : World} {ok okb : Nat → Prop} {g : Nat} {d : Dk} (L : Live w ok g d) (k : TM.Call) {A : Option Addr} {n c : Nat} (R : Rd Kd.u8 w okb (.slice A n c) k.b) (hbl : k.b.length ≤ 140737488355328) :
    Calls Try.prog 23 #[.pointer (some ⟨g, 0, none⟩), .agg #[.int .i64 k.op, .int .i64 k.i, .int .i64 k.keep, .int .i64 k.tear, .slice A n c]] w (DPost ok g (d.call k) w) := by
  have hq : wrap64 ((IntKind.u64.wrap k.op).tmod 9) = k.kind := kind_eq k.op
  have eA : Ext Non w (w.alloc (.cells #[.int .i64 k.op, .int .i64 k.i, .int .i64 k.keep, .int .i64 k.tear, .slice A n c] 43)) := (Ext.refl Non w).alloc _
  have H0 := Lib.hid eA
  have HL := Lib.hid (L.ext eA)
  have HRR := Lib.hid (R.ext0 eA)
  have HBL := Lib.hid hbl
  clear eA
  have hk : k.kind = 0 ∨ k.kind = 1 ∨ k.kind = 2 ∨ k.kind = 3 ∨ k.kind = 4 ∨ k.kind = 5 ∨ k.kind = 6 ∨ k.kind = 7 ∨ k.kind = 8 := by unfold TM.Call.kind; omega
  rcases hk with h | h | h | h | h | h | h | h | h
  · have hr : d.call k = d.append k.b := by unfold Dk.call; simp [h]
    rw [hr]
    rw [h] at hq
    clear h hr L R hbl
    go_enter Try.func23, Try.ntmps23
    go_wp2_with fail
    refine (Append_calls HL.out HRR.out HBL.out).mono ?_
    rintro e w1 ⟨rfl, h3, h4⟩
    have H3 := Lib.hid h3
    have H4 := Lib.hid h4
    clear h3 h4
    go_wp2_with fail
    go_ret
    exact ⟨rfl, H3.out, H0.out.of0.trans H4.out (fun _ _ h => h)⟩
  · have hr : d.call k = d.append k.b := by unfold Dk.call; simp [h]
    rw [hr]
    rw [h] at hq
    clear h hr L R hbl
    go_enter Try.func23, Try.ntmps23
    go_wp2_with fail
    refine (Append_calls HL.out HRR.out HBL.out).mono ?_
    rintro e w1 ⟨rfl, h3, h4⟩
    have H3 := Lib.hid h3
    have H4 := Lib.hid h4
    clear h3 h4
    go_wp2_with fail
    go_ret
    exact ⟨rfl, H3.out, H0.out.of0.trans H4.out (fun _ _ h => h)⟩
  · have hr : d.call k = d.slot k.i k.b := by unfold Dk.call; simp [h]
    rw [hr]
    rw [h] at hq
    clear h hr L R hbl
    go_enter Try.func23, Try.ntmps23
    go_wp2_with fail
    refine (Slot_calls HL.out k.i HRR.out HBL.out).mono ?_
    rintro e w1 ⟨rfl, h3, h4⟩
    have H3 := Lib.hid h3
    have H4 := Lib.hid h4
    clear h3 h4
    go_wp2_with fail
    go_ret
    exact ⟨rfl, H3.out, H0.out.of0.trans H4.out (fun _ _ h => h)⟩
  · have hr : d.call k = d.slot k.i k.b := by unfold Dk.call; simp [h]
    rw [hr]
    rw [h] at hq
    clear h hr L R hbl
    go_enter Try.func23, Try.ntmps23
    go_wp2_with fail
    refine (Slot_calls HL.out k.i HRR.out HBL.out).mono ?_
    rintro e w1 ⟨rfl, h3, h4⟩
    have H3 := Lib.hid h3
    have H4 := Lib.hid h4
    clear h3 h4
    go_wp2_with fail
    go_ret
    exact ⟨rfl, H3.out, H0.out.of0.trans H4.out (fun _ _ h => h)⟩
  · have hr : d.call k = d.clear := by unfold Dk.call; simp [h]
    rw [hr]
    rw [h] at hq
    clear h hr L R hbl
    go_enter Try.func23, Try.ntmps23
    go_wp2_with fail
    refine (Clear_calls HL.out).mono ?_
    rintro e w1 ⟨rfl, h3, h4⟩
    have H3 := Lib.hid h3
    have H4 := Lib.hid h4
    clear h3 h4
    go_wp2_with fail
    go_ret
    exact ⟨rfl, H3.out, H0.out.of0.trans H4.out (fun _ _ h => h)⟩
  · have hr : d.call k = d.sync := by unfold Dk.call; simp [h]
    rw [hr]
    rw [h] at hq
    clear h hr L R hbl
    go_enter Try.func23, Try.ntmps23
    go_wp2_with fail
    refine (Sync_calls HL.out).mono ?_
    rintro e w1 ⟨rfl, h3, h4⟩
    have H3 := Lib.hid h3
    have H4 := Lib.hid h4
    clear h3 h4
    go_wp2_with fail
    go_ret
    exact ⟨rfl, H3.out, H0.out.of0.trans H4.out (fun _ _ h => h)⟩
  · have hr : d.call k = d.crash k.keep k.tear := by unfold Dk.call; simp [h]
    rw [hr]
    rw [h] at hq
    clear h hr L R hbl
    go_enter Try.func23, Try.ntmps23
    go_wp2_with fail
    refine (crash_calls HL.out.at_ HL.out.good HL.out.fresh HL.out.out k.keep k.tear).mono ?_
    rintro e w1 ⟨rfl, h3, h4⟩
    have H3 := Lib.hid h3
    have H4 := Lib.hid h4
    clear h3 h4
    go_wp2_with fail
    go_ret
    exact ⟨rfl, H3.out, H0.out.of0.trans H4.out (fun _ _ h => h)⟩
  · have hr : d.call k = d.start := by unfold Dk.call; simp [h]
    rw [hr]
    rw [h] at hq
    clear h hr L R hbl
    go_enter Try.func23, Try.ntmps23
    go_wp2_with fail
    refine (Start_calls HL.out.at_ HL.out.out).mono ?_
    rintro e w1 ⟨rfl, h3, h4⟩
    have H3 := Lib.hid h3
    have H4 := Lib.hid h4
    clear h3 h4
    go_wp2_with fail
    go_ret
    exact ⟨rfl, H3.out, H0.out.of0.trans H4.out (fun _ _ h => h)⟩
  · have hr : d.call k = d.arm k.i k.keep k.tear := by unfold Dk.call; simp [h]
    rw [hr]
    rw [h] at hq
    clear h hr L R hbl
    go_enter Try.func23, Try.ntmps23
    go_wp2_with fail
    refine (Arm_calls HL.out.at_ HL.out.out k.i k.keep k.tear).mono ?_
    rintro e w1 ⟨rfl, h3, h4⟩
    have H3 := Lib.hid h3
    have H4 := Lib.hid h4
    clear h3 h4
    go_wp2_with fail
    go_ret
    exact ⟨rfl, H3.out, H0.out.of0.trans H4.out (fun _ _ h => h)⟩

theorem Live.next {w w' : World} {ok : Nat → Prop} {g : Nat} {d d' : Dk} (h : Live w ok g d) (hd : DiskAt w' ok g d') (he : Ext (Only g) w w') (hg : d'.Good) (hw : d'.wait.length ≤ 100000000) : Live w' ok g d' :=
  ⟨hd, hg, fun k hk => h.fresh k (Nat.le_trans he.size hk), h.out, hw⟩
def Plate.same (p q : Plate) : Bool := p.s0 == q.s0 && (p.s1 == q.s1 && p.tape == q.tape)
theorem same_calls {w : World} {ok okb : Nat → Prop} {A0 A1 A2 B0 B1 B2 : Option Addr} {n0 n1 n2 m0 m1 m2 c0 c1 c2 d0 d1 d2 : Nat} {p q : Plate}
    (H : PlateRd w ok (.slice A0 n0 c0) (.slice A1 n1 c1) (.slice A2 n2 c2) p) (K : PlateRd w okb (.slice B0 m0 d0) (.slice B1 m1 d1) (.slice B2 m2 d2) q) :
    Calls Try.prog 21 #[.agg #[.slice A0 n0 c0, .slice A1 n1 c1, .slice A2 n2 c2], .agg #[.slice B0 m0 d0, .slice B1 m1 d1, .slice B2 m2 d2]] w (fun e w' => e = .returned (.bool (Plate.same p q)) ∧ Ext Non w w') := by
  have eA : Ext Non w ((w.alloc (.cells #[.slice A0 n0 c0, .slice A1 n1 c1, .slice A2 n2 c2] 31)).alloc (.cells #[.slice B0 m0 d0, .slice B1 m1 d1, .slice B2 m2 d2] 31)) := ((Ext.refl Non w).alloc _).alloc _
  have EA := Lib.hid eA
  have R0 := Lib.hid (H.1.ext0 eA)
  have R1 := Lib.hid (H.2.1.ext0 eA)
  have R2 := Lib.hid (H.2.2.ext0 eA)
  have S0 := Lib.hid (K.1.ext0 eA)
  have S1 := Lib.hid (K.2.1.ext0 eA)
  have S2 := Lib.hid (K.2.2.ext0 eA)
  clear H K eA
  have hcase : ((p.s0 == q.s0) = false) ∨ ((p.s0 == q.s0) = true ∧ (p.s1 == q.s1) = false) ∨ ((p.s0 == q.s0) = true ∧ (p.s1 == q.s1) = true ∧ (p.tape == q.tape) = false) ∨ ((p.s0 == q.s0) = true ∧ (p.s1 == q.s1) = true ∧ (p.tape == q.tape) = true) := by
    cases p.s0 == q.s0 <;> cases p.s1 == q.s1 <;> cases p.tape == q.tape <;> simp
  rcases hcase with h0 | ⟨h0, h1⟩ | ⟨h0, h1, h2⟩ | ⟨h0, h1, h2⟩
  · have hr : Plate.same p q = false := by unfold Plate.same; rw [h0]; exact rfl
    rw [hr]
    have X0 := Lib.hid h0
    clear hr h0
    go_enter Try.func21, Try.ntmps21
    go_wp2_with fail
    refine (Equal_calls R0.out S0.out).mono ?_
    rintro e w1 ⟨rfl, rfl⟩
    rw [X0.out]
    go_wp2_with fail
    go_ret
    exact ⟨rfl, EA.out⟩
  · have hr : Plate.same p q = false := by unfold Plate.same; rw [h0, h1]; exact rfl
    rw [hr]
    have X0 := Lib.hid h0
    have X1 := Lib.hid h1
    clear hr h0 h1
    go_enter Try.func21, Try.ntmps21
    go_wp2_with fail
    refine (Equal_calls R0.out S0.out).mono ?_
    rintro e w1 ⟨rfl, rfl⟩
    rw [X0.out]
    go_wp2_with fail
    refine (Equal_calls R1.out S1.out).mono ?_
    rintro e w1 ⟨rfl, rfl⟩
    rw [X1.out]
    go_wp2_with fail
    go_ret
    exact ⟨rfl, EA.out⟩
  · have hr : Plate.same p q = false := by unfold Plate.same; rw [h0, h1, h2]; exact rfl
    rw [hr]
    have X0 := Lib.hid h0
    have X1 := Lib.hid h1
    have X2 := Lib.hid h2
    clear hr h0 h1 h2
    go_enter Try.func21, Try.ntmps21
    go_wp2_with fail
    refine (Equal_calls R0.out S0.out).mono ?_
    rintro e w1 ⟨rfl, rfl⟩
    rw [X0.out]
    go_wp2_with fail
    refine (Equal_calls R1.out S1.out).mono ?_
    rintro e w1 ⟨rfl, rfl⟩
    rw [X1.out]
    go_wp2_with fail
    refine (Equal_calls R2.out S2.out).mono ?_
    rintro e w1 ⟨rfl, rfl⟩
    rw [X2.out]
    go_wp2_with fail
    go_ret
    exact ⟨rfl, EA.out⟩
  · have hr : Plate.same p q = true := by unfold Plate.same; rw [h0, h1, h2]; exact rfl
    rw [hr]
    have X0 := Lib.hid h0
    have X1 := Lib.hid h1
    have X2 := Lib.hid h2
    clear hr h0 h1 h2
    go_enter Try.func21, Try.ntmps21
    go_wp2_with fail
    refine (Equal_calls R0.out S0.out).mono ?_
    rintro e w1 ⟨rfl, rfl⟩
    rw [X0.out]
    go_wp2_with fail
    refine (Equal_calls R1.out S1.out).mono ?_
    rintro e w1 ⟨rfl, rfl⟩
    rw [X1.out]
    go_wp2_with fail
    refine (Equal_calls R2.out S2.out).mono ?_
    rintro e w1 ⟨rfl, rfl⟩
    rw [X2.out]
    go_wp2_with fail
    go_ret
    exact ⟨rfl, EA.out⟩

def _root_.Go.TM.Dk.face (d : Dk) : Plate × Bool := if d.able = 0 then (d.now, true) else (Plate.nil, false)
def FacePost (r : Plate × Bool) (w : World) (e : Ending) (w' : World) : Prop :=
  ∃ A0 n0 c0 A1 n1 c1 A2 n2 c2, e = .returned (.tuple #[.agg #[.slice A0 n0 c0, .slice A1 n1 c1, .slice A2 n2 c2], .bool r.2]) ∧ Hid (PlateRd w' (Fresh w w') (.slice A0 n0 c0) (.slice A1 n1 c1) (.slice A2 n2 c2) r.1) ∧ Hid (Ext Non w w')
set_option maxHeartbeats 1000000 in
theorem face_calls {w : World} {ok : Nat → Prop} {g : Nat} {d : Dk} (H : DiskAt w ok g d) (hG : d.able = 0 → d.Good) :
    Calls Try.prog 18 #[.pointer (some ⟨g, 0, none⟩)] w (FacePost d.face w) := by
  have HGG := Lib.hid hG
  have eA : Ext Non w (w.alloc (.cells #[.slice none 0 0, .slice none 0 0, .slice none 0 0] 31)) := (Ext.refl Non w).alloc _
  have EA := Lib.hid eA
  have HA := Lib.hid (H.ext eA)
  have BA := Lib.hid (heap_alloc_new w (.cells #[.slice none 0 0, .slice none 0 0, .slice none 0 0] 31))
  obtain ⟨WA, hWA⟩ : ∃ WA, w.alloc (.cells #[.slice none 0 0, .slice none 0 0, .slice none 0 0] 31) = WA := ⟨_, rfl⟩
  have hsz : WA.heap.size = w.heap.size + 1 := by rw [← hWA]; simp
  rw [hWA] at EA HA BA
  have HZ := Lib.hid hsz
  have HWA := Lib.hid hWA
  clear H hG eA hWA hsz
  have hcase : ∃ (p : Plate) (b : Bool) (A : Int), d.face = (p, b) ∧ d.look 0 = (p.s0, A) ∧ d.look 1 = (p.s1, A) ∧ d.tapeR = (p.tape, A) ∧ ((A = 0 ∧ b = true) ∨ ((A == 0) = false ∧ b = false)) := by
    rcases able_cases d with h0 | ⟨h0, A', hA, q, q2⟩
    · refine ⟨d.now, true, 0, ?_, ?_, ?_, ?_, .inl ⟨rfl, rfl⟩⟩
      · unfold Dk.face; rw [if_pos h0]
      · unfold Dk.look; rw [if_neg (by simp [h0]), if_neg (by omega)]; rfl
      · unfold Dk.look; rw [if_neg (by simp [h0]), if_neg (by omega)]; rfl
      · unfold Dk.tapeR; rw [if_neg (by simp [h0])]
    · refine ⟨Plate.nil, false, A', ?_, ?_, ?_, ?_, .inr ⟨q2, rfl⟩⟩
      · unfold Dk.face; rw [if_neg h0]
      · unfold Dk.look; rw [if_pos h0, hA]; rfl
      · unfold Dk.look; rw [if_pos h0, hA]; rfl
      · unfold Dk.tapeR; rw [if_pos h0, hA]; rfl
  obtain ⟨p, b, A, hf, hl0, hl1, ht, hb⟩ := hcase
  rw [hf]
  have HL0 := Lib.hid hl0
  have HL1 := Lib.hid hl1
  have HT := Lib.hid ht
  clear hf hl0 hl1 ht
  rcases hb with ⟨rfl, rfl⟩ | ⟨q, rfl⟩
  all_goals
    go_enter Try.func18, Try.ntmps18
    go_wp2_with fail
    rw [HWA.out]
    refine (Look_calls HA.out HGG.out 0).mono ?_
    rw [HL0.out]
    rintro e w1 ⟨A0, n0, c0, rfl, o0, e0⟩
    have HA1 := Lib.hid (HA.out.ext e0.out)
    go_wp2_with fail
    refine (Look_calls HA1.out HGG.out 1).mono ?_
    rw [HL1.out]
    rintro e w2 ⟨A1, n1, c1, rfl, o1, e1⟩
    have HA2 := Lib.hid (HA1.out.ext e1.out)
    go_wp2_with fail
    refine (Tape_calls HA2.out HGG.out).mono ?_
    rw [HT.out]
    rintro e w3 ⟨A2, n2, c2, rfl, o2, e2⟩
    have b3 := e2.out.obj (e1.out.obj (e0.out.obj BA.out (fun e => e)) (fun e => e)) (fun e => e)
    have B3 := Lib.hid b3
    have f0 := blk_cell b3 0
    have f1 := blk_cell b3 1
    have f2 := blk_cell b3 2
    simp at f0 f1 f2
    have y0 := blk_frozen b3 0
    have y1 := blk_frozen b3 1
    have y2 := blk_frozen b3 2
    have E3 := Lib.hid (((EA.out.trans0 e0.out).trans0 e1.out).trans0 e2.out)
    have hz := HZ.out
    have z0 := e0.out.size
    have z1 := e1.out.size
    have z2 := e2.out.size
    have hlt : w.heap.size < w3.heap.size := by omega
    have R0 := Lib.hid ((((o0.out.rd.ext0 e1.out).ext0 e2.out)).mono (ok' := fun k => w.heap.size < k ∧ k < w3.heap.size) (fun k hk => by have h1 : WA.heap.size ≤ k := hk.1; have h2 : k < w1.heap.size := hk.2; exact ⟨by omega, by omega⟩))
    have R1 := Lib.hid (((o1.out.rd.ext0 e2.out)).mono (ok' := fun k => w.heap.size < k ∧ k < w3.heap.size) (fun k hk => by have h1 : w1.heap.size ≤ k := hk.1; have h2 : k < w2.heap.size := hk.2; exact ⟨by omega, by omega⟩))
    have R2 := Lib.hid (o2.out.rd.mono (ok' := fun k => w.heap.size < k ∧ k < w3.heap.size) (fun k hk => by have h1 : w2.heap.size ≤ k := hk.1; have h2 : k < w3.heap.size := hk.2; exact ⟨by omega, by omega⟩))
    have EF : Hid (Ext (Only w.heap.size) w3 (((w3.setCell ⟨w.heap.size, 0, none⟩ (.slice A0 n0 c0)).setCell ⟨w.heap.size, 1, none⟩ (.slice A1 n1 c1)).setCell ⟨w.heap.size, 2, none⟩ (.slice A2 n2 c2))) := (((Ext.refl _ w3).og 0 _).og 1 _).og 2 _
    clear b3 o0 o1 o2 e0 e1 e2 z0 z1 z2 hz
    go_wp2_with fail
    have hblk : (((w3.setCell ⟨w.heap.size, 0, none⟩ (.slice A0 n0 c0)).setCell ⟨w.heap.size, 1, none⟩ (.slice A1 n1 c1)).setCell ⟨w.heap.size, 2, none⟩ (.slice A2 n2 c2)).heap[w.heap.size]? = some (.cells #[.slice A0 n0 c0, .slice A1 n1 c1, .slice A2 n2 c2] 31 (0, 0)) := by
      have h := blk_set (blk_set (blk_set B3.out 0 (.slice A0 n0 c0)) 1 (.slice A1 n1 c1)) 2 (.slice A2 n2 c2)
      simpa using h
    have hc0 := blk_cell hblk 0
    have hc1 := blk_cell hblk 1
    have hc2 := blk_cell hblk 2
    simp at hc0 hc1 hc2
    refine bodyPost_ret (v := .tuple #[.agg #[.slice A0 n0 c0, .slice A1 n1 c1, .slice A2 n2 c2], .bool _]) (by simp [results, Try.results18, go_sem, hc0, hc1, hc2]; rfl) rfl ?_
    refine ⟨_, _, _, _, _, _, _, _, _, rfl, ?_, (E3.out.setNew (Nat.le_refl _) _).setNew (Nat.le_refl _) _ |>.setNew (Nat.le_refl _) _⟩
    have hm : ∀ k, (w.heap.size < k ∧ k < w3.heap.size) → k < w3.heap.size → ¬ Only w.heap.size k := fun k hk _ e => by
      have e' : k = w.heap.size := e
      omega
    have hfr : ∀ k, (w.heap.size < k ∧ k < w3.heap.size) → Fresh w (((w3.setCell ⟨w.heap.size, 0, none⟩ (.slice A0 n0 c0)).setCell ⟨w.heap.size, 1, none⟩ (.slice A1 n1 c1)).setCell ⟨w.heap.size, 2, none⟩ (.slice A2 n2 c2)) k := fun k hk => ⟨by omega, Nat.lt_of_lt_of_le hk.2 EF.out.size⟩
    exact ⟨(R0.out.ext EF.out hm).mono hfr, (R1.out.ext EF.out hm).mono hfr, (R2.out.ext EF.out hm).mono hfr⟩
end Go.Proofs.Ytpmncppfopbaaaa
