/- The laws' examples; what frames are. -/
import Derived.Test.YtiapjdbeooonjaaDoorE1
import Derived.Lib.SlBytesConst
namespace Go.Proofs.YtiapjdbeooonjaaDoor
open Go.RowKit Go.TM

theorem frameB_length {p : List UInt8} : (frameB p).length = (numB p.length).length + p.length + 4 := by
  unfold frameB
  rw [List.length_append, List.length_append]
  rfl
theorem nextR_frame {p : List UInt8} (hp : p.length ≤ 32768) (r : List UInt8) : nextR (frameB p ++ r) = (p, (frameB p).length, 0) := by
  have hn : numR (frameB p ++ r) = (p.length, (numB p.length).length, 0) := by
    unfold frameB
    rw [List.append_assoc, List.append_assoc]
    exact numR_numB (by omega) _
  have hl : (frameB p ++ r).length = (numB p.length).length + p.length + 4 + r.length := by rw [List.length_append, frameB_length]
  have htake : (frameB p ++ r).take ((numB p.length).length + p.length) = numB p.length ++ p := by
    unfold frameB
    rw [List.append_assoc (numB p.length ++ p), List.take_left' (by rw [List.length_append])]
  have hdrop : ((frameB p ++ r).drop ((numB p.length).length + p.length)).take 4 = sum4 (Crc.sum (numB p.length ++ p)) := by
    unfold frameB
    rw [List.append_assoc (numB p.length ++ p), List.drop_left' (by rw [List.length_append])]
    exact List.take_left' rfl
  have hmid : ((frameB p ++ r).drop (numB p.length).length).take p.length = p := by
    unfold frameB
    rw [List.append_assoc, List.append_assoc, List.drop_left' rfl, List.take_left' rfl]
  unfold nextR
  rw [hn]
  simp only []
  rw [if_neg (by simp), if_neg (by omega), if_neg (by rw [hl]; omega), htake, hdrop, if_pos rfl, hmid, frameB_length]

theorem be_300 : be 300 = [1, 44] := by
  rw [be_pos (by omega), show (300 : Nat) / 256 = 1 from rfl, be_pos (m := 1) (by omega), show (1 : Nat) / 256 = 0 from rfl, be_zero]
  rfl
theorem nums_300 : ([] : List UInt8) ++ [300, 0].flatMap numI = [2, 1, 44, 0] := by
  unfold numI numB
  simp [be_300, be_zero]
theorem frame_a : (frameB [97]).length = 7 := by
  rw [frameB_length]
  unfold numB
  rw [List.length_cons]
  simp only [List.length_cons, List.length_nil]
  rw [be_pos (by omega), show (0 + 1 : Nat) / 256 = 0 from rfl, be_zero]
  rfl
theorem sum_9 : Crc.sum [49, 50, 51, 52, 53, 54, 55, 56, 57] = 379048042 := by kernel_rfl

theorem Rd.lits_fr {w : World} (ys : List UInt8) (cs : Array Value) (fr : Nat × Nat) (hcs : cs = (ys.map (fun y => Value.int .u8 y.toNat)).toArray) (hl : ys.length ≤ 9223372036854775807) : Rd Kd.u8 (w.alloc (.cells cs 5 fr)) (fun _ => True) (.slice (some ⟨w.heap.size, 0, none⟩) ys.length ys.length) ys := by
  subst hcs
  have hr : Reps Kd.u8 (w.alloc (.cells (ys.map (fun y => Value.int .u8 y.toNat)).toArray 5 fr)) (fun _ => True) ys (ys.map (fun y => Value.int .u8 y.toNat)) := by
    have := Reps.flat (sz := 1) (enc := fun n : UInt8 => [Value.int .u8 n.toNat]) (hl := fun _ => rfl) (h1 := by simp [Value.oneCell']) (w := (w.alloc (.cells (ys.map (fun y => Value.int .u8 y.toNat)).toArray 5 fr))) (ok := fun _ => True) ys
    rw [flat_map_u8] at this
    exact this
  exact Rd.of_inner hr trivial (by simp) (Nat.le_refl _) hl (fun j u hu => by rw [Nat.zero_add, cell_of_row _ _ j _ 5 fr (heap_alloc_new w _)]; simpa using hu)

theorem Rd.ints {w : World} (ys : List Int) (cs : Array Value) (hcs : cs = (ys.map (fun y => Value.int .i64 y)).toArray) (hl : ys.length ≤ 9223372036854775807) : Rd Kd.i64 (w.alloc (.cells cs 3)) (fun _ => True) (.slice (some ⟨w.heap.size, 0, none⟩) ys.length ys.length) ys := by
  subst hcs
  have e : ∀ ys : List Int, ys.flatMap (fun n : Int => [Value.int .i64 n]) = ys.map (fun y => Value.int .i64 y) := by
    intro ys
    induction ys with
    | nil => rfl
    | cons y t ih => rw [List.flatMap_cons, ih, List.map_cons]; rfl
  have hr : Reps Kd.i64 (w.alloc (.cells (ys.map (fun y => Value.int .i64 y)).toArray 3)) (fun _ => True) ys (ys.map (fun y => Value.int .i64 y)) := by
    have := Reps.flat (sz := 1) (enc := fun n : Int => [Value.int .i64 n]) (hl := fun _ => rfl) (h1 := by simp [Value.oneCell']) (w := (w.alloc (.cells (ys.map (fun y => Value.int .i64 y)).toArray 3))) (ok := fun _ => True) ys
    rw [e] at this
    exact this
  exact Rd.of_inner hr trivial (by simp) (Nat.le_refl _) hl (fun j u hu => by rw [Nat.zero_add, cell_of_row _ _ j _ 3 (0, 0) (heap_alloc_new w _)]; simpa using hu)

set_option maxHeartbeats 1000000 in
theorem awake_calls {w : World} (HL : Laid w) : Calls Tryd.prog 15 #[] w fun e w' => e = .returned (.bool true) ∧ Ext Non w w' := by
  have HT := Lib.hid HL
  clear HL
  have kc := fun (w : World) (C : Array Value) (n c : Nat) => Lib.run_convert_bytes_const (P := Tryd.prog) w 22 5 C n c Tryd.underlying22 Tryd.underlying5
  have KC := Lib.hid kc
  go_enter Tryd.func15, Tryd.ntmps15
  go_wp2_with fail
  have hP : Rd Kd.u8 (w.alloc (.cells #[.int .u8 97] 5 (1, 2))) (fun _ => True) (.slice (some ⟨w.heap.size, 0, none⟩) 1 1) [97] := Rd.lits_fr [97] _ _ rfl (by simp)
  refine (Frame_fits hP (HT.out.ext ((Ext.refl Non w).alloc _)) (fun _ _ => trivial) (by simp)).mono ?_
  rintro e w1 ⟨v1, rfl, ho, he⟩
  obtain ⟨A1, N1, c1, rfl, hn1⟩ := (Own.abs8 ho)
  rw [frame_a] at hn1
  subst hn1
  have O1 := Lib.hid ho.rd
  have E1 : Hid (Ext Non w w1) := ((Ext.refl Non w).alloc _).trans0 he
  clear ho he hP
  go_wp2_with fail
  refine (Next_calls O1.out (by rw [frame_a]; omega) (HT.out.ext E1.out)).mono ?_
  have hnx : nextR (frameB [97]) = ([97], 7, 0) := by
    have := nextR_frame (p := [97]) (by simp) []
    rwa [List.append_nil, frame_a] at this
  rw [hnx]
  rintro e w2 ⟨v2, rfl, ho, he⟩
  obtain ⟨A2, N2, c2, rfl, hn2⟩ := (Own.abs8 ho)
  have O2 := Lib.hid ho.rd
  have E2 : Hid (Ext Non w w2) := E1.out.trans0 he
  clear ho he hnx hn2
  go_wp2_with fail
  refine (Numbers_calls (w := w2.alloc (.cells #[.int .i64 300, .int .i64 0] 3)) (ok := fun _ => True) (A := none) (c := 0) (bs := []) (ns := [300, 0]) (d := 2) (Rd.nil _ _ _) (Rd.ints [300, 0] _ rfl (by simp)) (by simp) (by simp) (fun _ _ => trivial)).mono ?_
  rw [nums_300]
  rintro e w3 ⟨v3, rfl, ho, he⟩
  obtain ⟨A3, N3, c3, rfl, hn3⟩ := (Rd.abs8 ho)
  have cv := conv_rd ho
  have O3 := Lib.hid (O2.out.ext0 (((Ext.refl Non w2).alloc _).trans0 he))
  have E3 : Hid (Ext Non w w3) := (E2.out.alloc _).trans0 he
  clear ho he hn3
  go_wp2_with fail
  refine (Sum_at (Rd.lits_fr [49, 50, 51, 52, 53, 54, 55, 56, 57] _ (9, 10) rfl (by simp)) (HT.out.ext (E3.out.alloc _))).mono ?_
  rw [sum_9]
  rintro e w4 ⟨rfl, rfl⟩
  have cv2 := conv_rd (O3.out.ext0 ((Ext.refl Non w3).alloc (.cells #[.int .u8 49, .int .u8 50, .int .u8 51, .int .u8 52, .int .u8 53, .int .u8 54, .int .u8 55, .int .u8 56, .int .u8 57] 5 (9, 10))))
  go_wp2_with fail
  go_ret
  exact ⟨rfl, E3.out.alloc _⟩
end Go.Proofs.YtiapjdbeooonjaaDoor
