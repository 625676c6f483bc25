/- The document's Next. -/
import Derived.Test.YtiapjdbeooonjaaDoorH0
import Derived.Test.YtiapjdbeooonjaaDoorF0
namespace Go.Proofs.YtiapjdbeooonjaaDoor
open Go.RowKit Go.TM

theorem NextR_bad {w : World} {ok : Nat → Prop} {A : Option Addr} {n c : Nat} {bs : List UInt8} (H : Rd Kd.u8 w ok (.slice A n c) bs) {m k : Nat} {e0 : Int} (hr : numR bs = (m, k, e0)) (he : e0 ≠ 0) :
    Calls Tryd.prog 36 #[.slice A n c] w (NextPost ([], 0, e0) w) := by
  have HH := Lib.hid H
  have hN : NumR bs = .tuple #[.int .i64 (m : Int), .int .i64 (k : Int), .int .i64 e0] := by unfold NumR; rw [hr]
  have HN := Lib.hid hN
  have q : (e0 != 0) = true := by simpa using he
  clear H hr he hN
  go_enter Tryd.func36, Tryd.ntmps36
  go_wp2_with fail
  refine (numberR_calls HH.out).mono ?_
  rw [HN.out]
  rintro e w1 ⟨rfl, rfl⟩
  go_wp2_with fail
  go_ret3
  exact ⟨_, rfl, Own.nil _ _ _ _ _, Ext.refl _ _⟩
theorem NextR_long {w : World} {ok : Nat → Prop} {A : Option Addr} {n c : Nat} {bs : List UInt8} (H : Rd Kd.u8 w ok (.slice A n c) bs) {m k : Nat} (hr : numR bs = (m, k, 0)) (hl : 32768 < m) :
    Calls Tryd.prog 36 #[.slice A n c] w (NextPost ([], 0, 4) w) := by
  have HH := Lib.hid H
  have hN : NumR bs = .tuple #[.int .i64 (m : Int), .int .i64 (k : Int), .int .i64 0] := by unfold NumR; rw [hr]
  have HN := Lib.hid hN
  have q : (32768 : Int) < (m : Int) := by omega
  clear H hr hN
  go_enter Tryd.func36, Tryd.ntmps36
  go_wp2_with fail
  refine (numberR_calls HH.out).mono ?_
  rw [HN.out]
  rintro e w1 ⟨rfl, rfl⟩
  go_wp2_with fail
  go_ret3
  exact ⟨_, rfl, Own.nil _ _ _ _ _, Ext.refl _ _⟩
theorem NextR_short {w : World} {ok : Nat → Prop} {A : Option Addr} {n c : Nat} {bs : List UInt8} (H : Rd Kd.u8 w ok (.slice A n c) bs) {m k : Nat} (hr : numR bs = (m, k, 0)) (hl : m ≤ 32768) (hs : bs.length - k < m + 4) :
    Calls Tryd.prog 36 #[.slice A n c] w (NextPost ([], 0, 2) w) := by
  obtain ⟨A', c', he, hc', hm⟩ := H.slice
  simp only [Value.slice.injEq] at he
  obtain ⟨rfl, rfl, rfl⟩ := he
  obtain ⟨hk0, hkl, _, hmm⟩ := numR_ok hr
  have HH := Lib.hid H
  have hN : NumR bs = .tuple #[.int .i64 (m : Int), .int .i64 (k : Int), .int .i64 0] := by unfold NumR; rw [hr]
  have HN := Lib.hid hN
  have q : ¬ (32768 : Int) < (m : Int) := by omega
  have q1 : (bs.length : Int) - (k : Int) < (m : Int) + 4 := by omega
  clear H hr hN
  go_enter Tryd.func36, Tryd.ntmps36
  go_wp2_with fail
  refine (numberR_calls HH.out).mono ?_
  rw [HN.out]
  rintro e w1 ⟨rfl, rfl⟩
  go_wp2_with fail
  go_ret3
  exact ⟨_, rfl, Own.nil _ _ _ _ _, Ext.refl _ _⟩

set_option maxHeartbeats 2000000 in
theorem NextR_full {w : World} {ok : Nat → Prop} {gs off : Nat} {c : Nat} {bs : List UInt8} (H : Rd Kd.u8 w ok (.slice (some ⟨gs, off, none⟩) bs.length c) bs) {m k : Nat} (hr : numR bs = (m, k, 0)) (hl : m ≤ 32768) (hs : m + 4 ≤ bs.length - k) :
    Calls Tryd.prog 36 #[.slice (some ⟨gs, off, none⟩) bs.length c] w (NextPost (nextR bs) w) := by
  obtain ⟨A', c', he, hc', hm⟩ := H.slice
  simp only [Value.slice.injEq] at he
  obtain ⟨rfl, _, rfl⟩ := he
  obtain ⟨hk0, hkl, hnum, hmm⟩ := numR_ok hr
  have HH := Lib.hid (Rd.any H)
  have hN : NumR bs = .tuple #[.int .i64 (m : Int), .int .i64 (k : Int), .int .i64 0] := by unfold NumR; rw [hr]
  have HN := Lib.hid hN
  have q : ¬ (32768 : Int) < (m : Int) := by omega
  have q1 : ¬ (bs.length : Int) - (k : Int) < (m : Int) + 4 := by omega
  have q2 : (0 : Int) ≤ (k : Int) := by omega
  have hck : ¬ c = k := by omega
  have hfit : k + m + 4 ≤ bs.length := by omega
  obtain ⟨p, hp⟩ : ∃ p, p = (bs.drop k).take m := ⟨_, rfl⟩
  have hpl : p.length = m := by rw [hp, List.length_take, List.length_drop]; omega
  have hfr : frameB p = bs.take (k + m) ++ sum4 (Crc.sum (bs.take (k + m))) := by
    have e1 : numB m ++ p = bs.take (k + m) := by rw [hnum, hp, List.take_add]
    unfold frameB
    rw [hpl, e1]
  have hnx : nextR bs = if frameB p = bs.take (k + m + 4) then (p, k + m + 4, 0) else ([], 0, 10) := by
    have e2 : bs.take (k + m + 4) = bs.take (k + m) ++ (bs.drop (k + m)).take 4 := by rw [List.take_add]
    unfold nextR
    rw [hr]
    simp only []
    rw [if_neg (by simp), if_neg (by omega), if_neg (by omega), hfr, e2, ← hp]
    by_cases h : (bs.drop (k + m)).take 4 = sum4 (Crc.sum (bs.take (k + m)))
    · rw [if_pos h, if_pos (by rw [h])]
    · rw [if_neg h, if_neg (fun e => h (List.append_cancel_left e).symm)]
  have HNX := Lib.hid hnx
  have HP := Lib.hid hp
  clear H hr hN hnum hfr hnx
  obtain ⟨E, hE⟩ : ∃ E, E = k + m := ⟨_, rfl⟩
  obtain ⟨F, hF⟩ : ∃ F, F = E + 4 := ⟨_, rfl⟩
  have q3 : (k : Int) + (m : Int) = (E : Int) := by omega
  have q4 : (E : Int) + 4 = (F : Int) := by omega
  have q5 : (k : Int) ≤ (E : Int) := by omega
  have q6 : (0 : Int) ≤ (F : Int) := by omega
  have q7 : (E : Int) ≤ (bs.length : Int) := by omega
  have q8 : (F : Int) ≤ (bs.length : Int) := by omega
  have q9 : (0 : Int) ≤ (E : Int) := by omega
  have q10 : (F : Int) ≤ (c : Int) := by omega
  have q11 : ¬ c = 0 := by omega
  have qw1 : IntKind.i64.wrap (E : Int) = (E : Int) := IntWalk.i64_in _ (by omega)
  have qw2 : IntKind.i64.wrap (F : Int) = (F : Int) := IntWalk.i64_in _ (by omega)
  have qmax : max (F : Int) 0 = (F : Int) := by omega
  have qmax0 : max (0 : Int) 0 = (0 : Int) := by omega
  have r1 := (HH.out.take (k := E) (by omega)).drop (k := k) (by rw [List.length_take]; omega)
  have e1 : (bs.take E).drop k = p := by rw [List.drop_take, HP.out]; congr 1; omega
  rw [e1, if_neg hck, show k * Kd.u8.sz = k from Nat.mul_one k] at r1
  have RR := Lib.hid r1
  have r2 := HH.out.take (k := F) (by omega)
  have RF := Lib.hid r2
  have HNF : Hid (nextR bs = if frameB p = bs.take F then (p, F, 0) else ([], 0, 10)) := by
    show _ = _
    rw [HNX.out, show k + m + 4 = F from by omega]
  clear r1 r2 e1 HNX hE hF hp
  go_enter Tryd.func36, Tryd.ntmps36
  go_wp2_with fail
  refine (numberR_calls HH.out).mono ?_
  rw [HN.out]
  rintro e w1 ⟨rfl, rfl⟩
  go_wp2_with (first
      | (at_builtin
         refine app_old (w0 := w) (ok := fun _ => True) (v := .slice (some ⟨w.heap.size, 0, none⟩) 0 0) (vx := .slice (some ⟨gs, off + k, none⟩) (E - k) (c - k)) (xs := []) (ys := p) rfl _ _ rfl (by simp [Act.eval]) rfl (lit0 (Ext.refl _ _) (fun _ _ => trivial)) ((Ext.refl Non w).alloc _) RR.out (fun _ _ => trivial) (by simp only [List.length_nil]; omega) ?_
         intro A6 n6 c6 w6 hn6 O6 E6 z6)
      | fail)
  refine (FrameR_fits O6.out.rd (fun _ _ => trivial) (by simp; omega)).mono ?_
  rintro e w7 ⟨v7, rfl, ho, he⟩
  obtain ⟨A7, N7, c7, rfl, hn7⟩ := (Own.abs8 ho)
  rw [List.nil_append] at ho
  have O7 := Lib.hid ho
  have E7 := Lib.hid (E6.out.trans0 he)
  have P7 := Lib.hid (O6.out.ext0 he)
  clear ho he hn7
  have RF7 := RF.out.ext0 (E7.out.drew)
  have RO7 := O7.out.rd.ext0 ((Ext.refl Non w7).drew)
  have cv1 := conv_rd RO7
  have cv2 := conv_rd RF7
  clear RF7 RO7
  go_wp2_with fail
  go_region_held3 (fun W => (convert 22 9 (.slice A7 N7 c7)).run Tryd.prog W = .ok (.string ⟨(frameB p).toArray⟩) W ∧ (convert 22 9 (.slice (some ⟨gs, off, none⟩) F c)).run Tryd.prog W = .ok (.string ⟨(bs.take F).toArray⟩) W) (first | assumption | exact ⟨cv1, cv2⟩) (fail)
  have z7 := E7.out.drew
  have P8 := Lib.hid (P7.out.ext0 ((Ext.refl Non w7).drew))
  have E8 := Lib.hid z7
  clear z7 cv1 cv2
  generalize w7.drew = w8 at P8 E8 ⊢
  by_cases hfe : frameB p = bs.take F
  · rw [if_pos hfe] at HNF
    rw [hfe, beq_self_eq_true]
    clear hfe
    go_wp2_with fail
    go_ret3
    rw [HNF.out]
    exact ⟨_, rfl, P8.out, E8.out⟩
  · rw [if_neg hfe] at HNF
    rw [show (frameB p == bs.take F) = false from beq_false_of_ne hfe]
    clear hfe
    go_wp2_with fail
    go_ret3
    rw [HNF.out]
    exact ⟨_, rfl, Own.nil _ _ _ _ _, E8.out⟩
theorem NextR_calls {w : World} {ok : Nat → Prop} {gs off : Nat} {c : Nat} {bs : List UInt8} (H : Rd Kd.u8 w ok (.slice (some ⟨gs, off, none⟩) bs.length c) bs) (_ : bs.length ≤ 140737488355328) :
    Calls Tryd.prog 36 #[.slice (some ⟨gs, off, none⟩) bs.length c] w (NextPost (nextR bs) w) := by
  obtain ⟨⟨m, k, e⟩, hr⟩ : ∃ r, numR bs = r := ⟨_, rfl⟩
  by_cases he : e = 0
  · subst he
    by_cases hl : 32768 < m
    · have : nextR bs = ([], 0, 4) := by unfold nextR; rw [hr]; simp [hl]
      rw [this]
      exact NextR_long H hr hl
    · by_cases hs : bs.length - k < m + 4
      · have : nextR bs = ([], 0, 2) := by unfold nextR; rw [hr]; simp [hl, hs]
        rw [this]
        exact NextR_short H hr (by omega) hs
      · exact NextR_full H hr (by omega) (by omega)
  · have : nextR bs = ([], 0, e) := by unfold nextR; rw [hr]; simp [he]
    rw [this]
    exact NextR_bad H hr he
theorem NextR_at {w : World} {ok : Nat → Prop} {gs off : Nat} {n c : Nat} {bs : List UInt8} (H : Rd Kd.u8 w ok (.slice (some ⟨gs, off, none⟩) n c) bs) (hbl : bs.length ≤ 140737488355328) :
    Calls Tryd.prog 36 #[.slice (some ⟨gs, off, none⟩) n c] w (NextPost (nextR bs) w) := by
  obtain ⟨A', c', he, _, _⟩ := H.slice
  simp only [Value.slice.injEq] at he
  obtain ⟨rfl, rfl, rfl⟩ := he
  exact NextR_calls H hbl
end Go.Proofs.YtiapjdbeooonjaaDoor
