/- slices.DeleteFunc over subscribers and events, with any function value that tells a plain law. -/
import Derived.Test.YtdjfijdnhfmeeaaQA
namespace Go.Proofs.Ytdjfijdnhfmeeaa
open Go.RowKit Go.TM
theorem take_set_keep {α : Type} {zs : List α} {i : Nat} {z : α} (hi : i < zs.length) : (zs.set i z).take (i + 1) = zs.take i ++ [z] := by
  rw [List.set_eq_take_append_cons_drop, if_pos hi, List.take_append, List.length_take, Nat.min_eq_left (by omega), List.take_of_length_le (by rw [List.length_take]; omega), Nat.add_sub_cancel_left]
  rfl
theorem drop_set_keep {α : Type} {zs : List α} {i j : Nat} {z : α} (hij : i < j) : (zs.set i z).drop j = zs.drop j := by
  rw [List.drop_set_of_lt hij]
theorem drop_one {α : Type} {zs ys : List α} {j : Nat} {z : α} (h : zs.drop j = ys.drop j) (hz : ys[j]? = some z) (_ : zs.length = ys.length) : zs[j]? = some z ∧ zs.drop (j + 1) = ys.drop (j + 1) := by
  have h1 : (zs.drop j)[0]? = (ys.drop j)[0]? := by rw [h]
  simp only [List.getElem?_drop, Nat.add_zero] at h1
  refine ⟨h1.trans hz, ?_⟩
  have h2 := congrArg (List.drop 1) h
  simpa [List.drop_drop] using h2
theorem filter_take_one {α : Type} {ys : List α} {j : Nat} {z : α} {p : α → Bool} (hz : ys[j]? = some z) : (ys.take (j + 1)).filter p = (ys.take j).filter p ++ (if p z = true then [z] else []) := by
  have hj := (List.getElem?_eq_some_iff.1 hz).1
  rw [List.take_succ_eq_append_getElem hj, List.filter_append, (List.getElem?_eq_some_iff.1 hz).2]
  by_cases h : p z = true
  · rw [if_pos h, List.filter_cons_of_pos h]
    rfl
  · rw [if_neg h, List.filter_cons_of_neg h]
    rfl
set_option maxRecDepth 100000 in
set_option maxHeartbeats 8000000 in
theorem DeleteS_calls {w : World} {ok : Nat → Prop} {g k c : Nat} {cur : Array Value} {zs : List (Sb × List Value)} {T : List Value} {fn : FuncId} {lb : Array Value} {p : Sb → Bool} (H : Prow (sbK k) 64 w ok g c cur zs T) (hp : PredOn (sbK k) fn lb p (Only g) ok w) :
    Calls Try.prog 55 #[.slice (some ⟨g, 0, none⟩) zs.length c, .func (.func fn) #[] lb] w fun e w' => ∃ m d, e = .returned (.slice (some ⟨g, 0, none⟩) m d) ∧ Own (sbK k) 64 w' g ok (.slice (some ⟨g, 0, none⟩) m d) ((zs.map Prod.fst).filter fun x => !p x) ∧ Ext (Only g) w w' := by
  have hcap := H.cap
  simp only [maxLen] at hcap
  have hle := H.le (by show 0 < 8; decide)
  have hlen : (zs.map Prod.fst).length = zs.length := List.length_map _
  have hrd := (H.own (base := g) (by show 0 < 8; decide) (Nat.le_refl _)).rd
  have HI := Lib.hid (IndexS_calls hrd ⟨hp.enters, fun w1 h1 => hp.tells w1 (h1.of0)⟩)
  clear hrd
  obtain ⟨n, hn⟩ : ∃ n, zs.length = n := ⟨_, rfl⟩
  rw [hn] at HI hle ⊢
  have HH := Lib.hid H
  have HP := Lib.hid hp
  have HN := Lib.hid hn
  have hmx : (n : Int) ≤ 9223372036854775807 := by omega
  have hmc : (c : Int) ≤ 9223372036854775807 := by omega
  rcases findI_cases p (zs.map Prod.fst) with ⟨e1, hall⟩ | ⟨i0, x0, e1, hx0, hp0, hbef⟩
  · rw [e1] at HI
    have HA := Lib.hid hall
    clear H hp hn hall e1 hcap hlen
    go_enter Try.func55, Try.ntmps55
    go_wp2_with fail
    refine HI.out.mono ?_
    rintro e w5 ⟨rfl, he⟩
    have HE := Lib.hid he
    clear he
    go_wp2_with fail
    go_ret
    refine ⟨n, c, rfl, ?_, HE.out.of0⟩
    rw [List.filter_eq_self.2 (fun x hx => by rw [HA.out x hx]; rfl), ← HN.out]
    exact (HH.out.ext (M := Non) HE.out (fun _ _ _ h => h)).own (by show 0 < 8; decide) (Nat.le_refl _)
  · rw [e1] at HI
    have hi0 : i0 < n := by
      have := (List.getElem?_eq_some_iff.1 hx0).1
      omega
    obtain ⟨z0, hz0, hz0x⟩ : ∃ z0, zs[i0]? = some z0 ∧ z0.1 = x0 := by
      rw [List.getElem?_map, Option.map_eq_some_iff] at hx0
      exact hx0
    have hstart : Hid (zs.take i0 = (zs.take (i0 + 1)).filter fun z => !p z.1) := by
      show _ = _
      rw [filter_take_one hz0, if_neg (by rw [hz0x, hp0]; decide), List.append_nil]
      refine (List.filter_eq_self.2 fun z hz => ?_).symm
      obtain ⟨k, hk⟩ := List.mem_iff_getElem?.1 hz
      have hkl : k < i0 := by
        have := (List.getElem?_eq_some_iff.1 hk).1
        rw [List.length_take] at this
        omega
      rw [List.getElem?_take_of_lt hkl] at hk
      rw [hbef k z.1 hkl (by rw [List.getElem?_map, hk]; rfl)]
      rfl
    clear H hp hn e1 hcap hlen hx0 hp0 hbef hz0 hz0x
    have hne : ((i0 : Int) == -1) = false := beq_eq_false_iff_ne.2 (by omega)
    go_enter Try.func55, Try.ntmps55
    go_wp2_with fail
    refine HI.out.mono ?_
    rintro e w5 ⟨rfl, he⟩
    have HE := Lib.hid he
    clear he
    go_wp2_with fail
    go_loopw [5, 6, 7] (fun s5 s6 _ wr => ∃ (i j : Nat) (cur' : Array Value) (zs' : List (Sb × List Value)), s5 = .int .i64 (i : Int) ∧ s6 = .int .i64 (j : Int) ∧ i < j ∧ j ≤ n ∧ Hid (Ext (Only g) w wr) ∧ Hid (Prow (sbK k) 64 wr ok g c cur' zs' T) ∧ Hid (zs'.length = n) ∧ Hid (zs'.take i = (zs.take j).filter fun z => !p z.1) ∧ Hid (zs'.drop j = zs.drop j)) (fun _ s6 _ _ => n - (intOf s6).toNat)
    case atStart => exact ⟨i0, i0 + 1, cur, zs, rfl, by go_num, by omega, by omega, HE.out.of0, HH.out.ext (M := Non) HE.out (fun _ _ _ h => h), HN.out, hstart.out, rfl⟩
    case round =>
      obtain ⟨i, j, cur', zs', rfl, rfl, hij, hj, HE1, HR, HL, HT, HD⟩ := hrel
      by_cases hlt : j < n
      · obtain ⟨z, hz⟩ : ∃ z, zs[j]? = some z := ⟨_, List.getElem?_eq_getElem (by have := HN.out; omega)⟩
        obtain ⟨hzj, hd1⟩ := drop_one HD.out hz (by rw [HL.out, HN.out])
        obtain ⟨zi, hzi⟩ : ∃ z, zs'[i]? = some z := ⟨_, List.getElem?_eq_getElem (by have := HL.out; omega)⟩
        have HZ := Lib.hid hz
        have HZJ := Lib.hid hzj
        have HD1 := Lib.hid hd1
        obtain ⟨x, cs⟩ := z
        obtain ⟨v, hcs, hkr⟩ := HR.out.at_ _ (List.mem_of_getElem? hzj)
        simp only at hcs hkr
        subst hcs
        obtain ⟨B, bl, bd, rfl, hbl⟩ := rd_abs hkr
        clear hbl
        have a0 := HR.out.cell hzj (i := 0) rfl
        have a1 := HR.out.cell hzj (i := 1) rfl
        have a2 := HR.out.cell hzj (i := 2) rfl
        have a3 := HR.out.cell hzj (i := 3) rfl
        have a4 := HR.out.cell hzj (i := 4) rfl
        have a5 := HR.out.cell hzj (i := 5) rfl
        have a6 := HR.out.cell hzj (i := 6) rfl
        have a7 := HR.out.cell hzj (i := 7) rfl
        obtain ⟨y, ds⟩ := zi
        obtain ⟨v2, hcs, _⟩ := HR.out.at_ _ (List.mem_of_getElem? hzi)
        simp only at hcs
        subst hcs
        have b0 := HR.out.cell hzi (i := 0) rfl
        have b1 := HR.out.cell hzi (i := 1) rfl
        have b2 := HR.out.cell hzi (i := 2) rfl
        have b3 := HR.out.cell hzi (i := 3) rfl
        have b4 := HR.out.cell hzi (i := 4) rfl
        have b5 := HR.out.cell hzi (i := 5) rfl
        have b6 := HR.out.cell hzi (i := 6) rfl
        have b7 := HR.out.cell hzi (i := 7) rfl
        simp only [show (sbK k).sz = 8 from rfl, Nat.add_zero] at a0 a1 a2 a3 a4 a5 a6 a7 b0 b1 b2 b3 b4 b5 b6 b7
        have HKR := Lib.hid hkr
        clear hkr
        have eg := HP.out.enters
        have hfz : ∀ q, wr.frozen? ⟨g, q, none⟩ = false := fun q => blk_frozen HR.out.blk q
        clear hz hzj hd1
        cases hq : p x with
        | true =>
          have HQ := Lib.hid hq
          clear hq hfz hzi b0 b1 b2 b3 b4 b5 b6 b7
          go_wp2_with fail
          have EA : Ext Non wr _ := ((Ext.refl Non wr).alloc (.cells #[.int .i64 x.id, .int .i64 x.fr, .int .i64 x.at_, .int .i64 x.q.op, .string x.q.key, .string x.q.val, .slice B bl bd, .bool x.gone] 64))
          refine (HP.out.tells _ (HE1.out.trans0 EA) x _ ⟨_, rfl, (HKR.out.mono (fun _ h => h.1)).ext0 EA⟩).mono ?_
          rw [HQ.out]
          rintro e w5 ⟨rfl, he⟩
          have HE5 := Lib.hid he
          have HEA := Lib.hid EA
          clear he EA
          go_wp2_with fail
          go_roundw
          case rel =>
            refine ⟨i, j + 1, cur', zs', rfl, by go_num, by omega, by omega, HE1.out.trans0 (HEA.out.trans0 HE5.out), HR.out.ext (M := Non) (HEA.out.trans0 HE5.out) (fun _ _ _ h => h), HL.out, ?_, HD1.out⟩
            show _ = _
            rw [filter_take_one HZ.out, if_neg (by show ¬ (!p x) = true; rw [HQ.out]; decide), List.append_nil]
            exact HT.out
          case measure => simp [intOf]; omega
        | false =>
          have HQ := Lib.hid hq
          have HZI := Lib.hid hzi
          clear hq hzi
          go_wp2_with fail
          have EA : Ext Non wr _ := ((Ext.refl Non wr).alloc (.cells #[.int .i64 x.id, .int .i64 x.fr, .int .i64 x.at_, .int .i64 x.q.op, .string x.q.key, .string x.q.val, .slice B bl bd, .bool x.gone] 64))
          refine (HP.out.tells _ (HE1.out.trans0 EA) x _ ⟨_, rfl, (HKR.out.mono (fun _ h => h.1)).ext0 EA⟩).mono ?_
          rw [HQ.out]
          rintro e w5 ⟨rfl, he⟩
          have HE5 := Lib.hid he
          have HEA := Lib.hid EA
          clear he EA
          have R5 : Hid (Prow (sbK k) 64 w5 ok g c cur' zs' T) := HR.out.ext (M := Non) (HEA.out.trans0 HE5.out) (fun _ _ _ h => h)
          have hil : i < zs'.length := by have := HL.out; omega
          obtain ⟨cur2, hset⟩ := R5.out.set (x := x) (cs := [.int .i64 x.id, .int .i64 x.fr, .int .i64 x.at_, .int .i64 x.q.op, .string x.q.key, .string x.q.val, .slice B bl bd, .bool x.gone]) hil ⟨_, rfl, ((HKR.out.mono (fun _ h => h)).ext0 HEA.out).ext0 HE5.out⟩
          have HSET := Lib.hid hset
          have HE6 : Hid (Ext (Only g) w w5) := HE1.out.trans0 (HEA.out.trans0 HE5.out)
          have HL6 : Hid ((zs'.set i (x, [.int .i64 x.id, .int .i64 x.fr, .int .i64 x.at_, .int .i64 x.q.op, .string x.q.key, .string x.q.val, .slice B bl bd, .bool x.gone])).length = n) := by show _ = _; rw [List.length_set]; exact HL.out
          have HT6 : Hid ((zs'.set i (x, [.int .i64 x.id, .int .i64 x.fr, .int .i64 x.at_, .int .i64 x.q.op, .string x.q.key, .string x.q.val, .slice B bl bd, .bool x.gone])).take (i + 1) = (zs.take (j + 1)).filter fun z => !p z.1) := by
            show _ = _
            rw [take_set_keep hil, filter_take_one HZ.out, if_pos (by show (!p x) = true; rw [HQ.out]; decide), HT.out]
          have HD6 : Hid ((zs'.set i (x, [.int .i64 x.id, .int .i64 x.fr, .int .i64 x.at_, .int .i64 x.q.op, .string x.q.key, .string x.q.val, .slice B bl bd, .bool x.gone])).drop (j + 1) = zs.drop (j + 1)) := by
            show _ = _
            rw [drop_set_keep (by omega)]
            exact HD1.out
          have hv5 : ∀ q u, ([.int .i64 x.id, .int .i64 x.fr, .int .i64 x.at_, .int .i64 x.q.op, .string x.q.key, .string x.q.val, .slice B bl bd, .bool x.gone] : List Value)[q]? = some u → w5.cell? ⟨wr.heap.size, q, none⟩ = some u := fun q u hu => (HE5.out).cell ((blk_cell (blk_new wr _) q).trans (by simpa using hu)) (fun h => h)
          have d0 := hv5 0 _ rfl
          have d1 := hv5 1 _ rfl
          have d2 := hv5 2 _ rfl
          have d3 := hv5 3 _ rfl
          have d4 := hv5 4 _ rfl
          have d5 := hv5 5 _ rfl
          have d6 := hv5 6 _ rfl
          have d7 := hv5 7 _ rfl
          have b05 := R5.out.cell HZI.out (i := 0) rfl
          have b15 := R5.out.cell HZI.out (i := 1) rfl
          have b25 := R5.out.cell HZI.out (i := 2) rfl
          have b35 := R5.out.cell HZI.out (i := 3) rfl
          have b45 := R5.out.cell HZI.out (i := 4) rfl
          have b55 := R5.out.cell HZI.out (i := 5) rfl
          have b65 := R5.out.cell HZI.out (i := 6) rfl
          have b75 := R5.out.cell HZI.out (i := 7) rfl
          simp only [show (sbK k).sz = 8 from rfl, Nat.add_zero] at b05 b15 b25 b35 b45 b55 b65 b75
          have hfz5 : ∀ q, w5.frozen? ⟨g, q, none⟩ = false := fun q => blk_frozen R5.out.blk q
          clear hset hv5 b0 b1 b2 b3 b4 b5 b6 b7 a0 a1 a2 a3 a4 a5 a6 a7 hfz
          go_wp2_with fail
          go_roundw
          case rel => exact ⟨i + 1, j + 1, cur2, zs'.set i (x, [.int .i64 x.id, .int .i64 x.fr, .int .i64 x.at_, .int .i64 x.q.op, .string x.q.key, .string x.q.val, .slice B bl bd, .bool x.gone]), by go_num, by go_num, by omega, by omega, HE6.out.trans (ext_setCells g [.int .i64 x.id, .int .i64 x.fr, .int .i64 x.at_, .int .i64 x.q.op, .string x.q.key, .string x.q.val, .slice B bl bd, .bool x.gone] (i * 8) w5) (fun _ _ e => e), HSET.out, HL6.out, HT6.out, HD6.out⟩
          case measure => simp [intOf]; omega
      · obtain rfl : j = n := by omega
        obtain ⟨Lc, hLl, hcl⟩ := run_clear_row (P := Try.prog) wr 53 64 (.agg #[.int .i64 0, .int .i64 0, .int .i64 0, .int .i64 0, .string ⟨#[]⟩, .string ⟨#[]⟩, .slice none 0 0, .bool false]) 8 Try.underlying53 (fun w => by kernel_rfl) rfl (by simp [Value.cells, Value.oneCell']) g (i * 8) (j - i) (c - i) cur' 64 HR.out.blk (by
          have h1 := HR.out.size
          have h2 := HR.out.le (by show 0 < 8; decide)
          have h3 := HL.out
          have h4 : cur'.size = c * 8 := h1
          omega) (by decide)
        obtain ⟨cur3, hcut⟩ := HR.out.cut (i := i) (by have := HL.out; omega) Lc (by rw [hLl, HL.out]; rfl)
        have HCUT := Lib.hid hcut
        clear hcut hLl
        go_wp2_with fail
        go_ret
        have hlen3 : (zs'.take i).length = i := by rw [List.length_take, HL.out]; omega
        have ho := HCUT.out.own (base := g) (by show 0 < 8; decide) (Nat.le_refl _)
        rw [hlen3] at ho
        refine ⟨i, c, rfl, ?_, HE1.out.trans (ext_setCells g Lc (i * 8) wr) (fun _ _ e => e)⟩
        have hfin : (zs'.take i).map Prod.fst = (zs.map Prod.fst).filter fun x => !p x := by
          rw [HT.out, List.take_of_length_le (by rw [HN.out]; exact Nat.le_refl _), List.filter_map]
          rfl
        rw [← hfin]
        exact ho
set_option maxRecDepth 100000 in
set_option maxHeartbeats 8000000 in
theorem DeleteE_calls {w : World} {ok : Nat → Prop} {g c : Nat} {cur : Array Value} {zs : List (Ev × List Value)} {T : List Value} {fn : FuncId} {lb : Array Value} {p : Ev → Bool} (H : Prow evK 43 w ok g c cur zs T) (hp : PredOn evK fn lb p (Only g) ok w) :
    Calls Try.prog 78 #[.slice (some ⟨g, 0, none⟩) zs.length c, .func (.func fn) #[] lb] w fun e w' => ∃ m d, e = .returned (.slice (some ⟨g, 0, none⟩) m d) ∧ Own evK 43 w' g ok (.slice (some ⟨g, 0, none⟩) m d) ((zs.map Prod.fst).filter fun x => !p x) ∧ Ext (Only g) w w' := by
  have hcap := H.cap
  simp only [maxLen] at hcap
  have hle := H.le (by show 0 < 6; decide)
  have hlen : (zs.map Prod.fst).length = zs.length := List.length_map _
  have hrd := (H.own (base := g) (by show 0 < 6; decide) (Nat.le_refl _)).rd
  have HI := Lib.hid (IndexE_calls hrd ⟨hp.enters, fun w1 h1 => hp.tells w1 (h1.of0)⟩)
  clear hrd
  obtain ⟨n, hn⟩ : ∃ n, zs.length = n := ⟨_, rfl⟩
  rw [hn] at HI hle ⊢
  have HH := Lib.hid H
  have HP := Lib.hid hp
  have HN := Lib.hid hn
  have hmx : (n : Int) ≤ 9223372036854775807 := by omega
  have hmc : (c : Int) ≤ 9223372036854775807 := by omega
  rcases findI_cases p (zs.map Prod.fst) with ⟨e1, hall⟩ | ⟨i0, x0, e1, hx0, hp0, hbef⟩
  · rw [e1] at HI
    have HA := Lib.hid hall
    clear H hp hn hall e1 hcap hlen
    go_enter Try.func78, Try.ntmps78
    go_wp2_with fail
    refine HI.out.mono ?_
    rintro e w5 ⟨rfl, he⟩
    have HE := Lib.hid he
    clear he
    go_wp2_with fail
    go_ret
    refine ⟨n, c, rfl, ?_, HE.out.of0⟩
    rw [List.filter_eq_self.2 (fun x hx => by rw [HA.out x hx]; rfl), ← HN.out]
    exact (HH.out.ext (M := Non) HE.out (fun _ _ _ h => h)).own (by show 0 < 6; decide) (Nat.le_refl _)
  · rw [e1] at HI
    have hi0 : i0 < n := by
      have := (List.getElem?_eq_some_iff.1 hx0).1
      omega
    obtain ⟨z0, hz0, hz0x⟩ : ∃ z0, zs[i0]? = some z0 ∧ z0.1 = x0 := by
      rw [List.getElem?_map, Option.map_eq_some_iff] at hx0
      exact hx0
    have hstart : Hid (zs.take i0 = (zs.take (i0 + 1)).filter fun z => !p z.1) := by
      show _ = _
      rw [filter_take_one hz0, if_neg (by rw [hz0x, hp0]; decide), List.append_nil]
      refine (List.filter_eq_self.2 fun z hz => ?_).symm
      obtain ⟨k, hk⟩ := List.mem_iff_getElem?.1 hz
      have hkl : k < i0 := by
        have := (List.getElem?_eq_some_iff.1 hk).1
        rw [List.length_take] at this
        omega
      rw [List.getElem?_take_of_lt hkl] at hk
      rw [hbef k z.1 hkl (by rw [List.getElem?_map, hk]; rfl)]
      rfl
    clear H hp hn e1 hcap hlen hx0 hp0 hbef hz0 hz0x
    have hne : ((i0 : Int) == -1) = false := beq_eq_false_iff_ne.2 (by omega)
    go_enter Try.func78, Try.ntmps78
    go_wp2_with fail
    refine HI.out.mono ?_
    rintro e w5 ⟨rfl, he⟩
    have HE := Lib.hid he
    clear he
    go_wp2_with fail
    go_loopw [5, 6, 7] (fun s5 s6 _ wr => ∃ (i j : Nat) (cur' : Array Value) (zs' : List (Ev × List Value)), s5 = .int .i64 (i : Int) ∧ s6 = .int .i64 (j : Int) ∧ i < j ∧ j ≤ n ∧ Hid (Ext (Only g) w wr) ∧ Hid (Prow evK 43 wr ok g c cur' zs' T) ∧ Hid (zs'.length = n) ∧ Hid (zs'.take i = (zs.take j).filter fun z => !p z.1) ∧ Hid (zs'.drop j = zs.drop j)) (fun _ s6 _ _ => n - (intOf s6).toNat)
    case atStart => exact ⟨i0, i0 + 1, cur, zs, rfl, by go_num, by omega, by omega, HE.out.of0, HH.out.ext (M := Non) HE.out (fun _ _ _ h => h), HN.out, hstart.out, rfl⟩
    case round =>
      obtain ⟨i, j, cur', zs', rfl, rfl, hij, hj, HE1, HR, HL, HT, HD⟩ := hrel
      by_cases hlt : j < n
      · obtain ⟨z, hz⟩ : ∃ z, zs[j]? = some z := ⟨_, List.getElem?_eq_getElem (by have := HN.out; omega)⟩
        obtain ⟨hzj, hd1⟩ := drop_one HD.out hz (by rw [HL.out, HN.out])
        obtain ⟨zi, hzi⟩ : ∃ z, zs'[i]? = some z := ⟨_, List.getElem?_eq_getElem (by have := HL.out; omega)⟩
        have HZ := Lib.hid hz
        have HZJ := Lib.hid hzj
        have HD1 := Lib.hid hd1
        obtain ⟨x, cs⟩ := z
        have hcs : cs = [.int .i64 x.pos, .string x.key, .bool x.had, .string x.old, .bool x.has, .string x.now] := HR.out.at_ _ (List.mem_of_getElem? hzj)
        subst hcs
        have a0 := HR.out.cell hzj (i := 0) rfl
        have a1 := HR.out.cell hzj (i := 1) rfl
        have a2 := HR.out.cell hzj (i := 2) rfl
        have a3 := HR.out.cell hzj (i := 3) rfl
        have a4 := HR.out.cell hzj (i := 4) rfl
        have a5 := HR.out.cell hzj (i := 5) rfl
        obtain ⟨y, ds⟩ := zi
        have hcs : ds = [.int .i64 y.pos, .string y.key, .bool y.had, .string y.old, .bool y.has, .string y.now] := HR.out.at_ _ (List.mem_of_getElem? hzi)
        subst hcs
        have b0 := HR.out.cell hzi (i := 0) rfl
        have b1 := HR.out.cell hzi (i := 1) rfl
        have b2 := HR.out.cell hzi (i := 2) rfl
        have b3 := HR.out.cell hzi (i := 3) rfl
        have b4 := HR.out.cell hzi (i := 4) rfl
        have b5 := HR.out.cell hzi (i := 5) rfl
        simp only [show evK.sz = 6 from rfl, Nat.add_zero] at a0 b0 a1 b1 a2 b2 a3 b3 a4 b4 a5 b5

        have eg := HP.out.enters
        have hfz : ∀ q, wr.frozen? ⟨g, q, none⟩ = false := fun q => blk_frozen HR.out.blk q
        clear hz hzj hd1
        cases hq : p x with
        | true =>
          have HQ := Lib.hid hq
          clear hq hfz hzi b0 b1 b2 b3 b4 b5
          go_wp2_with fail
          have EA : Ext Non wr _ := ((Ext.refl Non wr).alloc (.cells #[.int .i64 x.pos, .string x.key, .bool x.had, .string x.old, .bool x.has, .string x.now] 43))
          refine (HP.out.tells _ (HE1.out.trans0 EA) x _ rfl).mono ?_
          rw [HQ.out]
          rintro e w5 ⟨rfl, he⟩
          have HE5 := Lib.hid he
          have HEA := Lib.hid EA
          clear he EA
          go_wp2_with fail
          go_roundw
          case rel =>
            refine ⟨i, j + 1, cur', zs', rfl, by go_num, by omega, by omega, HE1.out.trans0 (HEA.out.trans0 HE5.out), HR.out.ext (M := Non) (HEA.out.trans0 HE5.out) (fun _ _ _ h => h), HL.out, ?_, HD1.out⟩
            show _ = _
            rw [filter_take_one HZ.out, if_neg (by show ¬ (!p x) = true; rw [HQ.out]; decide), List.append_nil]
            exact HT.out
          case measure => simp [intOf]; omega
        | false =>
          have HQ := Lib.hid hq
          have HZI := Lib.hid hzi
          clear hq hzi
          go_wp2_with fail
          have EA : Ext Non wr _ := ((Ext.refl Non wr).alloc (.cells #[.int .i64 x.pos, .string x.key, .bool x.had, .string x.old, .bool x.has, .string x.now] 43))
          refine (HP.out.tells _ (HE1.out.trans0 EA) x _ rfl).mono ?_
          rw [HQ.out]
          rintro e w5 ⟨rfl, he⟩
          have HE5 := Lib.hid he
          have HEA := Lib.hid EA
          clear he EA
          have R5 : Hid (Prow evK 43 w5 ok g c cur' zs' T) := HR.out.ext (M := Non) (HEA.out.trans0 HE5.out) (fun _ _ _ h => h)
          have hil : i < zs'.length := by have := HL.out; omega
          obtain ⟨cur2, hset⟩ := R5.out.set (x := x) (cs := [.int .i64 x.pos, .string x.key, .bool x.had, .string x.old, .bool x.has, .string x.now]) hil rfl
          have HSET := Lib.hid hset
          have HE6 : Hid (Ext (Only g) w w5) := HE1.out.trans0 (HEA.out.trans0 HE5.out)
          have HL6 : Hid ((zs'.set i (x, [.int .i64 x.pos, .string x.key, .bool x.had, .string x.old, .bool x.has, .string x.now])).length = n) := by show _ = _; rw [List.length_set]; exact HL.out
          have HT6 : Hid ((zs'.set i (x, [.int .i64 x.pos, .string x.key, .bool x.had, .string x.old, .bool x.has, .string x.now])).take (i + 1) = (zs.take (j + 1)).filter fun z => !p z.1) := by
            show _ = _
            rw [take_set_keep hil, filter_take_one HZ.out, if_pos (by show (!p x) = true; rw [HQ.out]; decide), HT.out]
          have HD6 : Hid ((zs'.set i (x, [.int .i64 x.pos, .string x.key, .bool x.had, .string x.old, .bool x.has, .string x.now])).drop (j + 1) = zs.drop (j + 1)) := by
            show _ = _
            rw [drop_set_keep (by omega)]
            exact HD1.out
          have hv5 : ∀ q u, ([.int .i64 x.pos, .string x.key, .bool x.had, .string x.old, .bool x.has, .string x.now] : List Value)[q]? = some u → w5.cell? ⟨wr.heap.size, q, none⟩ = some u := fun q u hu => (HE5.out).cell ((blk_cell (blk_new wr _) q).trans (by simpa using hu)) (fun h => h)
          have d0 := hv5 0 _ rfl
          have d1 := hv5 1 _ rfl
          have d2 := hv5 2 _ rfl
          have d3 := hv5 3 _ rfl
          have d4 := hv5 4 _ rfl
          have d5 := hv5 5 _ rfl
          have b05 := R5.out.cell HZI.out (i := 0) rfl
          have b15 := R5.out.cell HZI.out (i := 1) rfl
          have b25 := R5.out.cell HZI.out (i := 2) rfl
          have b35 := R5.out.cell HZI.out (i := 3) rfl
          have b45 := R5.out.cell HZI.out (i := 4) rfl
          have b55 := R5.out.cell HZI.out (i := 5) rfl
          simp only [show evK.sz = 6 from rfl, Nat.add_zero] at b05 b15 b25 b35 b45 b55
          have hfz5 : ∀ q, w5.frozen? ⟨g, q, none⟩ = false := fun q => blk_frozen R5.out.blk q
          clear hset hv5 b0 b1 b2 b3 b4 b5 a0 a1 a2 a3 a4 a5 hfz
          go_wp2_with fail
          go_roundw
          case rel => exact ⟨i + 1, j + 1, cur2, zs'.set i (x, [.int .i64 x.pos, .string x.key, .bool x.had, .string x.old, .bool x.has, .string x.now]), by go_num, by go_num, by omega, by omega, HE6.out.trans (ext_setCells g [.int .i64 x.pos, .string x.key, .bool x.had, .string x.old, .bool x.has, .string x.now] (i * 6) w5) (fun _ _ e => e), HSET.out, HL6.out, HT6.out, HD6.out⟩
          case measure => simp [intOf]; omega
      · obtain rfl : j = n := by omega
        obtain ⟨Lc, hLl, hcl⟩ := run_clear_row (P := Try.prog) wr 34 43 (.agg #[.int .i64 0, .string ⟨#[]⟩, .bool false, .string ⟨#[]⟩, .bool false, .string ⟨#[]⟩]) 6 Try.underlying34 (fun w => by kernel_rfl) rfl (by simp [Value.cells, Value.oneCell']) g (i * 6) (j - i) (c - i) cur' 43 HR.out.blk (by
          have h1 := HR.out.size
          have h2 := HR.out.le (by show 0 < 6; decide)
          have h3 := HL.out
          have h4 : cur'.size = c * 6 := h1
          omega) (by decide)
        obtain ⟨cur3, hcut⟩ := HR.out.cut (i := i) (by have := HL.out; omega) Lc (by rw [hLl, HL.out]; rfl)
        have HCUT := Lib.hid hcut
        clear hcut hLl
        go_wp2_with fail
        go_ret
        have hlen3 : (zs'.take i).length = i := by rw [List.length_take, HL.out]; omega
        have ho := HCUT.out.own (base := g) (by show 0 < 6; decide) (Nat.le_refl _)
        rw [hlen3] at ho
        refine ⟨i, c, rfl, ?_, HE1.out.trans (ext_setCells g Lc (i * 6) wr) (fun _ _ e => e)⟩
        have hfin : (zs'.take i).map Prod.fst = (zs.map Prod.fst).filter fun x => !p x := by
          rw [HT.out, List.take_of_length_le (by rw [HN.out]; exact Nat.le_refl _), List.filter_map]
          rfl
        rw [← hfin]
        exact ho
end Go.Proofs.Ytdjfijdnhfmeeaa
