/- New, Drop, Ack. -/
import Derived.Test.YtdjfijdnhfmeeaaQ8
namespace Go.TM
open Go.RowKit
/-- One cell of a row of one's own laid anew. -/
theorem Prow.set1 {α : Type} {d : Kd α} {w : World} {ok : Nat → Prop} {e : TypeId} {g c : Nat} {cur : Array Value} {zs : List (α × List Value)} {T : List Value} (h : Prow d e w ok g c cur zs T) {j i : Nat} {z : α × List Value} (hz : zs[j]? = some z) (hi : i < d.sz) {x : α} {u : Value} (hk : d.K w (fun k => ok k ∧ k ≠ g) x (z.2.set i u)) :
    ∃ cur', Prow d e (w.setCell ⟨g, j * d.sz + i, none⟩ u) ok g c cur' (zs.set j (x, z.2.set i u)) T := by
  have hj := (List.getElem?_eq_some_iff.1 hz).1
  have hl1 : ((zs.take j).flatMap Prod.snd).length = j * d.sz := by
    rw [flatMap_len (d := d) (w := w) (ok := fun k => ok k ∧ k ≠ g) (fun y hy => h.at_ y (List.mem_of_mem_take hy)), List.length_take, Nat.min_eq_left (by omega)]
  have hsplit : zs = zs.take j ++ z :: zs.drop (j + 1) := by
    conv => lhs; rw [← List.take_append_drop j zs, List.drop_eq_getElem_cons hj]
    rw [(List.getElem?_eq_some_iff.1 hz).2]
  have hlen := d.len (h.at_ z (List.mem_of_getElem? hz))
  have hlist : cur.toList = (zs.take j).flatMap Prod.snd ++ (z.2 ++ ((zs.drop (j + 1)).flatMap Prod.snd ++ T)) := by
    rw [h.list]
    conv => lhs; rw [hsplit]
    rw [List.flatMap_append, List.flatMap_cons]
    simp only [List.append_assoc]
  have hmv : ∀ y ys, d.K w (fun k => ok k ∧ k ≠ g) y ys → d.K (w.setCell ⟨g, j * d.sz + i, none⟩ u) (fun k => ok k ∧ k ≠ g) y ys := fun y ys hy =>
    d.mono (fun _ hk => hk.1) (d.move (w := w) (ok := fun k => (ok k ∧ k ≠ g) ∧ k < w.heap.size) (fun k hk => (Ext.setCell (Ext.refl (Only g) w) (p := ⟨g, j * d.sz + i, none⟩) (fun _ => rfl) u).block k hk.2 hk.1.2) (d.bound hy))
  refine ⟨cur.setIfInBounds (j * d.sz + i) u, h.okg, blk_set h.blk _ u, h.cap, by rw [Array.size_setIfInBounds]; exact h.size, ?_, fun y hy => ?_⟩
  · rw [Array.toList_setIfInBounds, hlist, List.set_append_right _ _ (by omega), hl1, Nat.add_sub_cancel_left, List.set_append_left _ _ (by omega)]
    generalize z.2.set i u = ys
    rw [List.set_eq_take_append_cons_drop, if_pos hj]
    simp
  · rcases List.mem_or_eq_of_mem_set hy with hy | rfl
    · exact hmv _ _ (h.at_ y hy)
    · exact hmv _ _ hk
theorem map_fst_set {α β : Type} (zs : List (α × β)) (j : Nat) (z : α × β) : (zs.set j z).map Prod.fst = (zs.map Prod.fst).set j z.1 := by
  rw [List.map_set]
end Go.TM
namespace Go.Proofs.Ytdjfijdnhfmeeaa
open Go.RowKit Go.TM
def newD : Fdr := ⟨[], [], 1, 0⟩
set_option maxRecDepth 100000 in
theorem New_calls {w : World} {n : Nat} {ok : Nat → Prop} (hn : ¬ ok w.heap.size) :
    Calls Try.prog 14 #[] w fun e w' => e = .returned (.pointer (some ⟨w.heap.size, 0, none⟩)) ∧ Fd n ok w' w.heap.size newD ∧ Ext Non w w' := by
  have HN := Lib.hid hn
  clear hn
  go_enter Try.func14, Try.ntmps14
  go_wp2_with fail
  go_ret
  exact ⟨rfl, ⟨none, 0, 0, none, 0, 0, blk_new w _, Rd.nil _ _ _, Rd.nil _ _ _, HN.out⟩, (Ext.refl _ _).alloc _⟩
def dropR (D : Fdr) (id : Int) : Int × Fdr := if (findR D.subs id).2 = 80 then (80, D) else (0, trimD { D with subs := D.subs.filter fun s => !(s.id == id) })
set_option maxRecDepth 100000 in
set_option maxHeartbeats 4000000 in
theorem Drop_calls {w : World} {n g : Nat} {ok : Nat → Prop} {D : Fdr} (h : Fd n ok w g D) (hn0 : D.next ≠ 0) (hl : D.evs.length ≤ 1048576000) (hs : D.subs.length ≤ 1000) (hf : Fresh ok w) (id : Int) :
    Calls Try.prog 23 #[.pointer (some ⟨g, 0, none⟩), .int .i64 id] w (FdPost n ok g (dropR D id).2 (.int .i64 (dropR D id).1) w) := by
  have HF := Lib.hid h
  have FF := Lib.hid hf
  obtain ⟨w1, hw1⟩ : ∃ w1, w.alloc (.cells #[.int .i64 id] 3) = w1 := ⟨_, rfl⟩
  have E1 : Hid (Ext Non w w1) := by rw [← hw1]; exact (Ext.refl _ _).alloc _
  have HD := Lib.hid (find_calls (HF.out.ext0 E1.out) hn0 id)
  obtain ⟨q, hq⟩ : ∃ q, w.heap.size = q := ⟨_, rfl⟩
  have BQ : Hid (w1.heap[q]? = some (.cells #[.int .i64 id] 3 (0, 0))) := by rw [← hw1, ← hq]; exact blk_new w _
  have k0 : w1.cell? ⟨q, 0, none⟩ = some (.int .i64 id) := blk_cell BQ.out 0
  have hql := blk_lt BQ.out
  rcases findR_cases D.subs id with ⟨hr, _⟩ | ⟨i, x, hx, -, -, hr⟩
  · have HT : Hid (dropR D id = (80, D)) := by show _ = _; rw [dropR, hr]; rfl
    rw [hr] at HD
    clear h hf hr
    go_enter Try.func23, Try.ntmps23
    go_wp2_with fail
    (try rw [hq, hw1])
    refine HD.out.mono ?_
    rintro e w5 ⟨rfl, he⟩
    have HE := Lib.hid he
    clear he
    go_wp2_with fail
    go_ret
    rw [HT.out]
    exact ⟨rfl, HF.out.ext0 (E1.out.trans0 HE.out), (E1.out.trans0 HE.out).of0⟩
  · obtain ⟨v1, v2, hv, hv6, hv80⟩ : ∃ v1 v2 : Int, findR D.subs id = (v1, v2) ∧ v2 ≠ 6 ∧ v2 ≠ 80 := by
      rcases hr with ⟨_, h⟩ | ⟨_, h⟩
      · exact ⟨_, _, h, by decide, by decide⟩
      · exact ⟨_, _, h, by decide, by decide⟩
    have HT : Hid (dropR D id = (0, trimD { D with subs := D.subs.filter fun s => !(s.id == id) })) := by
      show _ = _
      rw [dropR, hv, if_neg hv80]
    rw [hv] at HD
    obtain ⟨A1, n1, c1, A2, n2, c2, hb, h1, h2, h3⟩ := h
    have HB := Lib.hid hb
    have H2 := Lib.hid h2
    have hgl := blk_lt hb
    have e6 : (v2 == 6) = false := beq_eq_false_iff_ne.2 hv6
    have e80 : (v2 == 80) = false := beq_eq_false_iff_ne.2 hv80
    clear hf hr hv hx hb h1 h2 h3
    go_enter Try.func23, Try.ntmps23
    go_wp2_with fail
    (try rw [hq, hw1])
    refine HD.out.mono ?_
    rintro e w5 ⟨rfl, he⟩
    have HE : Hid (Ext Non w w5) := E1.out.trans0 he
    have k0 := he.cell k0 (fun e => e)
    have BQ5 : Hid (w5.heap[q]? = some (.cells #[.int .i64 id] 3 (0, 0))) := he.obj BQ.out (fun e => e)
    have BG : Hid (FdB w5 g _ _ _ _) := HE.out.obj HB.out (fun e => e)
    have g1 := BG.out.c1
    clear he
    go_wp2_with fail
    refine (CloneS_own (H2.out.ext0 HE.out) hs (FF.out.ext HE.out)).mono ?_
    rintro e w6 ⟨B, m, d, rfl, ho, he⟩
    have HO := Lib.hid ho
    have HE6 := Lib.hid he
    clear ho he
    go_wp2_with fail
    have hM : ∀ k, some k = (Value.slice B m d).ownBlock → w5.heap.size ≤ k := fun k h => (HO.out.base_le k h.symm).1
    have hq5 := blk_lt BQ5.out
    have hg5 := blk_lt BG.out
    refine (DeleteS_own (p := fun s => s.id == id) HO.out (drop_pred (HE6.out.obj BQ5.out (fun e => e)) (fun h => by have : w5.heap.size ≤ q := hM _ h; omega))).mono ?_
    rintro e w7 ⟨B7, m7, d7, rfl, ho7, he7⟩
    have HO7 := Lib.hid ho7
    have HE7 := Lib.hid he7
    have BG7 : Hid (FdB w7 g _ _ _ _) := he7.obj (HE6.out.obj BG.out (fun e => e)) (fun h => by have : w5.heap.size ≤ g := hM _ h; omega)
    have g1 := BG7.out.c1
    have z1 := BG7.out.fz 1
    have F7 : Hid (Fd n ok w7 g D) := (HF.out.ext0 HE.out).ext' (HE6.out.of0.trans HE7.out (fun i _ h => h)) (fun k hk hkl h => by have := hM _ h; omega) (fun h => by have : w5.heap.size ≤ g := hM _ h; omega)
    have E7 : Hid (Ext (Only g) w w7) := (HE.out.trans0 HE6.out).of0.trans HE7.out (fun i hi h => by have := hM _ h; have := HE.out.size; omega)
    clear ho7 he7
    go_wp2_with fail
    have F8 := F7.out.setSubs HO7.out.rd
    have E8 : Hid (Ext (Only g) w (w7.setCell ⟨g, 1, none⟩ (.slice B7 m7 d7))) := E7.out.trans (og_set w7 g 1 _) (fun _ _ h => h)
    refine (trim_calls F8 hl (FF.out.ext E8.out)).mono ?_
    rintro e w9 ⟨rfl, hf9, he9⟩
    have HF9 := Lib.hid hf9
    have HE9 := Lib.hid he9
    clear hf9 he9 F8
    go_wp2_with fail
    go_ret
    rw [HT.out]
    exact ⟨rfl, HF9.out, E8.out.trans HE9.out (fun _ _ h => h)⟩
def setAt (l : List Sb) (i : Nat) (f : Sb → Sb) : List Sb := match l[i]? with
  | some s => l.set i (f s)
  | none => l
def toAt (pos : Int) (s : Sb) : Sb := { s with at_ := pos }
def ackR (D : Fdr) (id pos : Int) : Int × Fdr :=
  if (findR D.subs id).2 ≠ 0 then ((findR D.subs id).2, D)
  else if pos < atOf D.subs (findR D.subs id).1.toNat then (82, D)
  else if D.top < pos then (5, D)
  else (0, trimD { D with subs := setAt D.subs (findR D.subs id).1.toNat (toAt pos) })
theorem own_some {α : Type} {d : Kd α} {e : TypeId} {w : World} {base : Nat} {ok : Nat → Prop} {A : Option Addr} {n c : Nat} {l : List α} (H : Own d e w base ok (.slice A n c) l) (h0 : 0 < l.length) : ∃ g, A = some ⟨g, 0, none⟩ := by
  obtain ⟨h0', inner, ho, hr⟩ := H
  rcases ho.2 with ⟨h2, _⟩ | ⟨g', cap, cur, h2, _⟩
  · simp only [Value.slice.injEq] at h2
    omega
  · simp only [Value.slice.injEq] at h2
    exact ⟨g', h2.1⟩
set_option maxRecDepth 100000 in
set_option maxHeartbeats 4000000 in
theorem Ack_calls {w : World} {n g : Nat} {ok : Nat → Prop} {D : Fdr} (h : Fd n ok w g D) (hn0 : D.next ≠ 0) (hl : D.evs.length ≤ 1048576000) (hs : D.subs.length ≤ 1000) (hf : Fresh ok w) (id pos : Int) :
    Calls Try.prog 25 #[.pointer (some ⟨g, 0, none⟩), .int .i64 id, .int .i64 pos] w (FdPost n ok g (ackR D id pos).2 (.int .i64 (ackR D id pos).1) w) := by
  have HF := Lib.hid h
  have FF := Lib.hid hf
  have HD := Lib.hid (find_calls h hn0 id)
  have hno : ∀ r : Int × Int, r.2 ≠ 0 → findR D.subs id = r → Hid (ackR D id pos = (r.2, D)) := fun r hr he => by
    show _ = _
    rw [ackR, he, if_pos hr]
  have hgone : ∀ v : Int, v ≠ 0 → findR D.subs id = (0, v) → Calls Try.prog 25 #[.pointer (some ⟨g, 0, none⟩), .int .i64 id, .int .i64 pos] w (FdPost n ok g (ackR D id pos).2 (.int .i64 (ackR D id pos).1) w) := fun v hv he => by
    have HT := hno _ hv he
    rw [he] at HD
    have ev : (v == 0) = false := beq_eq_false_iff_ne.2 hv
    clear h hf hno he
    go_enter Try.func25, Try.ntmps25
    go_wp2_with fail
    refine HD.out.mono ?_
    rintro e w5 ⟨rfl, he⟩
    have HE := Lib.hid he
    clear he
    go_wp2_with fail
    go_ret
    rw [HT.out]
    exact ⟨rfl, HF.out.ext0 HE.out, HE.out.of0⟩
  rcases findR_cases D.subs id with ⟨hr, _⟩ | ⟨i, x, hx, -, -, ⟨-, hr⟩ | ⟨hgx, hr⟩⟩
  · exact hgone 80 (by decide) hr
  · exact hgone 81 (by decide) hr
  · have hat : atOf D.subs i = x.at_ := by unfold atOf; rw [hx]
    have hset : setAt D.subs i (toAt pos) = D.subs.set i (toAt pos x) := by unfold setAt; rw [hx]
    have HR : ackR D id pos = if pos < x.at_ then (82, D) else if D.top < pos then (5, D) else (0, trimD { D with subs := D.subs.set i (toAt pos x) }) := by
      rw [ackR, hr, if_neg (fun h => h rfl)]
      simp only [Int.toNat_natCast, hat, hset]
    rw [hr] at HD
    obtain ⟨A1, n1, c1, A2, n2, c2, hb, h1, h2, h3⟩ := h
    have hn2 : n2 = D.subs.length := by
      obtain ⟨_, _, hs, _, _⟩ := h2.slice
      simp only [Value.slice.injEq] at hs
      exact hs.2.1
    have hin : i < n2 := by have := (List.getElem?_eq_some_iff.1 hx).1; omega
    obtain ⟨ga, offa, B, bl, bd, rfl, hga, hgla, a0, a1, a2, a3, a4, a5, a6, a7, ar⟩ := sb_at h2 hx
    have HB := Lib.hid hb
    have H1 := Lib.hid h1
    have H2 := Lib.hid h2
    have HX := Lib.hid hx
    have H3 := Lib.hid h3
    have hgl := blk_lt hb
    have b1 := hb.c1
    have b3 := hb.c3
    have HS : Hid (D.subs.length ≤ 1000) := hs
    have HHR := Lib.hid HR
    clear hf hr hx hb h1 h2 h3 hat hset hgone hno a0 a1 a3 a4 a5 a6 a7 ar hga hn2 hs HR
    by_cases ca : pos < x.at_
    · have HT : Hid (ackR D id pos = (82, D)) := by show _ = _; rw [HHR.out, if_pos ca]
      go_enter Try.func25, Try.ntmps25
      go_wp2_with fail
      refine HD.out.mono ?_
      rintro e w5 ⟨rfl, he⟩
      have HE := Lib.hid he
      have b1 := he.cell b1 (fun e => e)
      have a2 := he.cell a2 (fun e => e)
      clear he
      go_wp2_with fail
      go_ret
      rw [HT.out]
      exact ⟨rfl, HF.out.ext0 HE.out, HE.out.of0⟩
    · by_cases c3 : D.top < pos
      · have HT : Hid (ackR D id pos = (5, D)) := by show _ = _; rw [HHR.out, if_neg ca, if_pos c3]
        go_enter Try.func25, Try.ntmps25
        go_wp2_with fail
        refine HD.out.mono ?_
        rintro e w5 ⟨rfl, he⟩
        have HE := Lib.hid he
        have b1 := he.cell b1 (fun e => e)
        have b3 := he.cell b3 (fun e => e)
        have a2 := he.cell a2 (fun e => e)
        clear he
        go_wp2_with fail
        go_ret
        rw [HT.out]
        exact ⟨rfl, HF.out.ext0 HE.out, HE.out.of0⟩
      · have HT : Hid (ackR D id pos = (0, trimD { D with subs := D.subs.set i (toAt pos x) })) := by show _ = _; rw [HHR.out, if_neg ca, if_neg c3]
        go_enter Try.func25, Try.ntmps25
        go_wp2_with fail
        refine HD.out.mono ?_
        rintro e w5 ⟨rfl, he⟩
        have HE := Lib.hid he
        have b1 := he.cell b1 (fun e => e)
        have b3 := he.cell b3 (fun e => e)
        have a2 := he.cell a2 (fun e => e)
        have BG : Hid (FdB w5 g _ _ _ _) := he.obj HB.out (fun e => e)
        clear he
        go_wp2_with fail
        refine (CloneS_own (H2.out.ext0 HE.out) HS.out (FF.out.ext HE.out)).mono ?_
        rintro e w6 ⟨B6, m, d, rfl, ho, he⟩
        obtain ⟨g6, rfl⟩ := own_some ho (by have := (List.getElem?_eq_some_iff.1 HX.out).1; omega)
        have HO := Lib.hid ho
        obtain ⟨rfl, hb6, cur, zs, T, hzs, hz⟩ := ho.to_prow
        obtain ⟨z, hzi, hzx⟩ : ∃ z, zs[i]? = some z ∧ z.1 = x := by
          have := HX.out
          rw [← hzs, List.getElem?_map, Option.map_eq_some_iff] at this
          exact this
        obtain ⟨z1, zc⟩ := z
        simp only at hzx
        subst hzx
        obtain ⟨v, hcs, hkr⟩ := hz.at_ _ (List.mem_of_getElem? hzi)
        simp only at hcs hkr
        subst hcs
        have u2 := hz.cell hzi (i := 2) rfl
        have f2 := blk_frozen hz.blk (i * 8 + 2)
        have hkr' := (hkr.ext (og_set w6 g 1 (.slice (some ⟨g6, 0, none⟩) D.subs.length d)) (fun k hk _ h => H3.out (by have h' : k = g := h; rw [← h']; exact hk.1)))
        have HK := Lib.hid hkr'
        have u2 : w6.cell? ⟨g6, i * 8 + 2, none⟩ = some (.int .i64 z1.at_) := u2
        have hil : i < D.subs.length := (List.getElem?_eq_some_iff.1 HX.out).1
        have hE6 : Ext (Only g) w5 (w6.setCell ⟨g, 1, none⟩ (.slice (some ⟨g6, 0, none⟩) D.subs.length d)) := he.of0.setCell (M := Only g) (p := ⟨g, 1, none⟩) (fun _ => rfl) _
        have BG6 : Hid (FdB w6 g _ _ _ _) := he.obj BG.out (fun e => e)
        have hg5 := blk_lt BG.out
        have hne : g ≠ g6 := by omega
        have HP := Lib.hid (hz.ext (og_set w6 g 1 (.slice (some ⟨g6, 0, none⟩) D.subs.length d)) (fun k hk _ h => H3.out (by have h' : k = g := h; rw [← h']; exact hk)))
        have hE := Lib.hid he
        have HE6 := Lib.hid hE6
        have HZ := Lib.hid hzi
        have HZS := Lib.hid hzs
        have f1 := BG6.out.fz 1
        have y1 := BG6.out.c1
        clear ho he hz hE6 hzi hzs hkr hkr'
        go_wp2_with fail
        obtain ⟨cur', HP2⟩ := HP.out.set1 HZ.out (i := 2) (by show 2 < 8; decide) (x := toAt pos z1) (u := .int .i64 pos) ⟨v, rfl, HK.out⟩
        have HS2 : Rd (sbK n) ((w6.setCell ⟨g, 1, none⟩ (.slice (some ⟨g6, 0, none⟩) D.subs.length d)).setCell ⟨g6, i * 8 + 2, none⟩ (.int .i64 pos)) ok (.slice (some ⟨g6, 0, none⟩) zs.length d) (D.subs.set i (toAt pos z1)) := by
          have := (HP2.own (base := w5.heap.size) (by show 0 < 8; decide) hb6).rd
          rw [List.length_set, map_fst_set, HZS.out] at this
          exact this
        have E7 : Hid (Ext (Only g) w ((w6.setCell ⟨g, 1, none⟩ (.slice (some ⟨g6, 0, none⟩) D.subs.length d)).setCell ⟨g6, i * 8 + 2, none⟩ (.int .i64 pos))) := by
          refine Ext.setCell (M := Only g) ((HE.out.of0.trans HE6.out (fun _ _ h => h))) (p := ⟨g6, i * 8 + 2, none⟩) (fun h => ?_) _
          have h' : g6 < w.heap.size := h
          have := HE.out.size
          omega
        have hmk : ∀ k, ok k → k < w.heap.size → ¬ Only g k := fun k hk _ h => H3.out (by have h' : k = g := h; rw [← h']; exact hk)
        have hzl : zs.length = D.subs.length := by rw [← HZS.out, List.length_map]
        have F7 : Fd n ok ((w6.setCell ⟨g, 1, none⟩ (.slice (some ⟨g6, 0, none⟩) D.subs.length d)).setCell ⟨g6, i * 8 + 2, none⟩ (.int .i64 pos)) g { D with subs := D.subs.set i (toAt pos z1) } := by
          rw [hzl] at HS2
          exact ⟨A1, n1, c1, _, _, _, blk_far (blk_set BG6.out 1 _) (by show g ≠ g6; omega) _, H1.out.ext E7.out hmk, HS2, H3.out⟩
        refine (trim_calls F7 hl (FF.out.ext E7.out)).mono ?_
        rintro e w9 ⟨rfl, hf9, he9⟩
        have HF9 := Lib.hid hf9
        have HE9 := Lib.hid he9
        clear hf9 he9 F7 HP2 HS2
        go_wp2_with fail
        go_ret
        rw [HT.out]
        exact ⟨rfl, HF9.out, E7.out.trans HE9.out (fun _ _ h => h)⟩
end Go.Proofs.Ytdjfijdnhfmeeaa
