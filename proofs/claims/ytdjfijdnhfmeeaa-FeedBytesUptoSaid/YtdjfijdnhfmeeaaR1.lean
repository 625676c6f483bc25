/- Note. -/
import Derived.Test.YtdjfijdnhfmeeaaQB
import Derived.Deep.LoopGhost
namespace Go.Proofs.Ytdjfijdnhfmeeaa
open Go.RowKit Go.TM
def toPos (pos : Int) (e : Ev) : Ev := { e with pos := pos }
def toGone (s : Sb) : Sb := { s with gone := true }
def liveN (l : List Sb) : Nat := l.countP fun s => !s.gone
def goneD (D : Fdr) : Fdr := match lastS D.subs with
  | some a => { D with subs := setAt D.subs a toGone }
  | none => D
/-- Who is furthest behind is let go, as long as too much is kept. -/
def evict : Nat → Fdr → Fdr
  | 0, D => D
  | k + 1, D => if 32 < D.evs.length then evict k (trimD (goneD D)) else D
def noteD (D : Fdr) (pos : Int) (l : List Ev) : Fdr := trimD { D with evs := D.evs ++ l.map (toPos pos), top := pos }
def noteR (D : Fdr) (pos : Int) (l : List Ev) : Int × Fdr :=
  if pos ≤ D.top then (82, D) else if 1099511627776 < pos then (5, D) else (0, evict (liveN (noteD D pos l).subs) (noteD D pos l))
theorem lastTo_spec {l : List Sb} : ∀ {j a : Nat}, lastTo l j = some a → ∃ s, l[a]? = some s ∧ s.gone = false
  | 0, a, h => by cases h
  | j + 1, a, h => by
    cases hj : l[j]? with
    | none =>
      unfold lastTo at h
      rw [hj] at h
      exact lastTo_spec h
    | some s =>
      cases hg : s.gone with
      | true => rw [lastTo_gone hj hg] at h; exact lastTo_spec h
      | false =>
        cases hb : lastTo l j with
        | none => rw [lastTo_new hj hg hb] at h; cases h; exact ⟨s, hj, hg⟩
        | some b =>
          by_cases hx : s.at_ < atOf l b
          · rw [lastTo_less hj hg hb hx] at h; cases h; exact ⟨s, hj, hg⟩
          · rw [lastTo_keep hj hg hb hx] at h; cases h; exact lastTo_spec hb
theorem liveN_gone {l : List Sb} {a : Nat} {s : Sb} (ha : l[a]? = some s) (hg : s.gone = false) : liveN (l.set a (toGone s)) + 1 = liveN l := by
  have hl := (List.getElem?_eq_some_iff.1 ha).1
  have hs := (List.getElem?_eq_some_iff.1 ha).2
  unfold liveN
  rw [List.countP_set hl, hs]
  have : 0 < l.countP fun s => !s.gone := List.countP_pos_iff.2 ⟨s, List.mem_of_getElem? ha, by simp [hg]⟩
  simp [hg, toGone]
  omega
theorem trimE_len (l : List Sb) (evs : List Ev) : (trimE l evs).length ≤ evs.length := by
  unfold trimE
  cases lastS l with
  | none => exact Nat.zero_le _
  | some a => exact List.length_filter_le _ _
theorem trimD_none {D : Fdr} (h : lastS D.subs = none) : (trimD D).evs = [] := by simp only [trimD, trimE, h]
set_option maxRecDepth 100000 in
set_option maxHeartbeats 8000000 in
theorem Note_calls {w : World} {n g : Nat} {ok okA : Nat → Prop} {D : Fdr} (h : Fd n ok w g D) (hn0 : D.next ≠ 0) (hl : D.evs.length ≤ 1048576) (hs : D.subs.length ≤ 1000) (hf : Fresh ok w) {B : Option Addr} {m d : Nat} {l : List Ev}
    (hA : Rd evK w okA (.slice B m d) l) (hAg : ¬ okA g) (hll : l.length ≤ 1048576) (pos : Int) :
    Calls Try.prog 16 #[.pointer (some ⟨g, 0, none⟩), .int .i64 pos, .slice B m d] w (FdPost n ok g (noteR D pos l).2 (.int .i64 (noteR D pos l).1) w) := by
  have HF := Lib.hid h
  have FF := Lib.hid hf
  have HA := Lib.hid hA.bound
  obtain ⟨_, _, hms, _, hm⟩ := hA.slice
  simp only [Value.slice.injEq] at hms
  obtain ⟨-, hml, -⟩ := hms
  have HML := Lib.hid hml
  have hmx : (m : Int) ≤ 9223372036854775807 := by omega
  obtain ⟨A1, n1, c1, A2, n2, c2, hb, h1, h2, h3⟩ := h
  have HD := Lib.hid (dead_live hb hn0)
  have HB := Lib.hid hb
  have H1 := Lib.hid h1
  have H2 := Lib.hid h2
  have H3 := Lib.hid h3
  have HAG := Lib.hid hAg
  have hgl := blk_lt hb
  have b0 := hb.c0
  have b3 := hb.c3
  have bz := hb.fz 3
  clear hf hA hb h1 h2 h3 hAg hm hml
  by_cases ca : pos ≤ D.top
  · have HT : Hid (noteR D pos l = (82, D)) := if_pos ca
    go_enter Try.func16, Try.ntmps16
    go_wp2_with fail
    refine HD.out.mono ?_
    rintro e w5 ⟨rfl, rfl⟩
    go_wp2_with fail
    go_ret
    rw [HT.out]
    exact ⟨rfl, HF.out, Ext.refl _ _⟩
  · by_cases cb : 1099511627776 < pos
    · have HT : Hid (noteR D pos l = (5, D)) := (if_neg ca).trans (if_pos cb)
      go_enter Try.func16, Try.ntmps16
      go_wp2_with fail
      refine HD.out.mono ?_
      rintro e w5 ⟨rfl, rfl⟩
      go_wp2_with fail
      go_ret
      rw [HT.out]
      exact ⟨rfl, HF.out, Ext.refl _ _⟩
    · have HT : Hid (noteR D pos l = (0, evict (liveN (noteD D pos l).subs) (noteD D pos l))) := (if_neg ca).trans (if_neg cb)
      go_enter Try.func16, Try.ntmps16
      go_wp2_with fail
      refine HD.out.mono ?_
      rintro e w5 ⟨rfl, rfl⟩
      go_wp2_with fail
      have F3 := HF.out.setTop pos
      have E3 := og_set w g 3 (.int .i64 pos)
      have B3 : Hid (FdB (w.setCell ⟨g, 3, none⟩ (.int .i64 pos)) g (.slice A1 n1 c1) (.slice A2 n2 c2) D.next pos) := blk_set HB.out 3 _
      have hmk : ∀ k, ok k → k < w.heap.size → ¬ Only g k := fun k hk _ h => H3.out (by have h' : k = g := h; rw [← h']; exact hk)
      refine (CloneE_own (H1.out.ext E3 hmk) (by omega) (FF.out.ext E3)).mono ?_
      rintro e w6 ⟨B6, m6, d6, rfl, ho, he⟩
      have B6' := he.obj B3.out (fun e => e)
      have E6 : Hid (Ext (Only g) w w6) := E3.trans0 he
      have z6 := FdB.fz B6' 0
      have y6 := FdB.c0 B6'
      have hb6 : ∀ k, (Value.slice B6 m6 d6).ownBlock = some k → w.heap.size ≤ k := fun k hk => Nat.le_trans E3.size (ho.base_le k hk).1
      have O6 : Hid (Own evK 43 (w6.setCell ⟨g, 0, none⟩ (.slice B6 m6 d6)) w.heap.size ok (.slice B6 m6 d6) D.evs) := (ho.lower E3.size).ext (og_set w6 g 0 _) (fun k hk hkl h => H3.out (by have h' : k = g := h; rw [← h']; exact hk))
      have B7 : Hid (FdB (w6.setCell ⟨g, 0, none⟩ (.slice B6 m6 d6)) g (.slice B6 m6 d6) (.slice A2 n2 c2) D.next pos) := blk_set B6' 0 _
      have E7 : Hid (Ext (Only g) w (w6.setCell ⟨g, 0, none⟩ (.slice B6 m6 d6))) := E6.out.trans (og_set w6 g 0 _) (fun _ _ h => h)
      clear F3 E3 B3 he ho B6' hmk
      go_wp2_with fail
      go_loopw [36] (fun i wr => ∃ (j : Nat) (A3 : Option Addr) (n3 c3 : Nat), i = .int .i64 (j : Int) ∧ j ≤ m ∧ Hid (Ext (Only g) w wr) ∧ Hid (FdB wr g (.slice A3 n3 c3) (.slice A2 n2 c2) D.next pos) ∧ Hid (Own evK 43 wr w.heap.size ok (.slice A3 n3 c3) (D.evs ++ (l.take j).map (toPos pos)))) (fun i _ => m - (intOf i).toNat)
      case atStart => exact ⟨0, B6, m6, d6, rfl, by omega, E7.out, B7.out, by show Own _ _ _ _ _ _ _; simpa using O6.out⟩
      case round =>
        obtain ⟨j, A3, n3, c3, rfl, hj, HE, BG, HO⟩ := hrel
        by_cases hlt : j < m
        · obtain ⟨x, hx⟩ : ∃ x, l[j]? = some x := ⟨_, List.getElem?_eq_getElem (by have := HML.out; omega)⟩
          obtain ⟨ga, offa, rfl, hga, hgla, a0, a1, a2, a3, a4, a5⟩ := ev_at (HA.out.ext HE.out (fun k hk _ h => HAG.out (by have h' : k = g := h; rw [← h']; exact hk.1))) hx
          have HX := Lib.hid hx
          have hszr := HE.out.size
          have hM : ∀ k, some k = (Value.slice A3 n3 c3).ownBlock → w.heap.size ≤ k ∧ k < wr.heap.size := fun k h => HO.out.base_le k h.symm
          clear hx hga
          go_wp2_with fail
          obtain ⟨q, hq⟩ : ∃ q, wr.heap.size = q := ⟨_, rfl⟩
          obtain ⟨w2, hw2⟩ : ∃ w2, wr.alloc (.cells #[.int .i64 pos, .string x.key, .bool x.had, .string x.old, .bool x.has, .string x.now] 43) = w2 := ⟨_, rfl⟩
          have E2 : Hid (Ext Non wr w2) := by rw [← hw2]; exact (Ext.refl _ _).alloc _
          have B2 : Hid (w2.heap[q]? = some (.cells #[.int .i64 pos, .string x.key, .bool x.had, .string x.old, .bool x.has, .string x.now] 43 (0, 0))) := by rw [← hw2, ← hq]; exact blk_new wr _
          have BG2 : Hid (FdB w2 g (.slice A3 n3 c3) (.slice A2 n2 c2) D.next pos) := E2.out.obj BG.out (fun e => e)
          have O2 : Hid (Own evK 43 w2 w.heap.size ok (.slice A3 n3 c3) (D.evs ++ (l.take j).map (toPos pos))) := HO.out.ext0 E2.out
          have hsz2 := E2.out.size
          have hql := blk_lt B2.out
          have t0 := blk_cell B2.out 0
          have t1 := blk_cell B2.out 1
          have t2 := blk_cell B2.out 2
          have t3 := blk_cell B2.out 3
          have t4 := blk_cell B2.out 4
          have t5 := blk_cell B2.out 5
          have g0 := BG2.out.c0
          (try rw [hq, hw2])
          clear a0 a1 a2 a3 a4 a5
          refine Last.start_ (S := fun W => W.cell? ⟨g, 0, none⟩ = some (.slice A3 n3 c3) ∧ W.cell? ⟨q, 0, none⟩ = some (.int .i64 pos) ∧ W.cell? ⟨q, 1, none⟩ = some (.string x.key) ∧ W.cell? ⟨q, 2, none⟩ = some (.bool x.had) ∧ W.cell? ⟨q, 3, none⟩ = some (.string x.old) ∧ W.cell? ⟨q, 4, none⟩ = some (.bool x.has) ∧ W.cell? ⟨q, 5, none⟩ = some (.string x.now)) (ds := [10]) #[false, false, false, false, false, false, false, false, false, false, false] (by kernel_rfl) (by rfl) (by rfl) ⟨g0, t0, t1, t2, t3, t4, t5⟩ (fun hS => ?_)
          refine Last.take_ (i := 0) (N := some 42) (v := .pointer (some ⟨g, 0, none⟩)) #[true, false, false, false, false, false, false, false, false, false, false] (by simp only [List.getElem?_toArray, List.getElem?_cons_zero]; rfl) rfl (by kernel_rfl) (by exact fun _ _ _ h => h) (Or.inl ⟨by rfl, fun W hW => by first | rfl | (try dsimp only at hW); go_simp⟩) hS rfl ?_
          simp only [Act.put, List.setIfInBounds_toArray, List.set_cons_zero, List.set_cons_succ]
          refine Last.take_ (i := 1) (N := some 43) (v := .pointer (some ⟨g, 0, none⟩)) #[true, true, false, false, false, false, false, false, false, false, false] (by simp only [List.getElem?_toArray, List.getElem?_cons_zero, List.getElem?_cons_succ]; rfl) rfl (by kernel_rfl) (by exact fun _ _ _ h => h) (Or.inl ⟨by rfl, fun W hW => by first | rfl | (try dsimp only at hW); go_simp⟩) hS rfl ?_
          simp only [Act.put, List.setIfInBounds_toArray, List.set_cons_zero, List.set_cons_succ]
          refine Last.take_ (i := 2) (N := some 44) (v := .pointer (some ⟨g, 0, none⟩)) #[true, true, true, false, false, false, false, false, false, false, false] (by simp only [List.getElem?_toArray, List.getElem?_cons_zero, List.getElem?_cons_succ]; rfl) rfl (by kernel_rfl) (by exact fun _ _ _ h => h) (Or.inl ⟨by rfl, fun W hW => by first | rfl | (try dsimp only at hW); go_simp⟩) hS rfl ?_
          simp only [Act.put, List.setIfInBounds_toArray, List.set_cons_zero, List.set_cons_succ]
          refine Last.take_ (i := 3) (N := some 45) (v := .pointer (some ⟨g, 0, none⟩)) #[true, true, true, true, false, false, false, false, false, false, false] (by simp only [List.getElem?_toArray, List.getElem?_cons_zero, List.getElem?_cons_succ]; rfl) rfl (by kernel_rfl) (by exact fun _ _ _ h => h) (Or.inl ⟨by rfl, fun W hW => by first | rfl | (try dsimp only at hW); go_simp⟩) hS rfl ?_
          simp only [Act.put, List.setIfInBounds_toArray, List.set_cons_zero, List.set_cons_succ]
          refine Last.take_ (i := 4) (N := some 46) (v := .slice A3 n3 c3) #[true, true, true, true, true, false, false, false, false, false, false] (by simp only [List.getElem?_toArray, List.getElem?_cons_zero, List.getElem?_cons_succ]; rfl) rfl (by kernel_rfl) (by exact fun _ _ _ h => h) (Or.inl ⟨by rfl, fun W hW => by first | rfl | (try dsimp only at hW); go_simp⟩) hS rfl ?_
          simp only [Act.put, List.setIfInBounds_toArray, List.set_cons_zero, List.set_cons_succ]
          refine Last.take_ (i := 5) (N := some 47) (v := .agg #[.int .i64 pos, .string x.key, .bool x.had, .string x.old, .bool x.has, .string x.now]) #[true, true, true, true, true, true, false, false, false, false, false] (by simp only [List.getElem?_toArray, List.getElem?_cons_zero, List.getElem?_cons_succ]; rfl) rfl (by kernel_rfl) (by exact fun _ _ _ h => h) (Or.inl ⟨by rfl, fun W hW => by first | rfl | (try dsimp only at hW); go_simp⟩) hS rfl ?_
          simp only [Act.put, List.setIfInBounds_toArray, List.set_cons_zero, List.set_cons_succ]
          refine Last.one_ (i := 6) (N := some 48) #[true, true, true, true, true, true, true, false, false, false, false] (by simp only [List.getElem?_toArray, List.getElem?_cons_zero, List.getElem?_cons_succ]; rfl) rfl (by kernel_rfl) (by decide) (fun K hK => ?_)
          go_simp
          refine hK.out _ _ ((Ext.cell ((Ext.refl Non w2).drew.alloc _) g0 (fun e => e)).symm ▸ ⟨rfl, ((Ext.refl Non w2).drew.alloc _).cell t0 (fun e => e), ((Ext.refl Non w2).drew.alloc _).cell t1 (fun e => e), ((Ext.refl Non w2).drew.alloc _).cell t2 (fun e => e), ((Ext.refl Non w2).drew.alloc _).cell t3 (fun e => e), ((Ext.refl Non w2).drew.alloc _).cell t4 (fun e => e), ((Ext.refl Non w2).drew.alloc _).cell t5 (fun e => e)⟩) (fun hS => ?_)
          try simp only [Act.put, List.setIfInBounds_toArray, List.set_cons_zero, List.set_cons_succ]
          refine Last.one_ (i := 7) (N := some 49) #[true, true, true, true, true, true, true, true, false, false, false] (by simp only [List.getElem?_toArray, List.getElem?_cons_zero, List.getElem?_cons_succ]; rfl) rfl (by kernel_rfl) (by decide) (fun K hK => ?_)
          refine step_app evK (ok := ok) (v := .slice A3 n3 c3) (vx := .slice (some ⟨w2.heap.size, 0, none⟩) 1 1) (xs := D.evs ++ (l.take j).map (toPos pos)) (ys := [toPos pos x]) w.heap.size (by rfl) _ _ 34 43 _ 72 (by rfl) Try.underlying34 info43 rfl (by decide) (by simp [Act.eval]) (by simp [Act.eval]) (O2.out.ext0 ((Ext.refl Non w2).drew.alloc _)) ?_ ?_ ?_ ?_ ?_ ?_
          · exact Rd.lit_at (cs := (toPos pos x).cells) (e := 43) (fr := (0, 0)) (blk_new w2.drew _) rfl ⟨FF.out _ (by have : w2.drew.heap.size = w2.heap.size := rfl; omega), fun h => by have := hM _ h; have : w2.drew.heap.size = w2.heap.size := rfl; omega⟩
          · intro k hk
            have hk' : w2.heap.size + 1 ≤ k := by simpa using hk
            exact FF.out k (by omega)
          · simp only [List.length_append, List.length_map, List.length_take, List.length_singleton]; omega
          · simp only [List.length_append, List.length_map, List.length_take, List.length_singleton]; omega
          · simp; omega
          intro v' w3 hown hext hblk
          obtain ⟨A6, n6, c6, rfl⟩ : ∃ A n c, v' = .slice A n c := by obtain ⟨A6, c6, h6, _, _⟩ := hown.slice; exact ⟨_, _, _, h6⟩
          have E3 : Hid (Ext (fun k => some k = (Value.slice A3 n3 c3).ownBlock) w2 w3) := Ext.trans ((Ext.refl _ _).drew.alloc _) hext (fun _ _ e => e)
          have O3 := Lib.hid hown
          have hng : ¬ some g = (Value.slice A3 n3 c3).ownBlock := fun h => by have := hM _ h; omega
          have hnq : ¬ some q = (Value.slice A3 n3 c3).ownBlock := fun h => by have := hM _ h; omega
          have BG3 : Hid (FdB w3 g _ _ _ _) := E3.out.obj BG2.out hng
          have g0 := BG3.out.c0
          have z0 := BG3.out.fz 0
          have t0 := E3.out.cell t0 hnq
          have t1 := E3.out.cell t1 hnq
          have t2 := E3.out.cell t2 hnq
          have t3 := E3.out.cell t3 hnq
          have t4 := E3.out.cell t4 hnq
          have t5 := E3.out.cell t5 hnq
          clear hown hext hblk
          refine hK.out _ _ ⟨g0, t0, t1, t2, t3, t4, t5⟩ (fun hS => ?_)
          try simp only [Act.put, List.setIfInBounds_toArray, List.set_cons_zero, List.set_cons_succ]
          refine Last.take_ (i := 8) (N := some 50) (v := .pointer (some ⟨g, 0, none⟩)) #[true, true, true, true, true, true, true, true, true, false, false] (by simp only [List.getElem?_toArray, List.getElem?_cons_zero, List.getElem?_cons_succ]; rfl) rfl (by kernel_rfl) (by exact fun _ _ _ h => h) (Or.inl ⟨by rfl, fun W hW => by first | rfl | (try dsimp only at hW); go_simp⟩) hS rfl ?_
          simp only [Act.put, List.setIfInBounds_toArray, List.set_cons_zero, List.set_cons_succ]
          refine Last.take_ (i := 9) (N := some 51) (v := .pointer (some ⟨g, 0, none⟩)) #[true, true, true, true, true, true, true, true, true, true, false] (by simp only [List.getElem?_toArray, List.getElem?_cons_zero, List.getElem?_cons_succ]; rfl) rfl (by kernel_rfl) (by exact fun _ _ _ h => h) (Or.inl ⟨by rfl, fun W hW => by first | rfl | (try dsimp only at hW); go_simp⟩) hS rfl ?_
          simp only [Act.put, List.setIfInBounds_toArray, List.set_cons_zero, List.set_cons_succ]
          refine Last.last_ (i := 10) (N := none) #[true, true, true, true, true, true, true, true, true, true, true] (by simp only [List.getElem?_toArray, List.getElem?_cons_zero, List.getElem?_cons_succ]; rfl) rfl (by kernel_rfl) (by decide) (fun K hK => ?_)
          go_simp
          refine hK.out _ _ ?_
          try simp only [Act.put, List.setIfInBounds_toArray, List.set_cons_zero, List.set_cons_succ]
          refine Last.done_ (by kernel_rfl) ?_
          go_wp2_with fail
          have BG4 : Hid (FdB (w3.setCell ⟨g, 0, none⟩ (.slice A6 n6 c6)) g (.slice A6 n6 c6) (.slice A2 n2 c2) D.next pos) := blk_set BG3.out 0 _
          have E4 : Hid (Ext (Only g) w (w3.setCell ⟨g, 0, none⟩ (.slice A6 n6 c6))) := ((HE.out.trans0 E2.out).trans E3.out (fun i hi h => by have := hM _ h; omega)).trans (og_set w3 g 0 _) (fun _ _ h => h)
          have O4 : Hid (Own evK 43 (w3.setCell ⟨g, 0, none⟩ (.slice A6 n6 c6)) w.heap.size ok (.slice A6 n6 c6) (D.evs ++ (l.take (j + 1)).map (toPos pos))) := by
            show Own _ _ _ _ _ _ _
            have := O3.out.ext (og_set w3 g 0 (.slice A6 n6 c6)) (fun k hk hkl h => H3.out (by have h' : k = g := h; rw [← h']; exact hk))
            rw [List.take_succ_eq_append_getElem (by have := HML.out; omega), (List.getElem?_eq_some_iff.1 HX.out).2, List.map_append, ← List.append_assoc]
            exact this
          go_roundw
          case rel => exact ⟨j + 1, A6, n6, c6, by go_num, by omega, E4.out, BG4.out, O4.out⟩
          case measure => simp [intOf]; omega
        · obtain rfl : j = m := by omega
          have F8 : Hid (Fd n ok wr g { D with evs := D.evs ++ l.map (toPos pos), top := pos }) := by
            have hO := HO.out
            rw [List.take_of_length_le (by have := HML.out; omega)] at hO
            exact ⟨A3, n3, c3, A2, n2, c2, BG.out, hO.rd, H2.out.ext HE.out (fun k hk _ h => H3.out (by have h' : k = g := h; rw [← h']; exact hk)), H3.out⟩
          go_wp2_with fail
          refine (trim_calls F8.out (by simp only [List.length_append, List.length_map]; omega) (FF.out.ext HE.out)).mono ?_
          rintro e w9 ⟨rfl, hf9, he9⟩
          have HF9 : Hid (Fd n ok w9 g (noteD D pos l)) := hf9
          have HE9 : Hid (Ext (Only g) w w9) := HE.out.trans he9 (fun _ _ h => h)
          clear hf9 he9
          go_wp2_with fail
          go_loopg [] (liveN (noteD D pos l).subs) (fun k wr => ∃ D1, Hid (Fd n ok wr g D1) ∧ Hid (Ext (Only g) w wr) ∧ Hid (liveN D1.subs = k) ∧ Hid (evict k D1 = evict (liveN (noteD D pos l).subs) (noteD D pos l)) ∧ Hid (lastS D1.subs = none → D1.evs = []) ∧ Hid (D1.evs.length ≤ 2097152 ∧ D1.subs.length ≤ 1000 ∧ D1.next ≠ 0))
          case atStart => exact ⟨noteD D pos l, HF9.out, HE9.out, rfl, rfl, fun h => trimD_none h, Nat.le_trans (trimE_len _ _) (by simp only [List.length_append, List.length_map]; omega), hs, hn0⟩
          case round =>
            obtain ⟨D1, F1, EX, HLV, HEV, HNO, HSZ⟩ := hrel
            obtain ⟨A1', n1', c1', A2', n2', c2', hb, h1, h2, h3⟩ := F1.out
            have hn1' : n1' = D1.evs.length := by
              obtain ⟨_, _, hs, _, _⟩ := h1.slice
              simp only [Value.slice.injEq] at hs
              exact hs.2.1
            have HN1 := Lib.hid hn1'
            have b0 := hb.c0
            have b1 := hb.c1
            have HBr := Lib.hid hb
            have H1r := Lib.hid h1
            have H2r := Lib.hid h2
            clear h1 h2 hb hn1'
            by_cases h32 : 32 < n1'
            · obtain ⟨a, ha⟩ : ∃ a, lastS D1.subs = some a := by
                cases hc : lastS D1.subs with
                | some a => exact ⟨a, rfl⟩
                | none =>
                  have := HN1.out
                  rw [HNO.out hc] at this
                  simp at this
                  omega
              obtain ⟨x, hx, hgx⟩ := lastTo_spec ha
              have hset : goneD D1 = { D1 with subs := D1.subs.set a (toGone x) } := by unfold goneD; rw [ha]; simp only [setAt, hx]
              have hlv := liveN_gone hx hgx
              have HG : Hid (evict (liveN (D1.subs.set a (toGone x))) (trimD { D1 with subs := D1.subs.set a (toGone x) }) = evict (liveN (noteD D pos l).subs) (noteD D pos l)) := by
                have := HEV.out
                rw [← HLV.out, ← hlv, evict, if_pos (by rw [← HN1.out]; exact h32), hset] at this
                exact this
              have HLT : Hid (liveN (D1.subs.set a (toGone x)) < gk) := by show _ < _; rw [← HLV.out]; omega
              have HLA := Lib.hid ha
              have HX := Lib.hid hx
              have HGX := Lib.hid hgx
              have hszr := EX.out.size
              clear ha hx hgx hset hlv
              go_wp2_with fail
              refine (CloneS_own H2r.out HSZ.out.2.1 (FF.out.ext EX.out)).mono ?_
              rintro e w6 ⟨B6, mm, d, rfl, ho, he⟩
              have hil : a < D1.subs.length := (List.getElem?_eq_some_iff.1 HX.out).1
              obtain ⟨g6, rfl⟩ := own_some ho (by omega)
              obtain ⟨rfl, hb6, cur, zs, T, hzs, hz⟩ := ho.to_prow
              obtain ⟨z, hzi, hzx⟩ : ∃ z, zs[a]? = some z ∧ z.1 = x := by
                have := HX.out
                rw [← hzs, List.getElem?_map, Option.map_eq_some_iff] at this
                exact this
              obtain ⟨z1, zc⟩ := z
              simp only at hzx
              subst hzx
              obtain ⟨v, hcs, hkr⟩ := hz.at_ _ (List.mem_of_getElem? hzi)
              simp only at hcs hkr
              subst hcs
              have BG6 : Hid (FdB w6 g _ _ _ _) := he.obj HBr.out (fun e => e)
              have hgr := blk_lt HBr.out
              have hne : g ≠ g6 := by omega
              obtain ⟨w7, hw7⟩ : ∃ w7, w6.setCell ⟨g, 1, none⟩ (.slice (some ⟨g6, 0, none⟩) D1.subs.length d) = w7 := ⟨_, rfl⟩
              have e67 : Ext (Only g) w6 w7 := by rw [← hw7]; exact og_set w6 g 1 _
              have hmg : ∀ k, ok k → k < w6.heap.size → ¬ Only g k := fun k hk _ h => H3.out (by have h' : k = g := h; rw [← h']; exact hk)
              have HP7 := Lib.hid (hz.ext e67 hmg)
              have HKR := Lib.hid (hkr.ext e67 (fun k hk hl => hmg k hk.1 hl))
              have HK7 : Hid (w7.cell? ⟨g6, a * 8 + 7, none⟩ = some (.bool z1.gone)) := (HP7.out.cell hzi (i := 7) rfl)
              have B7 : Hid (FdB w7 g (.slice A1' n1' c1') (.slice (some ⟨g6, 0, none⟩) D1.subs.length d) D1.next D1.top) := by rw [← hw7]; exact blk_set BG6.out 1 _
              have E7 : Hid (Ext (Only g) w w7) := (EX.out.trans0 he).trans e67 (fun _ _ h => h)
              have HRS7 : Rd (sbK n) w7 ok (.slice (some ⟨g6, 0, none⟩) D1.subs.length d) D1.subs := by
                have := (HP7.out.own (base := 0) (by show 0 < 8; decide) (Nat.zero_le _)).rd
                rw [hzs] at this
                rwa [show zs.length = D1.subs.length by rw [← hzs, List.length_map]] at this
              have F7 : Hid (Fd n ok w7 g D1) := ⟨_, _, _, _, _, _, B7.out, (H1r.out.ext0 he).ext e67 hmg, HRS7, H3.out⟩
              have HRE : Hid (Rd evK w7 (fun k => ok k ∧ k < wr.heap.size) (.slice A1' n1' c1') D1.evs) := (H1r.out.bound.ext0 he).ext e67 (fun k hk hl => hmg k hk.1 hl)
              have HZ := Lib.hid hzi
              have HZS := Lib.hid hzs
              have HB6 := Lib.hid hb6
              have f1 := BG6.out.fz 1
              have y1 := BG6.out.c1
              clear ho he hz hzi hzs hkr hmg e67 HRS7
              go_wp2_with fail
              have g1 := B7.out.c1
              refine Last.start_ (S := fun W => W.cell? ⟨g, 1, none⟩ = some (.slice (some ⟨g6, 0, none⟩) D1.subs.length d)) (ds := [8]) #[false, false, false, false, false, false, false, false, false] (by kernel_rfl) (by rfl) (by rfl) g1 (fun hS => ?_)
              refine Last.take_ (i := 0) (N := some 69) (v := .pointer (some ⟨g, 0, none⟩)) #[true, false, false, false, false, false, false, false, false] (by simp only [List.getElem?_toArray, List.getElem?_cons_zero]; rfl) rfl (by kernel_rfl) (by exact fun _ _ _ h => h) (Or.inl ⟨by rfl, fun W hW => by first | rfl | (try dsimp only at hW); go_simp⟩) hS rfl ?_
              simp only [Act.put, List.setIfInBounds_toArray, List.set_cons_zero, List.set_cons_succ]
              refine Last.take_ (i := 1) (N := some 70) (v := .pointer (some ⟨g, 0, none⟩)) #[true, true, false, false, false, false, false, false, false] (by simp only [List.getElem?_toArray, List.getElem?_cons_zero, List.getElem?_cons_succ]; rfl) rfl (by kernel_rfl) (by exact fun _ _ _ h => h) (Or.inl ⟨by rfl, fun W hW => by first | rfl | (try dsimp only at hW); go_simp⟩) hS rfl ?_
              simp only [Act.put, List.setIfInBounds_toArray, List.set_cons_zero, List.set_cons_succ]
              refine Last.take_ (i := 2) (N := some 71) (v := .pointer (some ⟨g, 1, none⟩)) #[true, true, true, false, false, false, false, false, false] (by simp only [List.getElem?_toArray, List.getElem?_cons_zero, List.getElem?_cons_succ]; rfl) rfl (by kernel_rfl) (by exact fun _ _ _ h => h) (Or.inl ⟨by rfl, fun W hW => by first | rfl | (try dsimp only at hW); go_simp⟩) hS rfl ?_
              simp only [Act.put, List.setIfInBounds_toArray, List.set_cons_zero, List.set_cons_succ]
              refine Last.take_ (i := 3) (N := some 72) (v := .slice (some ⟨g6, 0, none⟩) D1.subs.length d) #[true, true, true, true, false, false, false, false, false] (by simp only [List.getElem?_toArray, List.getElem?_cons_zero, List.getElem?_cons_succ]; rfl) rfl (by kernel_rfl) (by exact fun _ _ _ h => h) (Or.inl ⟨by rfl, fun W hW => by first | rfl | (try dsimp only at hW); go_simp⟩) hS rfl ?_
              simp only [Act.put, List.setIfInBounds_toArray, List.set_cons_zero, List.set_cons_succ]
              refine Last.take_ (i := 4) (N := some 73) (v := .pointer (some ⟨g, 0, none⟩)) #[true, true, true, true, true, false, false, false, false] (by simp only [List.getElem?_toArray, List.getElem?_cons_zero, List.getElem?_cons_succ]; rfl) rfl (by kernel_rfl) (by exact fun _ _ _ h => h) (Or.inl ⟨by rfl, fun W hW => by first | rfl | (try dsimp only at hW); go_simp⟩) hS rfl ?_
              simp only [Act.put, List.setIfInBounds_toArray, List.set_cons_zero, List.set_cons_succ]
              refine Last.one_ (i := 5) (N := some 74) #[true, true, true, true, true, true, false, false, false] (by simp only [List.getElem?_toArray, List.getElem?_cons_zero, List.getElem?_cons_succ]; rfl) rfl (by kernel_rfl) (by decide) (fun K hK => ?_)
              refine Last.goes_ Try.func52 (by kernel_rfl) rfl #[.pointer (some ⟨g, 0, none⟩)] (by rfl) rfl rfl (by simp [Act.eval]) ?_
              refine (last_calls (F7.out.ext0 (Ext.refl Non _).drew)).mono ?_
              rintro e w8 ⟨rfl, he⟩
              have E8 : Hid (Ext Non w7 w8) := ((Ext.refl Non w7).drew).trans0 he
              have g1 := E8.out.cell g1 (fun e => e)
              have B8 := Lib.hid (E8.out.obj (g := g6) HP7.out.blk (fun e => e))
              have k7 := E8.out.cell HK7.out (fun e => e)
              have k7' := blk_frozen B8.out (a * 8 + 7)
              have hl8 := blk_lt B8.out
              clear he
              rw [HLA.out]
              simp only [idx]
              refine ⟨_, rfl, ?_⟩
              refine hK.out _ _ g1 (fun hS => ?_)
              try simp only [Act.put, List.setIfInBounds_toArray, List.set_cons_zero, List.set_cons_succ]
              refine Last.take_ (i := 6) (N := some 75) (v := .pointer (some ⟨g6, a * 8, none⟩)) #[true, true, true, true, true, true, true, false, false] (by simp only [List.getElem?_toArray, List.getElem?_cons_zero, List.getElem?_cons_succ]; rfl) rfl (by kernel_rfl) (by exact fun _ _ _ h => h) (Or.inl ⟨by rfl, fun W hW => by first | rfl | (try dsimp only at hW); go_simp⟩) hS rfl ?_
              simp only [Act.put, List.setIfInBounds_toArray, List.set_cons_zero, List.set_cons_succ]
              refine Last.take_ (i := 7) (N := some 76) (v := .pointer (some ⟨g6, a * 8 + 7, none⟩)) #[true, true, true, true, true, true, true, true, false] (by simp only [List.getElem?_toArray, List.getElem?_cons_zero, List.getElem?_cons_succ]; rfl) rfl (by kernel_rfl) (by exact fun _ _ _ h => h) (Or.inl ⟨by rfl, fun W hW => by first | rfl | (try dsimp only at hW); go_simp⟩) hS rfl ?_
              simp only [Act.put, List.setIfInBounds_toArray, List.set_cons_zero, List.set_cons_succ]
              refine Last.last_ (i := 8) (N := none) #[true, true, true, true, true, true, true, true, true] (by simp only [List.getElem?_toArray, List.getElem?_cons_zero, List.getElem?_cons_succ]; rfl) rfl (by kernel_rfl) (by decide) (fun K hK => ?_)
              go_simp
              refine hK.out _ _ ?_
              try simp only [Act.put, List.setIfInBounds_toArray, List.set_cons_zero, List.set_cons_succ]
              refine Last.done_ (by kernel_rfl) ?_
              go_wp2_with fail
              obtain ⟨cur', HP2⟩ := (HP7.out.ext E8.out (fun _ _ _ h => h)).set1 HZ.out (i := 7) (by show 7 < 8; decide) (x := toGone z1) (u := .bool true) ⟨v, rfl, HKR.out.ext0 E8.out⟩
              have hzl : zs.length = D1.subs.length := by rw [← HZS.out, List.length_map]
              have HS2 : Rd (sbK n) (w8.setCell ⟨g6, a * 8 + 7, none⟩ (.bool true)) ok (.slice (some ⟨g6, 0, none⟩) zs.length d) (D1.subs.set a (toGone z1)) := by
                have := (HP2.own (base := 0) (by show 0 < 8; decide) (Nat.zero_le _)).rd
                rw [List.length_set, map_fst_set, HZS.out] at this
                exact this
              have E89 : Hid (Ext (Only g) w (w8.setCell ⟨g6, a * 8 + 7, none⟩ (.bool true))) := by
                refine Ext.setCell (M := Only g) (E7.out.trans0 E8.out) (p := ⟨g6, a * 8 + 7, none⟩) (fun h => ?_) _
                have h' : g6 < w.heap.size := h
                have := HB6.out
                omega
              have F9 : Fd n ok (w8.setCell ⟨g6, a * 8 + 7, none⟩ (.bool true)) g { D1 with subs := D1.subs.set a (toGone z1) } := by
                rw [hzl] at HS2
                exact ⟨A1', n1', c1', _, _, _, blk_far (E8.out.obj B7.out (fun e => e)) (by show g ≠ g6; omega) _, (HRE.out.ext0 E8.out).ext (Ext.setCell (Ext.refl (fun k => k = g6) _) (p := ⟨g6, a * 8 + 7, none⟩) (fun _ => rfl) _) (fun k hk _ h => by have h' : k = g6 := h; have := HB6.out; have := hk.2; omega) |>.mono (fun _ hk => hk.1), HS2, H3.out⟩
              refine (trim_calls F9 (by have := HSZ.out.1; show D1.evs.length ≤ _; omega) (FF.out.ext E89.out)).mono ?_
              rintro e w11 ⟨rfl, hf11, he11⟩
              have F11 := Lib.hid hf11
              have E11 : Hid (Ext (Only g) w w11) := E89.out.trans he11 (fun _ _ h => h)
              clear hf11 he11 F9 HP2 HS2
              go_wp2_with fail
              go_roundg (liveN (D1.subs.set a (toGone z1)))
              case measure => exact HLT.out
              case rel => exact ⟨_, F11.out, E11.out, rfl, HG.out, fun h => trimD_none h, Nat.le_trans (trimE_len _ _) HSZ.out.1, by show (D1.subs.set a (toGone z1)).length ≤ _; rw [List.length_set]; exact HSZ.out.2.1, HSZ.out.2.2⟩
            · have HR : Hid (D1 = evict (liveN (noteD D pos l).subs) (noteD D pos l)) := by
                show _ = _
                rw [← HEV.out]
                cases gk with
                | zero => rfl
                | succ k => rw [evict, if_neg (by rw [← HN1.out]; exact h32)]
              go_wp2_with fail
              go_ret
              rw [HT.out]
              refine ⟨rfl, ?_, EX.out⟩
              show Fd n ok wr g (evict (liveN (noteD D pos l).subs) (noteD D pos l))
              rw [← HR.out]
              exact F1.out
end Go.Proofs.Ytdjfijdnhfmeeaa
