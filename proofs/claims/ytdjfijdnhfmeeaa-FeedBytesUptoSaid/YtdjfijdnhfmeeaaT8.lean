/- The document's Drop. -/
import Derived.Test.YtdjfijdnhfmeeaaT7
namespace Go.Proofs.Ytdjfijdnhfmeeaa
open Go.RowKit Go.TM
/-- Of numbers in order one alone is another's: what is left without it. -/
theorem drop_eq {l : List Sb} (h : l.Pairwise fun a b => a.id < b.id) {i : Nat} {x : Sb} (hx : l[i]? = some x) : l.take i ++ l.drop (i + 1) = l.filter fun s => !(s.id == x.id) := by
  obtain ⟨hi, hxe⟩ := List.getElem?_eq_some_iff.1 hx
  have hsplit : l = l.take i ++ (x :: l.drop (i + 1)) := by
    rw [← hxe, ← List.drop_eq_getElem_cons hi, List.take_append_drop]
  have hp := h
  rw [hsplit, List.pairwise_append, List.pairwise_cons] at hp
  conv => rhs; rw [hsplit]
  rw [List.filter_append, List.filter_cons_of_neg (by simp)]
  congr 1
  · refine (List.filter_eq_self.2 fun a ha => ?_).symm
    have := hp.2.2 a ha x (List.mem_cons_self ..)
    simp
    omega
  · refine (List.filter_eq_self.2 fun a ha => ?_).symm
    have := hp.2.1.1 a ha
    simp
    omega
set_option maxRecDepth 100000 in
set_option maxHeartbeats 16000000 in
theorem RDrop_calls {w : World} {n g : Nat} {ok : Nat → Prop} {D : Fdr} (h : Rf n ok w g D) (ho : Ord D) (hl : D.evs.length ≤ 1048576000) (hs : D.subs.length ≤ 1000) (hf : Fresh ok w) (id : Int) :
    Calls Try.prog 24 #[.pointer (some ⟨g, 0, none⟩), .int .i64 id] w (RfPost n ok g (dropR D id).2 (.int .i64 (dropR D id).1) w) := by
  have HF := Lib.hid h
  have FF := Lib.hid hf
  have HD := Lib.hid (sub_calls h id)
  rcases subR_cases D.subs id with ⟨hr, hr2⟩ | ⟨i, x, hx, hid, hcs⟩
  · have HT : Hid (dropR D id = (80, D)) := by show _ = _; rw [dropR, hr, if_pos rfl]
    rw [hr2] at HD
    clear h hf hr hr2 ho
    go_enter Try.func24, Try.ntmps24
    go_wp2_with fail
    refine HD.out.mono ?_
    rintro e w5 ⟨rfl, he⟩
    have HE := Lib.hid he
    clear he
    go_wp2_with fail
    go_ret
    rw [HT.out]
    exact ⟨rfl, HF.out.ext0 HE.out, HE.out.of0⟩
  · obtain ⟨v, hv, hsub, hfind⟩ : ∃ v : Int, v ≠ 80 ∧ subR D.subs id = ((i : Int), v) ∧ (findR D.subs id).2 = v := by
      rcases hcs with ⟨-, h1, h2⟩ | ⟨-, h1, h2⟩
      · exact ⟨81, by decide, h2, by rw [h1]⟩
      · exact ⟨0, by decide, h2, by rw [h1]⟩
    have HT : Hid (dropR D id = (0, trimD { D with subs := D.subs.take i ++ D.subs.drop (i + 1) })) := by
      show _ = _
      rw [dropR, hfind, if_neg hv, drop_eq ho.ids hx, hid]
    rw [hsub] at HD
    have ev : (v == 80) = false := beq_eq_false_iff_ne.2 hv
    obtain ⟨A1, n1, c1, A2, n2, c2, hb, h1, h2, h3⟩ := h
    have hn2 : n2 = D.subs.length := by
      obtain ⟨_, _, hs, _, _⟩ := h2.slice
      simp only [Value.slice.injEq] at hs
      exact hs.2.1
    have hnc : n2 ≤ c2 := by
      obtain ⟨_, _, hs, hc, _⟩ := h2.slice
      simp only [Value.slice.injEq] at hs
      omega
    have hin : i < n2 := by have := (List.getElem?_eq_some_iff.1 hx).1; omega
    have hc63 : (i : Int) + 1 ≤ 9223372036854775807 := by have := (List.getElem?_eq_some_iff.1 hx).1; omega
    have hwr : IntKind.i64.wrap ((i : Int) + 1) = (i : Int) + 1 := by rw [IntKind.wrap_i64]; omega
    have hwr2 : wrap64 ((i : Int) + 1) = (i : Int) + 1 := by rw [← hwr]; exact (Last.i64_w _).symm.trans (by rw [hwr, hwr])
    obtain ⟨ga, offa, B, bl, bd, rfl, hga, hgla, -⟩ := sb_at h2 hx
    have HB := Lib.hid hb
    have H2 := Lib.hid h2
    have HS : Hid (D.subs.length ≤ 1000) := hs
    have hil : i < D.subs.length := (List.getElem?_eq_some_iff.1 hx).1
    have hgl := blk_lt hb
    have b1 := blk_cell hb 1
    clear hf hcs hsub hfind hx hb h1 h2 h3 hga ho hid hs hn2
    go_enter Try.func24, Try.ntmps24
    go_wp2_with fail
    refine HD.out.mono ?_
    rintro e w5 ⟨rfl, he⟩
    have HE := Lib.hid he
    have b1 := he.cell b1 (fun e => e)
    have HB5 := Lib.hid (he.obj HB.out (fun e => e))
    have hga5 : ga < w5.heap.size := by have := he.size; omega
    have HTK : Hid (Rd (sbK n) w5 (fun k => ok k ∧ k < w5.heap.size) (.slice (some ⟨ga, offa, none⟩) i c2) (D.subs.take i)) := ((H2.out.ext0 he).take (by omega)).bound
    have HDR0 := Lib.hid ((H2.out.ext0 he).drop (k := i + 1) (by omega)).bound
    clear he
    have hq1 : (0 : Int) ≤ (i : Int) + 1 := by omega
    have hq2 : ¬ ((n2 : Int) < (i : Int) + 1) := by omega
    have hq3 : ¬ ((c2 : Int) < (i : Int)) := by omega
    have hq4 : ¬ ((i : Int) + 1 < (i : Int)) := by omega
    by_cases hcc : c2 = i + 1
    · subst hcc
      obtain rfl : n2 = i + 1 := by omega
      have HDR : Hid (Rd (sbK n) w5 (fun k => ok k ∧ k < w5.heap.size) (.slice (some ⟨ga, offa, none⟩) 0 0) (D.subs.drop (i + 1))) := by
        have := HDR0.out
        rw [if_pos rfl, Nat.sub_self] at this
        exact this
      go_wp2_with fail
      refine Last.start_ (S := fun W => W.cell? ⟨g, 1, none⟩ = some (.slice (some ⟨ga, offa, none⟩) (i + 1) (i + 1))) (ds := [19]) #[false, false, false, false, false, false, false, false, false, false, false, false, false, false, false, false, false, false, false, false] (by kernel_rfl) (by rfl) (by rfl) b1 (fun hS => ?_)
      refine Last.take_ (i := 0) (N := some 16) (v := .pointer (some ⟨g, 0, none⟩)) #[true, false, false, false, false, false, false, false, false, false, false, false, false, false, false, false, false, false, false, false] (by simp only [List.getElem?_toArray, List.getElem?_cons_zero]; rfl) rfl (by kernel_rfl) (by exact fun _ _ _ h => h) (Or.inl ⟨by rfl, fun W hW => by first | rfl | (try dsimp only at hW); go_simp⟩) hS rfl ?_
      simp only [Act.put, List.setIfInBounds_toArray, List.set_cons_zero, List.set_cons_succ]
      refine Last.take_ (i := 2) (N := some 18) (v := .pointer (some ⟨g, 0, none⟩)) #[true, false, true, false, false, false, false, false, false, false, false, false, false, false, false, false, false, false, false, false] (by simp only [List.getElem?_toArray, List.getElem?_cons_zero, List.getElem?_cons_succ]; rfl) rfl (by kernel_rfl) (by exact fun _ _ _ h => h) (Or.inl ⟨by rfl, fun W hW => by first | rfl | (try dsimp only at hW); go_simp⟩) hS rfl ?_
      simp only [Act.put, List.setIfInBounds_toArray, List.set_cons_zero, List.set_cons_succ]
      refine Last.take_ (i := 3) (N := some 19) (v := .pointer (some ⟨g, 0, none⟩)) #[true, false, true, true, false, false, false, false, false, false, false, false, false, false, false, false, false, false, false, false] (by simp only [List.getElem?_toArray, List.getElem?_cons_zero, List.getElem?_cons_succ]; rfl) rfl (by kernel_rfl) (by exact fun _ _ _ h => h) (Or.inl ⟨by rfl, fun W hW => by first | rfl | (try dsimp only at hW); go_simp⟩) hS rfl ?_
      simp only [Act.put, List.setIfInBounds_toArray, List.set_cons_zero, List.set_cons_succ]
      refine Last.take_ (i := 4) (N := some 20) (v := .pointer (some ⟨g, 1, none⟩)) #[true, false, true, true, true, false, false, false, false, false, false, false, false, false, false, false, false, false, false, false] (by simp only [List.getElem?_toArray, List.getElem?_cons_zero, List.getElem?_cons_succ]; rfl) rfl (by kernel_rfl) (by exact fun _ _ _ h => h) (Or.inl ⟨by rfl, fun W hW => by first | rfl | (try dsimp only at hW); go_simp⟩) hS rfl ?_
      simp only [Act.put, List.setIfInBounds_toArray, List.set_cons_zero, List.set_cons_succ]
      refine Last.take_ (i := 5) (N := some 21) (v := .slice (some ⟨ga, offa, none⟩) (i + 1) (i + 1)) #[true, false, true, true, true, true, false, false, false, false, false, false, false, false, false, false, false, false, false, false] (by simp only [List.getElem?_toArray, List.getElem?_cons_zero, List.getElem?_cons_succ]; rfl) rfl (by kernel_rfl) (by exact fun _ _ _ h => h) (Or.inl ⟨by rfl, fun W hW => by first | rfl | (try dsimp only at hW); go_simp⟩) hS rfl ?_
      simp only [Act.put, List.setIfInBounds_toArray, List.set_cons_zero, List.set_cons_succ]
      refine Last.take_ (i := 6) (N := some 22) (v := .int .i64 (i : Int)) #[true, false, true, true, true, true, true, false, false, false, false, false, false, false, false, false, false, false, false, false] (by simp only [List.getElem?_toArray, List.getElem?_cons_zero, List.getElem?_cons_succ]; rfl) rfl (by kernel_rfl) (by exact fun _ _ _ h => h) (Or.inl ⟨by rfl, fun W hW => by first | rfl | (try dsimp only at hW); go_simp⟩) hS rfl ?_
      simp only [Act.put, List.setIfInBounds_toArray, List.set_cons_zero, List.set_cons_succ]
      refine Last.take_ (i := 7) (N := some 23) (v := .slice (some ⟨ga, offa, none⟩) i (i + 1)) #[true, false, true, true, true, true, true, true, false, false, false, false, false, false, false, false, false, false, false, false] (by simp only [List.getElem?_toArray, List.getElem?_cons_zero, List.getElem?_cons_succ]; rfl) rfl (by kernel_rfl) (by exact fun _ _ _ h => h) (Or.inl ⟨by rfl, fun W hW => by first | rfl | (try dsimp only at hW); go_simp⟩) hS rfl ?_
      simp only [Act.put, List.setIfInBounds_toArray, List.set_cons_zero, List.set_cons_succ]
      refine Last.take_ (i := 9) (N := some 25) (v := .pointer (some ⟨g, 0, none⟩)) #[true, false, true, true, true, true, true, true, false, true, false, false, false, false, false, false, false, false, false, false] (by simp only [List.getElem?_toArray, List.getElem?_cons_zero, List.getElem?_cons_succ]; rfl) rfl (by kernel_rfl) (by exact fun _ _ _ h => h) (Or.inl ⟨by rfl, fun W hW => by first | rfl | (try dsimp only at hW); go_simp⟩) hS rfl ?_
      simp only [Act.put, List.setIfInBounds_toArray, List.set_cons_zero, List.set_cons_succ]
      refine Last.take_ (i := 10) (N := some 26) (v := .pointer (some ⟨g, 0, none⟩)) #[true, false, true, true, true, true, true, true, false, true, true, false, false, false, false, false, false, false, false, false] (by simp only [List.getElem?_toArray, List.getElem?_cons_zero, List.getElem?_cons_succ]; rfl) rfl (by kernel_rfl) (by exact fun _ _ _ h => h) (Or.inl ⟨by rfl, fun W hW => by first | rfl | (try dsimp only at hW); go_simp⟩) hS rfl ?_
      simp only [Act.put, List.setIfInBounds_toArray, List.set_cons_zero, List.set_cons_succ]
      refine Last.take_ (i := 11) (N := some 27) (v := .pointer (some ⟨g, 1, none⟩)) #[true, false, true, true, true, true, true, true, false, true, true, true, false, false, false, false, false, false, false, false] (by simp only [List.getElem?_toArray, List.getElem?_cons_zero, List.getElem?_cons_succ]; rfl) rfl (by kernel_rfl) (by exact fun _ _ _ h => h) (Or.inl ⟨by rfl, fun W hW => by first | rfl | (try dsimp only at hW); go_simp⟩) hS rfl ?_
      simp only [Act.put, List.setIfInBounds_toArray, List.set_cons_zero, List.set_cons_succ]
      refine Last.take_ (i := 12) (N := some 28) (v := .slice (some ⟨ga, offa, none⟩) (i + 1) (i + 1)) #[true, false, true, true, true, true, true, true, false, true, true, true, true, false, false, false, false, false, false, false] (by simp only [List.getElem?_toArray, List.getElem?_cons_zero, List.getElem?_cons_succ]; rfl) rfl (by kernel_rfl) (by exact fun _ _ _ h => h) (Or.inl ⟨by rfl, fun W hW => by first | rfl | (try dsimp only at hW); go_simp⟩) hS rfl ?_
      simp only [Act.put, List.setIfInBounds_toArray, List.set_cons_zero, List.set_cons_succ]
      refine Last.take_ (i := 13) (N := some 29) (v := .int .i64 (i : Int)) #[true, false, true, true, true, true, true, true, false, true, true, true, true, true, false, false, false, false, false, false] (by simp only [List.getElem?_toArray, List.getElem?_cons_zero, List.getElem?_cons_succ]; rfl) rfl (by kernel_rfl) (by exact fun _ _ _ h => h) (Or.inl ⟨by rfl, fun W hW => by first | rfl | (try dsimp only at hW); go_simp⟩) hS rfl ?_
      simp only [Act.put, List.setIfInBounds_toArray, List.set_cons_zero, List.set_cons_succ]
      refine Last.take_ (i := 14) (N := some 30) (v := .int .i64 ((i : Int) + 1)) #[true, false, true, true, true, true, true, true, false, true, true, true, true, true, true, false, false, false, false, false] (by simp only [List.getElem?_toArray, List.getElem?_cons_zero, List.getElem?_cons_succ]; rfl) rfl (by kernel_rfl) (by exact fun _ _ _ h => h) (Or.inl ⟨by rfl, fun W hW => by first | rfl | (try dsimp only at hW); go_simp⟩) hS rfl ?_
      simp only [Act.put, List.setIfInBounds_toArray, List.set_cons_zero, List.set_cons_succ]
      refine Last.take_ (i := 15) (N := some 31) (v := .slice (some ⟨ga, offa, none⟩) 0 0) #[true, false, true, true, true, true, true, true, false, true, true, true, true, true, true, true, false, false, false, false] (by simp only [List.getElem?_toArray, List.getElem?_cons_zero, List.getElem?_cons_succ]; rfl) rfl (by kernel_rfl) (by exact fun _ _ _ h => h) (Or.inl ⟨by rfl, fun W hW => by first | rfl | (try dsimp only at hW); go_simp⟩) hS rfl ?_
      simp only [Act.put, List.setIfInBounds_toArray, List.set_cons_zero, List.set_cons_succ]
      refine Last.one_ (i := 1) (N := some 17) #[true, true, true, true, true, true, true, true, false, true, true, true, true, true, true, true, false, false, false, false] (by simp only [List.getElem?_toArray, List.getElem?_cons_zero, List.getElem?_cons_succ]; rfl) rfl (by kernel_rfl) (by decide) (fun K hK => ?_)
      go_simp
      refine hK.out _ _ (((Ext.refl Non w5).drew.alloc _).cell b1 (fun e => e)) (fun hS => ?_)
      try simp only [Act.put, List.setIfInBounds_toArray, List.set_cons_zero, List.set_cons_succ]
      refine Last.one_ (i := 8) (N := some 24) #[true, true, true, true, true, true, true, true, true, true, true, true, true, true, true, true, false, false, false, false] (by simp only [List.getElem?_toArray, List.getElem?_cons_zero, List.getElem?_cons_succ]; rfl) rfl (by kernel_rfl) (by decide) (fun K hK => ?_)
      have hs5 : w.heap.size ≤ w5.heap.size := HE.out.size
      refine step_app_empty (sbK n) (ok := ok) (vx := .slice (some ⟨ga, offa, none⟩) i (i + 1)) (ys := D.subs.take i) w5.heap.size (by rfl) _ _ 53 64 _ 96 (by rfl) Try.underlying53 (info64 n) rfl (by show 0 < 8; decide) (by simp [Act.eval]) (by simp [Act.eval]) (Nat.le_refl _) (FF.out _ hs5) (blk_new w5.drew _) ?_ (fun k hk => FF.out k (by have h2 : w5.heap.size + 1 ≤ k := (by simpa using hk); omega)) (by have := HS.out; simp only [List.length_take]; omega) (by have := HS.out; simp only [List.length_take]; omega) (by simp) ?_
      · exact (HTK.out.ext0 ((Ext.refl Non w5).drew.alloc _)).mono (fun k hk => ⟨hk.1, fun e => by have := hk.2; omega⟩)
      intro v1 w6 hown hext hblk
      obtain ⟨A6, n6, c6, rfl⟩ : ∃ A n c, v1 = .slice A n c := by obtain ⟨A6, c6, h6, _, _⟩ := hown.slice; exact ⟨_, _, _, h6⟩
      have E6 : Hid (Ext Non w5 w6) := ((Ext.refl Non w5).drew.alloc _).trans0 hext
      have O6 : Hid (Own (sbK n) 64 w6 w5.heap.size ok (.slice A6 n6 c6) (D.subs.take i)) := hown
      clear hown hext hblk
      refine hK.out _ _ (E6.out.cell b1 (fun e => e)) (fun hS => ?_)
      try simp only [Act.put, List.setIfInBounds_toArray, List.set_cons_zero, List.set_cons_succ]
      refine Last.one_ (i := 16) (N := some 32) #[true, true, true, true, true, true, true, true, true, true, true, true, true, true, true, true, true, false, false, false] (by simp only [List.getElem?_toArray, List.getElem?_cons_zero, List.getElem?_cons_succ]; rfl) rfl (by kernel_rfl) (by decide) (fun K hK => ?_)
      have hM6 : ∀ k, some k = (Value.slice A6 n6 c6).ownBlock → w5.heap.size ≤ k ∧ k < w6.heap.size := fun k h => O6.out.base_le k h.symm
      have hs5 : w.heap.size ≤ w5.heap.size := HE.out.size
      have hs6 : w5.heap.size ≤ w6.heap.size := E6.out.size
      refine step_app (sbK n) (ok := ok) (v := .slice A6 n6 c6) (vx := .slice (some ⟨ga, offa, none⟩) 0 0) (xs := D.subs.take i) (ys := D.subs.drop (i + 1)) w5.heap.size (by rfl) _ _ 53 64 _ 96 (by rfl) Try.underlying53 (info64 n) rfl (by show 0 < 8; decide) (by simp [Act.eval]) (by simp [Act.eval]) O6.out ?_ ?_ ?_ ?_ ?_ ?_
      · exact (HDR.out.ext0 E6.out).mono (fun k hk => ⟨hk.1, fun h => by have := hM6 _ h; have := hk.2; omega⟩)
      · exact fun k hk => FF.out k (by omega)
      · have := HS.out; simp only [List.length_take, List.length_drop]; omega
      · have := HS.out; simp only [List.length_take, List.length_drop]; omega
      · omega
      intro v2 w7 hown hext hblk
      obtain ⟨A7, n7, c7, rfl⟩ : ∃ A n c, v2 = .slice A n c := by obtain ⟨A6, c6, h6, _, _⟩ := hown.slice; exact ⟨_, _, _, h6⟩
      have E7 : Hid (Ext Non w5 w7) := E6.out.trans hext (fun k hk h => by have := hM6 _ h; omega)
      have O7 := Lib.hid hown
      have BW := Lib.hid (E7.out.obj HB5.out (fun e => e))
      have z1 : w7.frozen? ⟨g, 1, none⟩ = false := blk_frozen BW.out 1
      have g1 : w7.cell? ⟨g, 1, none⟩ = _ := blk_cell BW.out 1
      have hg7 := blk_lt BW.out
      clear hown hext hblk
      refine hK.out _ _ (E7.out.cell b1 (fun e => e)) (fun hS => ?_)
      try simp only [Act.put, List.setIfInBounds_toArray, List.set_cons_zero, List.set_cons_succ]
      refine Last.take_ (i := 17) (N := some 33) (v := .pointer (some ⟨g, 0, none⟩)) #[true, true, true, true, true, true, true, true, true, true, true, true, true, true, true, true, true, true, false, false] (by simp only [List.getElem?_toArray, List.getElem?_cons_zero, List.getElem?_cons_succ]; rfl) rfl (by kernel_rfl) (by exact fun _ _ _ h => h) (Or.inl ⟨by rfl, fun W hW => by first | rfl | (try dsimp only at hW); go_simp⟩) hS rfl ?_
      simp only [Act.put, List.setIfInBounds_toArray, List.set_cons_zero, List.set_cons_succ]
      refine Last.take_ (i := 18) (N := some 34) (v := .pointer (some ⟨g, 1, none⟩)) #[true, true, true, true, true, true, true, true, true, true, true, true, true, true, true, true, true, true, true, false] (by simp only [List.getElem?_toArray, List.getElem?_cons_zero, List.getElem?_cons_succ]; rfl) rfl (by kernel_rfl) (by exact fun _ _ _ h => h) (Or.inl ⟨by rfl, fun W hW => by first | rfl | (try dsimp only at hW); go_simp⟩) hS rfl ?_
      simp only [Act.put, List.setIfInBounds_toArray, List.set_cons_zero, List.set_cons_succ]
      refine Last.last_ (i := 19) (N := none) #[true, true, true, true, true, true, true, true, true, true, true, true, true, true, true, true, true, true, true, true] (by simp only [List.getElem?_toArray, List.getElem?_cons_zero, List.getElem?_cons_succ]; rfl) rfl (by kernel_rfl) (by decide) (fun K hK => ?_)
      go_simp
      refine hK.out _ _ ?_
      try simp only [Act.put, List.setIfInBounds_toArray, List.set_cons_zero, List.set_cons_succ]
      refine Last.done_ (by kernel_rfl) ?_
      have F7 := Lib.hid ((HF.out.ext0 (HE.out.trans0 E7.out)).setSubs O7.out.rd)
      have E8 : Hid (Ext (Only g) w (w7.setCell ⟨g, 1, none⟩ (.slice A7 n7 c7))) := (HE.out.trans0 E7.out).of0.trans (og_set w7 g 1 _) (fun _ _ h => h)
      go_wp2_with fail
      refine (rtrim_calls F7.out hl (FF.out.ext E8.out)).mono ?_
      rintro e w9 ⟨rfl, hf9, he9⟩
      have HF9 := Lib.hid hf9
      have HE9 := Lib.hid he9
      clear hf9 he9
      go_wp2_with fail
      go_ret
      rw [HT.out]
      exact ⟨rfl, HF9.out, E8.out.trans HE9.out (fun _ _ h => h)⟩
    · have HDR : Hid (Rd (sbK n) w5 (fun k => ok k ∧ k < w5.heap.size) (.slice (some ⟨ga, offa + (i + 1) * 8, none⟩) (n2 - (i + 1)) (c2 - (i + 1))) (D.subs.drop (i + 1))) := by
        have := HDR0.out
        rw [if_neg hcc] at this
        exact this
      go_wp2_with fail
      refine Last.start_ (S := fun W => W.cell? ⟨g, 1, none⟩ = some (.slice (some ⟨ga, offa, none⟩) n2 c2)) (ds := [19]) #[false, false, false, false, false, false, false, false, false, false, false, false, false, false, false, false, false, false, false, false] (by kernel_rfl) (by rfl) (by rfl) b1 (fun hS => ?_)
      refine Last.take_ (i := 0) (N := some 16) (v := .pointer (some ⟨g, 0, none⟩)) #[true, false, false, false, false, false, false, false, false, false, false, false, false, false, false, false, false, false, false, false] (by simp only [List.getElem?_toArray, List.getElem?_cons_zero]; rfl) rfl (by kernel_rfl) (by exact fun _ _ _ h => h) (Or.inl ⟨by rfl, fun W hW => by first | rfl | (try dsimp only at hW); go_simp⟩) hS rfl ?_
      simp only [Act.put, List.setIfInBounds_toArray, List.set_cons_zero, List.set_cons_succ]
      refine Last.take_ (i := 2) (N := some 18) (v := .pointer (some ⟨g, 0, none⟩)) #[true, false, true, false, false, false, false, false, false, false, false, false, false, false, false, false, false, false, false, false] (by simp only [List.getElem?_toArray, List.getElem?_cons_zero, List.getElem?_cons_succ]; rfl) rfl (by kernel_rfl) (by exact fun _ _ _ h => h) (Or.inl ⟨by rfl, fun W hW => by first | rfl | (try dsimp only at hW); go_simp⟩) hS rfl ?_
      simp only [Act.put, List.setIfInBounds_toArray, List.set_cons_zero, List.set_cons_succ]
      refine Last.take_ (i := 3) (N := some 19) (v := .pointer (some ⟨g, 0, none⟩)) #[true, false, true, true, false, false, false, false, false, false, false, false, false, false, false, false, false, false, false, false] (by simp only [List.getElem?_toArray, List.getElem?_cons_zero, List.getElem?_cons_succ]; rfl) rfl (by kernel_rfl) (by exact fun _ _ _ h => h) (Or.inl ⟨by rfl, fun W hW => by first | rfl | (try dsimp only at hW); go_simp⟩) hS rfl ?_
      simp only [Act.put, List.setIfInBounds_toArray, List.set_cons_zero, List.set_cons_succ]
      refine Last.take_ (i := 4) (N := some 20) (v := .pointer (some ⟨g, 1, none⟩)) #[true, false, true, true, true, false, false, false, false, false, false, false, false, false, false, false, false, false, false, false] (by simp only [List.getElem?_toArray, List.getElem?_cons_zero, List.getElem?_cons_succ]; rfl) rfl (by kernel_rfl) (by exact fun _ _ _ h => h) (Or.inl ⟨by rfl, fun W hW => by first | rfl | (try dsimp only at hW); go_simp⟩) hS rfl ?_
      simp only [Act.put, List.setIfInBounds_toArray, List.set_cons_zero, List.set_cons_succ]
      refine Last.take_ (i := 5) (N := some 21) (v := .slice (some ⟨ga, offa, none⟩) n2 c2) #[true, false, true, true, true, true, false, false, false, false, false, false, false, false, false, false, false, false, false, false] (by simp only [List.getElem?_toArray, List.getElem?_cons_zero, List.getElem?_cons_succ]; rfl) rfl (by kernel_rfl) (by exact fun _ _ _ h => h) (Or.inl ⟨by rfl, fun W hW => by first | rfl | (try dsimp only at hW); go_simp⟩) hS rfl ?_
      simp only [Act.put, List.setIfInBounds_toArray, List.set_cons_zero, List.set_cons_succ]
      refine Last.take_ (i := 6) (N := some 22) (v := .int .i64 (i : Int)) #[true, false, true, true, true, true, true, false, false, false, false, false, false, false, false, false, false, false, false, false] (by simp only [List.getElem?_toArray, List.getElem?_cons_zero, List.getElem?_cons_succ]; rfl) rfl (by kernel_rfl) (by exact fun _ _ _ h => h) (Or.inl ⟨by rfl, fun W hW => by first | rfl | (try dsimp only at hW); go_simp⟩) hS rfl ?_
      simp only [Act.put, List.setIfInBounds_toArray, List.set_cons_zero, List.set_cons_succ]
      refine Last.take_ (i := 7) (N := some 23) (v := .slice (some ⟨ga, offa, none⟩) i c2) #[true, false, true, true, true, true, true, true, false, false, false, false, false, false, false, false, false, false, false, false] (by simp only [List.getElem?_toArray, List.getElem?_cons_zero, List.getElem?_cons_succ]; rfl) rfl (by kernel_rfl) (by exact fun _ _ _ h => h) (Or.inl ⟨by rfl, fun W hW => by first | rfl | (try dsimp only at hW); go_simp⟩) hS rfl ?_
      simp only [Act.put, List.setIfInBounds_toArray, List.set_cons_zero, List.set_cons_succ]
      refine Last.take_ (i := 9) (N := some 25) (v := .pointer (some ⟨g, 0, none⟩)) #[true, false, true, true, true, true, true, true, false, true, false, false, false, false, false, false, false, false, false, false] (by simp only [List.getElem?_toArray, List.getElem?_cons_zero, List.getElem?_cons_succ]; rfl) rfl (by kernel_rfl) (by exact fun _ _ _ h => h) (Or.inl ⟨by rfl, fun W hW => by first | rfl | (try dsimp only at hW); go_simp⟩) hS rfl ?_
      simp only [Act.put, List.setIfInBounds_toArray, List.set_cons_zero, List.set_cons_succ]
      refine Last.take_ (i := 10) (N := some 26) (v := .pointer (some ⟨g, 0, none⟩)) #[true, false, true, true, true, true, true, true, false, true, true, false, false, false, false, false, false, false, false, false] (by simp only [List.getElem?_toArray, List.getElem?_cons_zero, List.getElem?_cons_succ]; rfl) rfl (by kernel_rfl) (by exact fun _ _ _ h => h) (Or.inl ⟨by rfl, fun W hW => by first | rfl | (try dsimp only at hW); go_simp⟩) hS rfl ?_
      simp only [Act.put, List.setIfInBounds_toArray, List.set_cons_zero, List.set_cons_succ]
      refine Last.take_ (i := 11) (N := some 27) (v := .pointer (some ⟨g, 1, none⟩)) #[true, false, true, true, true, true, true, true, false, true, true, true, false, false, false, false, false, false, false, false] (by simp only [List.getElem?_toArray, List.getElem?_cons_zero, List.getElem?_cons_succ]; rfl) rfl (by kernel_rfl) (by exact fun _ _ _ h => h) (Or.inl ⟨by rfl, fun W hW => by first | rfl | (try dsimp only at hW); go_simp⟩) hS rfl ?_
      simp only [Act.put, List.setIfInBounds_toArray, List.set_cons_zero, List.set_cons_succ]
      refine Last.take_ (i := 12) (N := some 28) (v := .slice (some ⟨ga, offa, none⟩) n2 c2) #[true, false, true, true, true, true, true, true, false, true, true, true, true, false, false, false, false, false, false, false] (by simp only [List.getElem?_toArray, List.getElem?_cons_zero, List.getElem?_cons_succ]; rfl) rfl (by kernel_rfl) (by exact fun _ _ _ h => h) (Or.inl ⟨by rfl, fun W hW => by first | rfl | (try dsimp only at hW); go_simp⟩) hS rfl ?_
      simp only [Act.put, List.setIfInBounds_toArray, List.set_cons_zero, List.set_cons_succ]
      refine Last.take_ (i := 13) (N := some 29) (v := .int .i64 (i : Int)) #[true, false, true, true, true, true, true, true, false, true, true, true, true, true, false, false, false, false, false, false] (by simp only [List.getElem?_toArray, List.getElem?_cons_zero, List.getElem?_cons_succ]; rfl) rfl (by kernel_rfl) (by exact fun _ _ _ h => h) (Or.inl ⟨by rfl, fun W hW => by first | rfl | (try dsimp only at hW); go_simp⟩) hS rfl ?_
      simp only [Act.put, List.setIfInBounds_toArray, List.set_cons_zero, List.set_cons_succ]
      refine Last.take_ (i := 14) (N := some 30) (v := .int .i64 ((i : Int) + 1)) #[true, false, true, true, true, true, true, true, false, true, true, true, true, true, true, false, false, false, false, false] (by simp only [List.getElem?_toArray, List.getElem?_cons_zero, List.getElem?_cons_succ]; rfl) rfl (by kernel_rfl) (by exact fun _ _ _ h => h) (Or.inl ⟨by rfl, fun W hW => by first | rfl | (try dsimp only at hW); go_simp⟩) hS rfl ?_
      simp only [Act.put, List.setIfInBounds_toArray, List.set_cons_zero, List.set_cons_succ]
      refine Last.take_ (i := 15) (N := some 31) (v := .slice (some ⟨ga, offa + (i + 1) * 8, none⟩) (n2 - (i + 1)) (c2 - (i + 1))) #[true, false, true, true, true, true, true, true, false, true, true, true, true, true, true, true, false, false, false, false] (by simp only [List.getElem?_toArray, List.getElem?_cons_zero, List.getElem?_cons_succ]; rfl) rfl (by kernel_rfl) (by exact fun _ _ _ h => h) (Or.inl ⟨by rfl, fun W hW => by first | rfl | (try dsimp only at hW); go_simp⟩) hS rfl ?_
      simp only [Act.put, List.setIfInBounds_toArray, List.set_cons_zero, List.set_cons_succ]
      refine Last.one_ (i := 1) (N := some 17) #[true, true, true, true, true, true, true, true, false, true, true, true, true, true, true, true, false, false, false, false] (by simp only [List.getElem?_toArray, List.getElem?_cons_zero, List.getElem?_cons_succ]; rfl) rfl (by kernel_rfl) (by decide) (fun K hK => ?_)
      go_simp
      refine hK.out _ _ (((Ext.refl Non w5).drew.alloc _).cell b1 (fun e => e)) (fun hS => ?_)
      try simp only [Act.put, List.setIfInBounds_toArray, List.set_cons_zero, List.set_cons_succ]
      refine Last.one_ (i := 8) (N := some 24) #[true, true, true, true, true, true, true, true, true, true, true, true, true, true, true, true, false, false, false, false] (by simp only [List.getElem?_toArray, List.getElem?_cons_zero, List.getElem?_cons_succ]; rfl) rfl (by kernel_rfl) (by decide) (fun K hK => ?_)
      have hs5 : w.heap.size ≤ w5.heap.size := HE.out.size
      refine step_app_empty (sbK n) (ok := ok) (vx := .slice (some ⟨ga, offa, none⟩) i c2) (ys := D.subs.take i) w5.heap.size (by rfl) _ _ 53 64 _ 96 (by rfl) Try.underlying53 (info64 n) rfl (by show 0 < 8; decide) (by simp [Act.eval]) (by simp [Act.eval]) (Nat.le_refl _) (FF.out _ hs5) (blk_new w5.drew _) ?_ (fun k hk => FF.out k (by have h2 : w5.heap.size + 1 ≤ k := (by simpa using hk); omega)) (by have := HS.out; simp only [List.length_take]; omega) (by have := HS.out; simp only [List.length_take]; omega) (by simp) ?_
      · exact (HTK.out.ext0 ((Ext.refl Non w5).drew.alloc _)).mono (fun k hk => ⟨hk.1, fun e => by have := hk.2; omega⟩)
      intro v1 w6 hown hext hblk
      obtain ⟨A6, n6, c6, rfl⟩ : ∃ A n c, v1 = .slice A n c := by obtain ⟨A6, c6, h6, _, _⟩ := hown.slice; exact ⟨_, _, _, h6⟩
      have E6 : Hid (Ext Non w5 w6) := ((Ext.refl Non w5).drew.alloc _).trans0 hext
      have O6 : Hid (Own (sbK n) 64 w6 w5.heap.size ok (.slice A6 n6 c6) (D.subs.take i)) := hown
      clear hown hext hblk
      refine hK.out _ _ (E6.out.cell b1 (fun e => e)) (fun hS => ?_)
      try simp only [Act.put, List.setIfInBounds_toArray, List.set_cons_zero, List.set_cons_succ]
      refine Last.one_ (i := 16) (N := some 32) #[true, true, true, true, true, true, true, true, true, true, true, true, true, true, true, true, true, false, false, false] (by simp only [List.getElem?_toArray, List.getElem?_cons_zero, List.getElem?_cons_succ]; rfl) rfl (by kernel_rfl) (by decide) (fun K hK => ?_)
      have hM6 : ∀ k, some k = (Value.slice A6 n6 c6).ownBlock → w5.heap.size ≤ k ∧ k < w6.heap.size := fun k h => O6.out.base_le k h.symm
      have hs5 : w.heap.size ≤ w5.heap.size := HE.out.size
      have hs6 : w5.heap.size ≤ w6.heap.size := E6.out.size
      refine step_app (sbK n) (ok := ok) (v := .slice A6 n6 c6) (vx := .slice (some ⟨ga, offa + (i + 1) * 8, none⟩) (n2 - (i + 1)) (c2 - (i + 1))) (xs := D.subs.take i) (ys := D.subs.drop (i + 1)) w5.heap.size (by rfl) _ _ 53 64 _ 96 (by rfl) Try.underlying53 (info64 n) rfl (by show 0 < 8; decide) (by simp [Act.eval]) (by simp [Act.eval]) O6.out ?_ ?_ ?_ ?_ ?_ ?_
      · exact (HDR.out.ext0 E6.out).mono (fun k hk => ⟨hk.1, fun h => by have := hM6 _ h; have := hk.2; omega⟩)
      · exact fun k hk => FF.out k (by omega)
      · have := HS.out; simp only [List.length_take, List.length_drop]; omega
      · have := HS.out; simp only [List.length_take, List.length_drop]; omega
      · omega
      intro v2 w7 hown hext hblk
      obtain ⟨A7, n7, c7, rfl⟩ : ∃ A n c, v2 = .slice A n c := by obtain ⟨A6, c6, h6, _, _⟩ := hown.slice; exact ⟨_, _, _, h6⟩
      have E7 : Hid (Ext Non w5 w7) := E6.out.trans hext (fun k hk h => by have := hM6 _ h; omega)
      have O7 := Lib.hid hown
      have BW := Lib.hid (E7.out.obj HB5.out (fun e => e))
      have z1 : w7.frozen? ⟨g, 1, none⟩ = false := blk_frozen BW.out 1
      have g1 : w7.cell? ⟨g, 1, none⟩ = _ := blk_cell BW.out 1
      have hg7 := blk_lt BW.out
      clear hown hext hblk
      refine hK.out _ _ (E7.out.cell b1 (fun e => e)) (fun hS => ?_)
      try simp only [Act.put, List.setIfInBounds_toArray, List.set_cons_zero, List.set_cons_succ]
      refine Last.take_ (i := 17) (N := some 33) (v := .pointer (some ⟨g, 0, none⟩)) #[true, true, true, true, true, true, true, true, true, true, true, true, true, true, true, true, true, true, false, false] (by simp only [List.getElem?_toArray, List.getElem?_cons_zero, List.getElem?_cons_succ]; rfl) rfl (by kernel_rfl) (by exact fun _ _ _ h => h) (Or.inl ⟨by rfl, fun W hW => by first | rfl | (try dsimp only at hW); go_simp⟩) hS rfl ?_
      simp only [Act.put, List.setIfInBounds_toArray, List.set_cons_zero, List.set_cons_succ]
      refine Last.take_ (i := 18) (N := some 34) (v := .pointer (some ⟨g, 1, none⟩)) #[true, true, true, true, true, true, true, true, true, true, true, true, true, true, true, true, true, true, true, false] (by simp only [List.getElem?_toArray, List.getElem?_cons_zero, List.getElem?_cons_succ]; rfl) rfl (by kernel_rfl) (by exact fun _ _ _ h => h) (Or.inl ⟨by rfl, fun W hW => by first | rfl | (try dsimp only at hW); go_simp⟩) hS rfl ?_
      simp only [Act.put, List.setIfInBounds_toArray, List.set_cons_zero, List.set_cons_succ]
      refine Last.last_ (i := 19) (N := none) #[true, true, true, true, true, true, true, true, true, true, true, true, true, true, true, true, true, true, true, true] (by simp only [List.getElem?_toArray, List.getElem?_cons_zero, List.getElem?_cons_succ]; rfl) rfl (by kernel_rfl) (by decide) (fun K hK => ?_)
      go_simp
      refine hK.out _ _ ?_
      try simp only [Act.put, List.setIfInBounds_toArray, List.set_cons_zero, List.set_cons_succ]
      refine Last.done_ (by kernel_rfl) ?_
      have F7 := Lib.hid ((HF.out.ext0 (HE.out.trans0 E7.out)).setSubs O7.out.rd)
      have E8 : Hid (Ext (Only g) w (w7.setCell ⟨g, 1, none⟩ (.slice A7 n7 c7))) := (HE.out.trans0 E7.out).of0.trans (og_set w7 g 1 _) (fun _ _ h => h)
      go_wp2_with fail
      refine (rtrim_calls F7.out hl (FF.out.ext E8.out)).mono ?_
      rintro e w9 ⟨rfl, hf9, he9⟩
      have HF9 := Lib.hid hf9
      have HE9 := Lib.hid he9
      clear hf9 he9
      go_wp2_with fail
      go_ret
      rw [HT.out]
      exact ⟨rfl, HF9.out, E8.out.trans HE9.out (fun _ _ h => h)⟩
end Go.Proofs.Ytdjfijdnhfmeeaa
