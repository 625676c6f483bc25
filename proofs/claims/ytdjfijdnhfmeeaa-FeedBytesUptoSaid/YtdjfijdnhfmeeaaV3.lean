/- feed's Put: a feed's bytes. -/
import Derived.Test.YtdjfijdnhfmeeaaV2
import Derived.Test.YtdjfijdnhfmeeaaUA
namespace Go.Proofs.Ytdjfijdnhfmeeaa
open Go.RowKit Go.TM
def hdB (D : Fdr) : List UInt8 := [D.next, D.top, (D.evs.length : Int)].flatMap numI
theorem hdB_eq {D : Fdr} {n1 : Nat} (h : n1 = D.evs.length) : hdB D = [D.next, D.top, (n1 : Int)].flatMap numI := by subst h; rfl
/-- A subscriber's bytes. -/
def sbB (n : Nat) (s : Sb) : List UInt8 := [s.id, s.fr, s.at_].flatMap numI ++ numB (flagN s.gone) ++ putOut (n + 1) s.q
/-- A feed's bytes. -/
def encD (n : Nat) (D : Fdr) : List UInt8 := hdB D ++ D.evs.flatMap evB ++ numB D.subs.length ++ D.subs.flatMap (sbB n)
/-- What holds of a feed behind any calls, and of its events' sizes and places. -/
structure Neat (n : Nat) (D : Fdr) : Prop where
  fine : Fine n D
  siz : ∀ e ∈ D.evs, e.key.size ≤ 32768 ∧ e.old.size ≤ 32768 ∧ e.now.size ≤ 32768
  pos : ∀ e ∈ D.evs, 1 ≤ e.pos
  idp : ∀ s ∈ D.subs, 1 ≤ s.id
  trim : trimD D = D
theorem evs_len {l : List Ev} (h : ∀ e ∈ l, (0 ≤ e.pos ∧ e.pos ≤ 9223372036854775807) ∧ e.key.size ≤ 32768 ∧ e.old.size ≤ 32768 ∧ e.now.size ≤ 32768) (hl : l.length ≤ 32) : (l.flatMap evB).length ≤ 3200000 := by
  have key : ∀ l : List Ev, (∀ e ∈ l, (0 ≤ e.pos ∧ e.pos ≤ 9223372036854775807) ∧ e.key.size ≤ 32768 ∧ e.old.size ≤ 32768 ∧ e.now.size ≤ 32768) → (l.flatMap evB).length ≤ 100000 * l.length := by
    intro l
    induction l with
    | nil => intro _; simp
    | cons e l ih =>
      intro h
      have h0 := h e (List.mem_cons_self ..)
      have h1 := evB_len h0.1 h0.2
      have h2 := ih (fun x hx => h x (List.mem_cons_of_mem _ hx))
      rw [List.flatMap_cons, List.length_append, List.length_cons]
      omega
  have := key l h
  omega
theorem room_ok {a b j : Nat} (h : a + b ≤ 5000000 + 50500000 * (j + 1)) (hj : j < 4) : (a + b) * 1 ≤ 140737488355328 ∧ a + b ≤ 9223372036854775807 := by omega
theorem fdS3 {W : World} {g : Nat} {a0 a1 a2 a3 : Value} {t : TypeId} (h : W.heap[g]? = some (.cells #[a0, a1, a2, a3] t (0, 0))) : W.cell? ⟨g, 2, none⟩ = some a2 ∧ W.cell? ⟨g, 3, none⟩ = some a3 ∧ W.cell? ⟨g, 0, none⟩ = some a0 := ⟨blk_cell h 2, blk_cell h 3, blk_cell h 0⟩
theorem sbS8 {W : World} {q : Nat} {a0 a1 a2 a3 a4 a5 a6 a7 : Value} {t : TypeId} (h : W.heap[q]? = some (.cells #[a0, a1, a2, a3, a4, a5, a6, a7] t (0, 0))) : W.cell? ⟨q, 0, none⟩ = some a0 ∧ W.cell? ⟨q, 1, none⟩ = some a1 ∧ W.cell? ⟨q, 2, none⟩ = some a2 ∧ W.cell? ⟨q, 3, none⟩ = some a3 ∧ W.cell? ⟨q, 4, none⟩ = some a4 ∧ W.cell? ⟨q, 5, none⟩ = some a5 ∧ W.cell? ⟨q, 6, none⟩ = some a6 ∧ W.cell? ⟨q, 7, none⟩ = some a7 :=
  ⟨blk_cell h 0, blk_cell h 1, blk_cell h 2, blk_cell h 3, blk_cell h 4, blk_cell h 5, blk_cell h 6, blk_cell h 7⟩
theorem ints3 {W : World} {b : Nat} {x y z : Int} (h : W.heap[b]? = some (.cells #[.int .i64 x, .int .i64 y, .int .i64 z] 3 (0, 0))) : Rd Kd.i64 W (fun _ => True) (.slice (some ⟨b, 0, none⟩) 3 3) [x, y, z] :=
  Rd.of_inner (Reps.flat [x, y, z]) trivial (blk_lt h) (Nat.le_refl _) (by decide) (fun j u hu => by rw [Nat.zero_add, blk_cell h]; simpa using hu)
theorem Neat.rng {n : Nat} {D : Fdr} (h : Neat n D) : ∀ s ∈ D.subs, ∀ x ∈ [s.id, s.fr, s.at_], -9223372036854775808 ≤ x ∧ x ≤ 9223372036854775807 := by
  intro s hs x hx
  have h1 := h.fine.ord.cur s hs
  have h2 := h.fine.good.top
  have h3 := h.fine.good.next
  have h4 := h.idp s hs
  simp only [List.mem_cons, List.not_mem_nil, or_false] at hx
  rcases hx with rfl | rfl | rfl <;> omega
theorem put_small {n : Nat} {D : Fdr} (h : Good n D) : ∀ s ∈ D.subs, (putOut (n + 1) s.q).length ≤ 50400000 := by
  intro s hs
  unfold putOut
  rw [if_pos (h.q s hs).2.2]
  exact enc_small (h.okL s hs) (h.q s hs).2.2
set_option maxRecDepth 100000 in
set_option maxHeartbeats 16000000 in
theorem FPut_calls {w : World} {n g : Nat} {ok : Nat → Prop} {D : Fdr} (h : Fd n ok w g D) (hgd : Neat n D) {A0 : Option Addr} {n0 c0 : Nat} {bs : List UInt8} (H : Rd Kd.u8 w (fun _ => True) (.slice A0 n0 c0) bs) (hbl : bs.length ≤ 1000000) :
    Calls Try.prog 42 #[.pointer (some ⟨g, 0, none⟩), .slice A0 n0 c0] w (NumPost (fun _ => True) (bs ++ encD n D) w) := by
  have HG := Lib.hid hgd
  have HBS : Hid (Rd Kd.u8 w (fun _ => True) (.slice A0 n0 c0) bs) := H
  have hl0 : bs.length = n0 := by
    obtain ⟨_, _, hs, _, _⟩ := H.slice
    simp only [Value.slice.injEq] at hs
    exact hs.2.1.symm
  have HL0 := Lib.hid hl0
  have hnx := hgd.fine.good.next
  have htp := hgd.fine.good.top
  have hn0 : D.next ≠ 0 := by omega
  obtain ⟨A1, n1, c1, A2, n2, c2, hb, h1, h2, h3⟩ := h
  have hn1 : n1 = D.evs.length := by
    obtain ⟨_, _, hs, _, _⟩ := h1.slice
    simp only [Value.slice.injEq] at hs
    exact hs.2.1
  have hn2 : n2 = D.subs.length := by
    obtain ⟨_, _, hs, _, _⟩ := h2.slice
    simp only [Value.slice.injEq] at hs
    exact hs.2.1
  have hm1 : n1 ≤ 32 := by rw [hn1]; exact hgd.fine.good.evs
  have hm2 : n2 ≤ 4 := by rw [hn2]; exact hgd.fine.good.subs
  have HN1 := Lib.hid hn1
  have HN2 := Lib.hid hn2
  have HB := Lib.hid hb
  have HD := Lib.hid (dead_live hb hn0)
  have H1 := Lib.hid h1
  have H2 := Lib.hid h2
  have HLH : Hid ((hdB D).length ≤ 27) := nums_le _ (fun x hx => by
    simp only [List.mem_cons, List.not_mem_nil, or_false] at hx
    rcases hx with rfl | rfl | rfl <;> omega)
  have HLE : Hid (∀ i, ((D.evs.take i).flatMap evB).length ≤ 3200000) := fun i => evs_len (fun e he => ⟨⟨by have := HG.out.pos e (List.mem_of_mem_take he); omega, by have := HG.out.fine.ev.top e (List.mem_of_mem_take he); have := HG.out.fine.good.top; omega⟩, HG.out.siz e (List.mem_of_mem_take he)⟩) (by rw [List.length_take]; have := HG.out.fine.good.evs; omega)
  have b0 := hb.c0
  have b1 := hb.c1
  have b2 := hb.c2
  have b3 := hb.c3
  have hgl := blk_lt hb
  clear H hgd hb h1 h2 h3 hn1 hn2 hl0
  go_enter Try.func42, Try.ntmps42
  go_wp2_with fail
  refine HD.out.mono ?_
  rintro e w5 ⟨rfl, rfl⟩
  go_wp2_with fail
  refine Last.start_ (S := fun W => W.cell? ⟨g, 2, none⟩ = some (.int .i64 D.next) ∧ W.cell? ⟨g, 3, none⟩ = some (.int .i64 D.top) ∧ W.cell? ⟨g, 0, none⟩ = some (.slice A1 n1 c1)) (ds := []) #[false, false, false, false, false, false, false, false, false, false, false, false, false, false, false, false, false] (by kernel_rfl) (by rfl) (by rfl) (fdS3 ((Ext.refl Non w).drew.obj HB.out (fun e => e))) (fun hS => ?_)
  refine Last.take_ (i := 0) (N := some 14) (v := .slice A0 n0 c0) #[true, false, false, false, false, false, false, false, false, false, false, false, false, false, false, false, false] (by simp only [List.getElem?_toArray, List.getElem?_cons_zero]; rfl) rfl (by kernel_rfl) (by exact fun _ _ _ h => h) (Or.inl ⟨by rfl, fun W hW => by first | rfl | (try dsimp only at hW); go_simp⟩) hS rfl ?_
  simp only [Act.put, List.setIfInBounds_toArray, List.set_cons_zero, List.set_cons_succ]
  refine Last.take_ (i := 1) (N := some 15) (v := .pointer (some ⟨g, 0, none⟩)) #[true, true, false, false, false, false, false, false, false, false, false, false, false, false, false, false, false] (by simp only [List.getElem?_toArray, List.getElem?_cons_zero, List.getElem?_cons_succ]; rfl) rfl (by kernel_rfl) (by exact fun _ _ _ h => h) (Or.inl ⟨by rfl, fun W hW => by first | rfl | (try dsimp only at hW); go_simp⟩) hS rfl ?_
  simp only [Act.put, List.setIfInBounds_toArray, List.set_cons_zero, List.set_cons_succ]
  refine Last.take_ (i := 2) (N := some 16) (v := .pointer (some ⟨g, 0, none⟩)) #[true, true, true, false, false, false, false, false, false, false, false, false, false, false, false, false, false] (by simp only [List.getElem?_toArray, List.getElem?_cons_zero, List.getElem?_cons_succ]; rfl) rfl (by kernel_rfl) (by exact fun _ _ _ h => h) (Or.inl ⟨by rfl, fun W hW => by first | rfl | (try dsimp only at hW); go_simp⟩) hS rfl ?_
  simp only [Act.put, List.setIfInBounds_toArray, List.set_cons_zero, List.set_cons_succ]
  refine Last.take_ (i := 3) (N := some 17) (v := .pointer (some ⟨g, 2, none⟩)) #[true, true, true, true, false, false, false, false, false, false, false, false, false, false, false, false, false] (by simp only [List.getElem?_toArray, List.getElem?_cons_zero, List.getElem?_cons_succ]; rfl) rfl (by kernel_rfl) (by exact fun _ _ _ h => h) (Or.inl ⟨by rfl, fun W hW => by first | rfl | (try dsimp only at hW); go_simp⟩) hS rfl ?_
  simp only [Act.put, List.setIfInBounds_toArray, List.set_cons_zero, List.set_cons_succ]
  refine Last.take_ (i := 4) (N := some 18) (v := .int .i64 D.next) #[true, true, true, true, true, false, false, false, false, false, false, false, false, false, false, false, false] (by simp only [List.getElem?_toArray, List.getElem?_cons_zero, List.getElem?_cons_succ]; rfl) rfl (by kernel_rfl) (by exact fun _ _ _ h => h) (Or.inl ⟨by rfl, fun W hW => by first | rfl | (try dsimp only at hW); go_simp⟩) hS rfl ?_
  simp only [Act.put, List.setIfInBounds_toArray, List.set_cons_zero, List.set_cons_succ]
  refine Last.take_ (i := 5) (N := some 19) (v := .pointer (some ⟨g, 0, none⟩)) #[true, true, true, true, true, true, false, false, false, false, false, false, false, false, false, false, false] (by simp only [List.getElem?_toArray, List.getElem?_cons_zero, List.getElem?_cons_succ]; rfl) rfl (by kernel_rfl) (by exact fun _ _ _ h => h) (Or.inl ⟨by rfl, fun W hW => by first | rfl | (try dsimp only at hW); go_simp⟩) hS rfl ?_
  simp only [Act.put, List.setIfInBounds_toArray, List.set_cons_zero, List.set_cons_succ]
  refine Last.take_ (i := 6) (N := some 20) (v := .pointer (some ⟨g, 0, none⟩)) #[true, true, true, true, true, true, true, false, false, false, false, false, false, false, false, false, false] (by simp only [List.getElem?_toArray, List.getElem?_cons_zero, List.getElem?_cons_succ]; rfl) rfl (by kernel_rfl) (by exact fun _ _ _ h => h) (Or.inl ⟨by rfl, fun W hW => by first | rfl | (try dsimp only at hW); go_simp⟩) hS rfl ?_
  simp only [Act.put, List.setIfInBounds_toArray, List.set_cons_zero, List.set_cons_succ]
  refine Last.take_ (i := 7) (N := some 21) (v := .pointer (some ⟨g, 3, none⟩)) #[true, true, true, true, true, true, true, true, false, false, false, false, false, false, false, false, false] (by simp only [List.getElem?_toArray, List.getElem?_cons_zero, List.getElem?_cons_succ]; rfl) rfl (by kernel_rfl) (by exact fun _ _ _ h => h) (Or.inl ⟨by rfl, fun W hW => by first | rfl | (try dsimp only at hW); go_simp⟩) hS rfl ?_
  simp only [Act.put, List.setIfInBounds_toArray, List.set_cons_zero, List.set_cons_succ]
  refine Last.take_ (i := 8) (N := some 22) (v := .int .i64 D.top) #[true, true, true, true, true, true, true, true, true, false, false, false, false, false, false, false, false] (by simp only [List.getElem?_toArray, List.getElem?_cons_zero, List.getElem?_cons_succ]; rfl) rfl (by kernel_rfl) (by exact fun _ _ _ h => h) (Or.inl ⟨by rfl, fun W hW => by first | rfl | (try dsimp only at hW); go_simp⟩) hS rfl ?_
  simp only [Act.put, List.setIfInBounds_toArray, List.set_cons_zero, List.set_cons_succ]
  refine Last.take_ (i := 9) (N := some 23) (v := .pointer (some ⟨g, 0, none⟩)) #[true, true, true, true, true, true, true, true, true, true, false, false, false, false, false, false, false] (by simp only [List.getElem?_toArray, List.getElem?_cons_zero, List.getElem?_cons_succ]; rfl) rfl (by kernel_rfl) (by exact fun _ _ _ h => h) (Or.inl ⟨by rfl, fun W hW => by first | rfl | (try dsimp only at hW); go_simp⟩) hS rfl ?_
  simp only [Act.put, List.setIfInBounds_toArray, List.set_cons_zero, List.set_cons_succ]
  refine Last.take_ (i := 10) (N := some 24) (v := .pointer (some ⟨g, 0, none⟩)) #[true, true, true, true, true, true, true, true, true, true, true, false, false, false, false, false, false] (by simp only [List.getElem?_toArray, List.getElem?_cons_zero, List.getElem?_cons_succ]; rfl) rfl (by kernel_rfl) (by exact fun _ _ _ h => h) (Or.inl ⟨by rfl, fun W hW => by first | rfl | (try dsimp only at hW); go_simp⟩) hS rfl ?_
  simp only [Act.put, List.setIfInBounds_toArray, List.set_cons_zero, List.set_cons_succ]
  refine Last.take_ (i := 11) (N := some 25) (v := .pointer (some ⟨g, 0, none⟩)) #[true, true, true, true, true, true, true, true, true, true, true, true, false, false, false, false, false] (by simp only [List.getElem?_toArray, List.getElem?_cons_zero, List.getElem?_cons_succ]; rfl) rfl (by kernel_rfl) (by exact fun _ _ _ h => h) (Or.inl ⟨by rfl, fun W hW => by first | rfl | (try dsimp only at hW); go_simp⟩) hS rfl ?_
  simp only [Act.put, List.setIfInBounds_toArray, List.set_cons_zero, List.set_cons_succ]
  refine Last.take_ (i := 12) (N := some 26) (v := .slice A1 n1 c1) #[true, true, true, true, true, true, true, true, true, true, true, true, true, false, false, false, false] (by simp only [List.getElem?_toArray, List.getElem?_cons_zero, List.getElem?_cons_succ]; rfl) rfl (by kernel_rfl) (by exact fun _ _ _ h => h) (Or.inl ⟨by rfl, fun W hW => by first | rfl | (try dsimp only at hW); go_simp⟩) hS rfl ?_
  simp only [Act.put, List.setIfInBounds_toArray, List.set_cons_zero, List.set_cons_succ]
  refine Last.take_ (i := 13) (N := some 27) (v := .int .i64 (n1 : Int)) #[true, true, true, true, true, true, true, true, true, true, true, true, true, true, false, false, false] (by simp only [List.getElem?_toArray, List.getElem?_cons_zero, List.getElem?_cons_succ]; rfl) rfl (by kernel_rfl) (by exact fun _ _ _ h => h) (Or.inl ⟨by rfl, fun W hW => by first | rfl | (try dsimp only at hW); go_simp⟩) hS rfl ?_
  simp only [Act.put, List.setIfInBounds_toArray, List.set_cons_zero, List.set_cons_succ]
  refine Last.one_ (i := 14) (N := some 28) #[true, true, true, true, true, true, true, true, true, true, true, true, true, true, true, false, false] (by simp only [List.getElem?_toArray, List.getElem?_cons_zero, List.getElem?_cons_succ]; rfl) rfl (by kernel_rfl) (by decide) (fun K hK => ?_)
  go_simp
  obtain ⟨pz, hpz⟩ : ∃ p, w.heap.size = p := ⟨_, rfl⟩
  obtain ⟨wz, hwz⟩ : ∃ W, (w.alloc (.cells #[.int .i64 D.next, .int .i64 D.top, .int .i64 (n1 : Int)] 3)).drew = W := ⟨_, rfl⟩
  have Zz : Hid (Ext Non w wz) := by rw [← hwz]; exact ((Ext.refl Non w).alloc _).drew
  have KZ : Hid (wz.heap[pz]? = some (.cells #[.int .i64 D.next, .int .i64 D.top, .int .i64 (n1 : Int)] 3 (0, 0))) := by rw [← hwz, ← hpz]; exact blk_new w _
  rw [hwz, hpz]
  clear hwz hpz
  refine hK.out _ _ (fdS3 (Zz.out.obj HB.out (fun e => e))) (fun hS => ?_)
  try simp only [Act.put, List.setIfInBounds_toArray, List.set_cons_zero, List.set_cons_succ]
  refine Last.one_ (i := 15) (N := some 29) #[true, true, true, true, true, true, true, true, true, true, true, true, true, true, true, true, false] (by simp only [List.getElem?_toArray, List.getElem?_cons_zero, List.getElem?_cons_succ]; rfl) rfl (by kernel_rfl) (by decide) (fun K hK => ?_)
  refine Last.goes_ Try.func63 (by kernel_rfl) rfl #[.slice A0 n0 c0, .slice (some ⟨pz, 0, none⟩) 3 3] (by rfl) rfl rfl (by simp [Act.eval]) ?_
  have HC := Numbers_calls (w := wz) (ok := fun _ => True) (A := A0) (c := c0) (d := 3) (bs := bs) (B := some ⟨pz, 0, none⟩) (ns := [D.next, D.top, (n1 : Int)]) (by rw [HL0.out]; exact HBS.out.ext0 Zz.out) (ints3 KZ.out) (fun x hx => by
    simp only [List.mem_cons, List.not_mem_nil, or_false] at hx
    rcases hx with rfl | rfl | rfl <;> omega) (by simp only [List.length_cons, List.length_nil]; omega) (fun _ _ => trivial)
  rw [HL0.out] at HC
  refine HC.mono ?_
  rintro e' w1 ⟨v', rfl, ho, he⟩
  obtain ⟨Ax, nx, cx, rfl⟩ : ∃ A n c, v' = .slice A n c := by obtain ⟨A6, c6, h6, _, _⟩ := ho.slice; exact ⟨_, _, _, h6⟩
  have E1 : Hid (Ext Non w w1) := Zz.out.trans0 he
  have R1 : Hid (Rd Kd.u8 w1 (fun _ => True) (.slice Ax nx cx) (bs ++ hdB D)) := by rw [hdB_eq HN1.out]; exact ho
  clear ho he HC
  refine ⟨_, rfl, ?_⟩
  refine hK.out _ _ (fdS3 (E1.out.obj HB.out (fun e => e))) (fun hS => ?_)
  try simp only [Act.put, List.setIfInBounds_toArray, List.set_cons_zero, List.set_cons_succ]
  refine Last.take_ (i := 16) (N := some 1) (v := .slice Ax nx cx) #[true, true, true, true, true, true, true, true, true, true, true, true, true, true, true, true, true] (by simp only [List.getElem?_toArray, List.getElem?_cons_zero, List.getElem?_cons_succ]; rfl) rfl (by kernel_rfl) (by exact fun _ _ _ h => h) (Or.inl ⟨by rfl, fun W hW => by first | rfl | (try dsimp only at hW); go_simp⟩) hS rfl ?_
  simp only [Act.put, List.setIfInBounds_toArray, List.set_cons_zero, List.set_cons_succ]
  refine Last.done_ (by kernel_rfl) ?_
  have b0' := E1.out.cell b0 (fun e => e)
  clear b0 b1 b2 b3 hS Zz KZ
  go_wp2_with fail
  go_loopw [1, 35] (fun s1 i wr => ∃ (j : Nat) (A3 : Option Addr) (n3 c3 : Nat), s1 = .slice A3 n3 c3 ∧ i = .int .i64 (j : Int) ∧ j ≤ n1 ∧ Hid (Ext Non w wr) ∧ Hid (Rd Kd.u8 wr (fun _ => True) (.slice A3 n3 c3) (bs ++ hdB D ++ (D.evs.take j).flatMap evB))) (fun _ i _ => n1 - (intOf i).toNat)
  case atStart => exact ⟨0, Ax, nx, cx, rfl, rfl, by omega, E1.out, by show Rd _ _ _ _ _; simpa using R1.out⟩
  case round =>
    obtain ⟨j, A3, n3, c3, rfl, rfl, hj, HE, HR3⟩ := hrel
    by_cases hlt : j < n1
    · obtain ⟨e, he⟩ : ∃ e, D.evs[j]? = some e := ⟨_, List.getElem?_eq_getElem (by have := HN1.out; omega)⟩
      obtain ⟨ga, offa, rfl, hga, hgla, a0, a1, a2, a3, a4, a5⟩ := ev_at (H1.out.ext0 HE.out) he
      have HX := Lib.hid he
      have hmem : e ∈ D.evs := List.mem_of_getElem? he
      have HPE : Hid (0 ≤ e.pos ∧ e.pos ≤ 9223372036854775807) := ⟨by have := HG.out.pos e hmem; omega, by have := HG.out.fine.ev.top e hmem; have := HG.out.fine.good.top; omega⟩
      have HSE := Lib.hid (HG.out.siz e hmem)
      have HLC : Hid ((bs ++ hdB D ++ (D.evs.take j).flatMap evB).length ≤ 1000000000000) := by
        have h1 := HLH.out
        have h2 := HLE.out j
        show (bs ++ hdB D ++ (D.evs.take j).flatMap evB).length ≤ _
        rw [List.length_append, List.length_append]
        omega
      clear he hga hmem
      go_wp2_with fail
      obtain ⟨w2, hw2⟩ : ∃ w2, wr.alloc (.cells #[.int .i64 e.pos, .string e.key, .bool e.had, .string e.old, .bool e.has, .string e.now] 43) = w2 := ⟨_, rfl⟩
      have X2 : Hid (Ext Non wr w2) := by rw [← hw2]; exact (Ext.refl _ _).alloc _
      rw [hw2]
      refine (event_calls (HR3.out.ext0 X2.out) HLC.out HPE.out HSE.out).mono ?_
      rintro e' w4 ⟨v', rfl, ho, hee⟩
      obtain ⟨A4, n4, c4, rfl⟩ : ∃ A n c, v' = .slice A n c := by obtain ⟨A6, c6, h6, _, _⟩ := ho.slice; exact ⟨_, _, _, h6⟩
      have E4 : Hid (Ext Non w w4) := (HE.out.trans0 X2.out).trans0 hee
      have R4 : Hid (Rd Kd.u8 w4 (fun _ => True) (.slice A4 n4 c4) (bs ++ hdB D ++ (D.evs.take (j + 1)).flatMap evB)) := by
        have := ho.rd
        show Rd _ _ _ _ _
        rw [List.take_succ_eq_append_getElem (by rw [← HN1.out]; exact hlt), (List.getElem?_eq_some_iff.1 HX.out).2, List.flatMap_append, List.flatMap_singleton, ← List.append_assoc]
        exact this
      clear ho hee hw2
      go_wp2_with fail
      go_roundw
      case rel => exact ⟨j + 1, A4, n4, c4, rfl, by go_num, by omega, E4.out, R4.out⟩
      case measure => simp [intOf]; omega
    · obtain rfl : j = n1 := by omega
      have HRE : Hid (Rd Kd.u8 wr (fun _ => True) (.slice A3 n3 c3) (bs ++ hdB D ++ D.evs.flatMap evB)) := by
        have := HR3.out
        rw [List.take_of_length_le (by rw [← HN1.out]; exact Nat.le_refl _)] at this
        exact this
      have hl3 : (bs ++ hdB D ++ D.evs.flatMap evB).length = n3 := by
        obtain ⟨_, _, hs, _, _⟩ := HRE.out.slice
        simp only [Value.slice.injEq] at hs
        exact hs.2.1.symm
      have HL3 := Lib.hid hl3
      have HLC : Hid ((bs ++ hdB D ++ D.evs.flatMap evB).length ≤ 4300000) := by
        have h1 := HLH.out
        have h2 := HLE.out D.evs.length
        rw [List.take_length] at h2
        show (bs ++ hdB D ++ D.evs.flatMap evB).length ≤ _
        rw [List.length_append, List.length_append]
        omega
      have r1 := blk_cell (HE.out.obj HB.out (fun e => e)) 1
      clear hl3 HR3
      go_wp2_with fail
      have HC := Number_calls (w := wr) (ok := fun _ => True) (A := A3) (c := c3) (bs := bs ++ hdB D ++ D.evs.flatMap evB) (by rw [HL3.out]; exact HRE.out) (n2 : Int) (by omega) (by omega) (by have := HLC.out; omega) (fun _ _ => trivial)
      rw [HL3.out] at HC
      refine HC.mono ?_
      rintro e' w2 ⟨v', rfl, ho, hee⟩
      obtain ⟨A4, n4, c4, rfl⟩ : ∃ A n c, v' = .slice A n c := by obtain ⟨A6, c6, h6, _, _⟩ := ho.slice; exact ⟨_, _, _, h6⟩
      have E2 : Hid (Ext Non w w2) := HE.out.trans0 hee
      obtain ⟨hd, hhd⟩ : ∃ hd, bs ++ hdB D ++ D.evs.flatMap evB ++ numB D.subs.length = hd := ⟨_, rfl⟩
      have O2 : Hid (Own Kd.u8 5 w2 w.heap.size (fun _ => True) (.slice A4 n4 c4) hd) := by
        rw [← hhd]
        have := ho.lower HE.out.size
        rw [Int.toNat_natCast, HN2.out] at this
        exact this
      have HHD := Lib.hid hhd
      have HLD : Hid (hd.length ≤ 5000000) := by
        have h1 := HLC.out
        have h2 : (numB D.subs.length).length ≤ 9 := numB_le (by have := HN2.out; omega)
        rw [← hhd, List.length_append]
        show _ ≤ _
        omega
      have r1 := blk_cell (E2.out.obj HB.out (fun e => e)) 1
      clear ho hee HC hhd
      go_wp2_with fail
      go_loopw [1, 55] (fun s1 i wr => ∃ (j : Nat) (A3 : Option Addr) (n3 c3 : Nat), s1 = .slice A3 n3 c3 ∧ i = .int .i64 (j : Int) ∧ j ≤ n2 ∧ Hid (Ext Non w wr) ∧ Hid (Own Kd.u8 5 wr w.heap.size (fun _ => True) (.slice A3 n3 c3) (hd ++ (D.subs.take j).flatMap (sbB n))) ∧ Hid ((hd ++ (D.subs.take j).flatMap (sbB n)).length ≤ 5000000 + 50500000 * j)) (fun _ i _ => n2 - (intOf i).toNat)
      case atStart => exact ⟨0, A4, n4, c4, rfl, rfl, by omega, E2.out, by show Own _ _ _ _ _ _ _; simpa using O2.out, by have := HLD.out; show _ ≤ _; simpa using this⟩
      case round =>
        obtain ⟨j, A3, n3, c3, rfl, rfl, hj, HE, HO3, HLB⟩ := hrel
        by_cases hlt : j < n2
        · obtain ⟨s, hs⟩ : ∃ s, D.subs[j]? = some s := ⟨_, List.getElem?_eq_getElem (by have := HN2.out; omega)⟩
          obtain ⟨ga, offa, B, bl, bd, rfl, hga, hgla, a0, a1, a2, a3, a4, a5, a6, a7, ar⟩ := sb_at (H2.out.ext0 HE.out) hs
          have HX := Lib.hid hs
          have hmem : s ∈ D.subs := List.mem_of_getElem? hs
          have HRG := Lib.hid (HG.out.rng s hmem)
          have HOL := Lib.hid (HG.out.fine.good.okL s hmem)
          have HLP := Lib.hid (put_small HG.out.fine.good s hmem)
          have HAR := Lib.hid ar
          have hjl : Hid (j < 4) := by show _ < _; omega
          obtain ⟨cur, hcur⟩ : ∃ cur, hd ++ (D.subs.take j).flatMap (sbB n) = cur := ⟨_, rfl⟩
          rw [hcur] at HO3 HLB
          have HCU := Lib.hid hcur
          have HR3 := Lib.hid HO3.out.rd
          have hl3 : cur.length = n3 := by
            obtain ⟨_, _, hs, _, _⟩ := HR3.out.slice
            simp only [Value.slice.injEq] at hs
            exact hs.2.1.symm
          have HL3 := Lib.hid hl3
          clear hs hga ar hmem hcur hl3
          obtain ⟨q, hq⟩ : ∃ q, wr.heap.size = q := ⟨_, rfl⟩
          obtain ⟨w2, hw2⟩ : ∃ w2, wr.alloc (.cells #[.int .i64 s.id, .int .i64 s.fr, .int .i64 s.at_, .int .i64 s.q.op, .string s.q.key, .string s.q.val, .slice B bl bd, .bool s.gone] 64) = w2 := ⟨_, rfl⟩
          have X2 : Hid (Ext Non wr w2) := by rw [← hw2]; exact (Ext.refl _ _).alloc _
          have BQ2 : Hid (w2.heap[q]? = some (.cells #[.int .i64 s.id, .int .i64 s.fr, .int .i64 s.at_, .int .i64 s.q.op, .string s.q.key, .string s.q.val, .slice B bl bd, .bool s.gone] 64 (0, 0))) := by rw [← hw2, ← hq]; exact blk_new wr _
          obtain ⟨d0, d1, d2, d3, d4, d5, d6, d7⟩ := sbS8 BQ2.out
          go_wp2_with fail
          refine (Put_calls (n := n) (f := s.q) (ok := ok) ⟨_, rfl, HAR.out.ext0 X2.out⟩ HOL.out).mono ?_
          rintro e' w4 ⟨A8, m8, d8, rfl, ho, hee⟩
          have X4 : Hid (Ext Non wr w4) := X2.out.trans0 hee
          have BQ4 : Hid (w4.heap[q]? = some (.cells #[.int .i64 s.id, .int .i64 s.fr, .int .i64 s.at_, .int .i64 s.q.op, .string s.q.key, .string s.q.val, .slice B bl bd, .bool s.gone] 64 (0, 0))) := hee.obj BQ2.out (fun e => e)
          have O8 : Hid (Own Kd.u8 5 w4 w2.heap.size (fun k => w2.heap.size ≤ k) (.slice A8 m8 d8) (putOut (n + 1) s.q)) := ho
          clear ho hee hw2 hq a0 a1 a2 a3 a4 a5 a6 a7 d0 d1 d2 d3 d4 d5 d6 d7
          go_wp2_with fail
          refine Last.start_ (S := fun W => W.cell? ⟨q, 0, none⟩ = some (.int .i64 s.id) ∧ W.cell? ⟨q, 1, none⟩ = some (.int .i64 s.fr) ∧ W.cell? ⟨q, 2, none⟩ = some (.int .i64 s.at_) ∧ W.cell? ⟨q, 3, none⟩ = some (.int .i64 s.q.op) ∧ W.cell? ⟨q, 4, none⟩ = some (.string s.q.key) ∧ W.cell? ⟨q, 5, none⟩ = some (.string s.q.val) ∧ W.cell? ⟨q, 6, none⟩ = some (.slice B bl bd) ∧ W.cell? ⟨q, 7, none⟩ = some (.bool s.gone)) (ds := []) #[false, false, false, false, false, false, false, false, false, false, false, false, false, false, false] (by kernel_rfl) (by rfl) (by rfl) (sbS8 ((Ext.refl Non w4).drew.obj BQ4.out (fun e => e))) (fun hS => ?_)
          refine Last.take_ (i := 0) (N := some 65) (v := .slice A3 n3 c3) #[true, false, false, false, false, false, false, false, false, false, false, false, false, false, false] (by simp only [List.getElem?_toArray, List.getElem?_cons_zero]; rfl) rfl (by kernel_rfl) (by exact fun _ _ _ h => h) (Or.inl ⟨by rfl, fun W hW => by first | rfl | (try dsimp only at hW); go_simp⟩) hS rfl ?_
          simp only [Act.put, List.setIfInBounds_toArray, List.set_cons_zero, List.set_cons_succ]
          refine Last.take_ (i := 1) (N := some 66) (v := .pointer (some ⟨q, 0, none⟩)) #[true, true, false, false, false, false, false, false, false, false, false, false, false, false, false] (by simp only [List.getElem?_toArray, List.getElem?_cons_zero, List.getElem?_cons_succ]; rfl) rfl (by kernel_rfl) (by exact fun _ _ _ h => h) (Or.inl ⟨by rfl, fun W hW => by first | rfl | (try dsimp only at hW); go_simp⟩) hS rfl ?_
          simp only [Act.put, List.setIfInBounds_toArray, List.set_cons_zero, List.set_cons_succ]
          refine Last.take_ (i := 2) (N := some 67) (v := .int .i64 s.id) #[true, true, true, false, false, false, false, false, false, false, false, false, false, false, false] (by simp only [List.getElem?_toArray, List.getElem?_cons_zero, List.getElem?_cons_succ]; rfl) rfl (by kernel_rfl) (by exact fun _ _ _ h => h) (Or.inl ⟨by rfl, fun W hW => by first | rfl | (try dsimp only at hW); go_simp⟩) hS rfl ?_
          simp only [Act.put, List.setIfInBounds_toArray, List.set_cons_zero, List.set_cons_succ]
          refine Last.take_ (i := 3) (N := some 68) (v := .pointer (some ⟨q, 1, none⟩)) #[true, true, true, true, false, false, false, false, false, false, false, false, false, false, false] (by simp only [List.getElem?_toArray, List.getElem?_cons_zero, List.getElem?_cons_succ]; rfl) rfl (by kernel_rfl) (by exact fun _ _ _ h => h) (Or.inl ⟨by rfl, fun W hW => by first | rfl | (try dsimp only at hW); go_simp⟩) hS rfl ?_
          simp only [Act.put, List.setIfInBounds_toArray, List.set_cons_zero, List.set_cons_succ]
          refine Last.take_ (i := 4) (N := some 69) (v := .int .i64 s.fr) #[true, true, true, true, true, false, false, false, false, false, false, false, false, false, false] (by simp only [List.getElem?_toArray, List.getElem?_cons_zero, List.getElem?_cons_succ]; rfl) rfl (by kernel_rfl) (by exact fun _ _ _ h => h) (Or.inl ⟨by rfl, fun W hW => by first | rfl | (try dsimp only at hW); go_simp⟩) hS rfl ?_
          simp only [Act.put, List.setIfInBounds_toArray, List.set_cons_zero, List.set_cons_succ]
          refine Last.take_ (i := 5) (N := some 70) (v := .pointer (some ⟨q, 2, none⟩)) #[true, true, true, true, true, true, false, false, false, false, false, false, false, false, false] (by simp only [List.getElem?_toArray, List.getElem?_cons_zero, List.getElem?_cons_succ]; rfl) rfl (by kernel_rfl) (by exact fun _ _ _ h => h) (Or.inl ⟨by rfl, fun W hW => by first | rfl | (try dsimp only at hW); go_simp⟩) hS rfl ?_
          simp only [Act.put, List.setIfInBounds_toArray, List.set_cons_zero, List.set_cons_succ]
          refine Last.take_ (i := 6) (N := some 71) (v := .int .i64 s.at_) #[true, true, true, true, true, true, true, false, false, false, false, false, false, false, false] (by simp only [List.getElem?_toArray, List.getElem?_cons_zero, List.getElem?_cons_succ]; rfl) rfl (by kernel_rfl) (by exact fun _ _ _ h => h) (Or.inl ⟨by rfl, fun W hW => by first | rfl | (try dsimp only at hW); go_simp⟩) hS rfl ?_
          simp only [Act.put, List.setIfInBounds_toArray, List.set_cons_zero, List.set_cons_succ]
          refine Last.take_ (i := 9) (N := some 74) (v := .pointer (some ⟨q, 7, none⟩)) #[true, true, true, true, true, true, true, false, false, true, false, false, false, false, false] (by simp only [List.getElem?_toArray, List.getElem?_cons_zero, List.getElem?_cons_succ]; rfl) rfl (by kernel_rfl) (by exact fun _ _ _ h => h) (Or.inl ⟨by rfl, fun W hW => by first | rfl | (try dsimp only at hW); go_simp⟩) hS rfl ?_
          simp only [Act.put, List.setIfInBounds_toArray, List.set_cons_zero, List.set_cons_succ]
          refine Last.take_ (i := 10) (N := some 75) (v := .bool s.gone) #[true, true, true, true, true, true, true, false, false, true, true, false, false, false, false] (by simp only [List.getElem?_toArray, List.getElem?_cons_zero, List.getElem?_cons_succ]; rfl) rfl (by kernel_rfl) (by exact fun _ _ _ h => h) (Or.inl ⟨by rfl, fun W hW => by first | rfl | (try dsimp only at hW); go_simp⟩) hS rfl ?_
          simp only [Act.put, List.setIfInBounds_toArray, List.set_cons_zero, List.set_cons_succ]
          refine Last.take_ (i := 12) (N := some 77) (v := .slice A8 m8 d8) #[true, true, true, true, true, true, true, false, false, true, true, false, true, false, false] (by simp only [List.getElem?_toArray, List.getElem?_cons_zero, List.getElem?_cons_succ]; rfl) rfl (by kernel_rfl) (by exact fun _ _ _ h => h) (Or.inl ⟨by rfl, fun W hW => by first | rfl | (try dsimp only at hW); go_simp⟩) hS rfl ?_
          simp only [Act.put, List.setIfInBounds_toArray, List.set_cons_zero, List.set_cons_succ]
          refine Last.one_ (i := 7) (N := some 72) #[true, true, true, true, true, true, true, true, false, true, true, false, true, false, false] (by simp only [List.getElem?_toArray, List.getElem?_cons_zero, List.getElem?_cons_succ]; rfl) rfl (by kernel_rfl) (by decide) (fun K hK => ?_)
          go_simp
          obtain ⟨pz, hpz⟩ : ∃ p, w4.heap.size = p := ⟨_, rfl⟩
          obtain ⟨wz, hwz⟩ : ∃ W, (w4.alloc (.cells #[.int .i64 s.id, .int .i64 s.fr, .int .i64 s.at_] 3)).drew = W := ⟨_, rfl⟩
          have Zz : Hid (Ext Non w4 wz) := by rw [← hwz]; exact ((Ext.refl Non w4).alloc _).drew
          have KZ : Hid (wz.heap[pz]? = some (.cells #[.int .i64 s.id, .int .i64 s.fr, .int .i64 s.at_] 3 (0, 0))) := by rw [← hwz, ← hpz]; exact blk_new w4 _
          rw [hwz, hpz]
          clear hwz hpz
          refine hK.out _ _ (sbS8 (Zz.out.obj BQ4.out (fun e => e))) (fun hS => ?_)
          try simp only [Act.put, List.setIfInBounds_toArray, List.set_cons_zero, List.set_cons_succ]
          refine Last.one_ (i := 8) (N := some 73) #[true, true, true, true, true, true, true, true, true, true, true, false, true, false, false] (by simp only [List.getElem?_toArray, List.getElem?_cons_zero, List.getElem?_cons_succ]; rfl) rfl (by kernel_rfl) (by decide) (fun K hK => ?_)
          refine Last.goes_ Try.func63 (by kernel_rfl) rfl #[.slice A3 n3 c3, .slice (some ⟨pz, 0, none⟩) 3 3] (by rfl) rfl rfl (by simp [Act.eval]) ?_
          have HC := Numbers_calls (w := wz) (ok := fun _ => True) (A := A3) (c := c3) (d := 3) (bs := cur) (B := some ⟨pz, 0, none⟩) (ns := [s.id, s.fr, s.at_]) (by rw [HL3.out]; exact HR3.out.ext0 (X4.out.trans0 Zz.out)) (ints3 KZ.out) HRG.out (by have := HLB.out; simp only [List.length_cons, List.length_nil]; omega) (fun _ _ => trivial)
          rw [HL3.out] at HC
          refine HC.mono ?_
          rintro e' w5 ⟨v', rfl, ho, he⟩
          obtain ⟨Ax, nx, cx, rfl⟩ : ∃ A n c, v' = .slice A n c := by obtain ⟨A6, c6, h6, _, _⟩ := ho.slice; exact ⟨_, _, _, h6⟩
          have Z5 : Hid (Ext Non w4 w5) := Zz.out.trans0 he
          have R5 : Hid (Rd Kd.u8 w5 (fun _ => True) (.slice Ax nx cx) (cur ++ [s.id, s.fr, s.at_].flatMap numI)) := ho
          have HL5 : Hid (([s.id, s.fr, s.at_].flatMap numI).length ≤ 27) := nums_le _ (fun x hx => (HRG.out x hx).2)
          clear ho he HC
          refine ⟨_, rfl, ?_⟩
          refine hK.out _ _ (sbS8 (Z5.out.obj BQ4.out (fun e => e))) (fun hS => ?_)
          try simp only [Act.put, List.setIfInBounds_toArray, List.set_cons_zero, List.set_cons_succ]
          refine Last.one_ (i := 11) (N := some 76) #[true, true, true, true, true, true, true, true, true, true, true, true, true, false, false] (by simp only [List.getElem?_toArray, List.getElem?_cons_zero, List.getElem?_cons_succ]; rfl) rfl (by kernel_rfl) (by decide) (fun K hK => ?_)
          refine Last.goes_ Try.func67 (by kernel_rfl) rfl #[.slice Ax nx cx, .bool s.gone] (by rfl) rfl rfl (by simp [Act.eval]) ?_
          refine (Flag_calls R5.out s.gone (by have := HLB.out; have := HL5.out; rw [List.length_append]; omega) (fun _ _ => trivial)).mono ?_
          rintro e' w6 ⟨v', rfl, ho, he⟩
          obtain ⟨Ay, ny, cy, rfl⟩ : ∃ A n c, v' = .slice A n c := by obtain ⟨A6, c6, h6, _, _⟩ := ho.slice; exact ⟨_, _, _, h6⟩
          have Z6 : Hid (Ext Non w4 w6) := Z5.out.trans0 he
          have O6 : Hid (Own Kd.u8 5 w6 w5.heap.size (fun _ => True) (.slice Ay ny cy) (cur ++ [s.id, s.fr, s.at_].flatMap numI ++ numB (flagN s.gone))) := ho
          have HL6 : Hid ((numB (flagN s.gone)).length ≤ 9) := numB_le (by unfold flagN; split <;> omega)
          have hs56 : w4.heap.size ≤ w5.heap.size := Z5.out.size
          have hs65 : w5.heap.size ≤ w6.heap.size := he.size
          clear ho he
          refine ⟨_, rfl, ?_⟩
          refine hK.out _ _ (sbS8 (Z6.out.obj BQ4.out (fun e => e))) (fun hS => ?_)
          try simp only [Act.put, List.setIfInBounds_toArray, List.set_cons_zero, List.set_cons_succ]
          refine Last.one_ (i := 13) (N := some 78) #[true, true, true, true, true, true, true, true, true, true, true, true, true, true, false] (by simp only [List.getElem?_toArray, List.getElem?_cons_zero, List.getElem?_cons_succ]; rfl) rfl (by kernel_rfl) (by decide) (fun K hK => ?_)
          have hM6 : ∀ k, some k = (Value.slice Ay ny cy).ownBlock → w5.heap.size ≤ k ∧ k < w6.heap.size := fun k h => O6.out.base_le k h.symm
          have hlen : (cur ++ [s.id, s.fr, s.at_].flatMap numI ++ numB (flagN s.gone)).length + (putOut (n + 1) s.q).length ≤ 5000000 + 50500000 * (j + 1) := by
            have h1 := HLB.out
            have h2 := HL5.out
            have h3 := HL6.out
            have h4 := HLP.out
            rw [List.length_append, List.length_append]
            omega
          refine step_app Kd.u8 (ok := fun _ => True) (v := .slice Ay ny cy) (vx := .slice A8 m8 d8) (xs := cur ++ [s.id, s.fr, s.at_].flatMap numI ++ numB (flagN s.gone)) (ys := putOut (n + 1) s.q) w5.heap.size (by rfl) _ _ 70 5 _ 1 (by rfl) Try.underlying70 info5 rfl (by decide) (by simp [Act.eval]) (by simp [Act.eval]) O6.out ?_ (fun _ _ => trivial) ?_ ?_ ?_ ?_
          · exact (O8.out.rd.bound.ext0 Z6.out).mono (fun k hk => ⟨trivial, fun h => by have := hM6 _ h; have := hk.2; omega⟩)
          · exact (room_ok hlen hjl.out).1
          · exact (room_ok hlen hjl.out).2
          · exact hs65
          intro v' w7 hown hext hblk
          obtain ⟨A7, n7, c7, rfl⟩ : ∃ A n c, v' = .slice A n c := by obtain ⟨A6, c6, h6, _, _⟩ := hown.slice; exact ⟨_, _, _, h6⟩
          have Z7 : Hid (Ext Non w4 w7) := Z6.out.trans hext (fun i hi h => by have := hM6 _ h; omega)
          have O7 := Lib.hid hown
          have HLB7 := Lib.hid hlen
          clear hown hext hblk hlen
          refine hK.out _ _ (sbS8 (Z7.out.obj BQ4.out (fun e => e))) (fun hS => ?_)
          try simp only [Act.put, List.setIfInBounds_toArray, List.set_cons_zero, List.set_cons_succ]
          refine Last.take_ (i := 14) (N := some 1) (v := .slice A7 n7 c7) #[true, true, true, true, true, true, true, true, true, true, true, true, true, true, true] (by simp only [List.getElem?_toArray, List.getElem?_cons_zero, List.getElem?_cons_succ]; rfl) rfl (by kernel_rfl) (by exact fun _ _ _ h => h) (Or.inl ⟨by rfl, fun W hW => by first | rfl | (try dsimp only at hW); go_simp⟩) hS rfl ?_
          simp only [Act.put, List.setIfInBounds_toArray, List.set_cons_zero, List.set_cons_succ]
          refine Last.done_ (by kernel_rfl) ?_
          have OW : Hid (Own Kd.u8 5 w7 w.heap.size (fun _ => True) (.slice A7 n7 c7) (hd ++ (D.subs.take (j + 1)).flatMap (sbB n))) := by
            have h1 := O7.out.lower (base' := w.heap.size) (by have := HE.out.size; have := X4.out.size; omega)
            show Own _ _ _ _ _ _ _
            rw [List.take_succ_eq_append_getElem (by rw [← HN2.out]; exact hlt), (List.getElem?_eq_some_iff.1 HX.out).2, List.flatMap_append, List.flatMap_singleton, ← List.append_assoc, HCU.out, sbB, ← List.append_assoc, ← List.append_assoc]
            exact h1
          have HLW : Hid ((hd ++ (D.subs.take (j + 1)).flatMap (sbB n)).length ≤ 5000000 + 50500000 * (j + 1)) := by
            have h1 := HLB7.out
            show (hd ++ (D.subs.take (j + 1)).flatMap (sbB n)).length ≤ _
            rw [List.take_succ_eq_append_getElem (by rw [← HN2.out]; exact hlt), (List.getElem?_eq_some_iff.1 HX.out).2, List.flatMap_append, List.flatMap_singleton, ← List.append_assoc, HCU.out, sbB, ← List.append_assoc, ← List.append_assoc, List.length_append]
            exact h1
          have EW : Hid (Ext Non w w7) := (HE.out.trans0 X4.out).trans0 Z7.out
          go_wp2_with fail
          go_roundw
          case rel => exact ⟨j + 1, A7, n7, c7, rfl, by go_num, by omega, EW.out, OW.out, HLW.out⟩
          case measure => simp [intOf]; omega
        · obtain rfl : j = n2 := by omega
          have hO : Hid (Own Kd.u8 5 wr w.heap.size (fun _ => True) (.slice A3 n3 c3) (bs ++ encD n D)) := by
            have := HO3.out
            rw [List.take_of_length_le (by rw [← HN2.out]; exact Nat.le_refl _), ← HHD.out] at this
            show Own _ _ _ _ _ _ _
            simpa [encD, List.append_assoc] using this
          go_wp2_with fail
          go_ret
          exact ⟨_, rfl, hO.out, HE.out⟩
end Go.Proofs.Ytdjfijdnhfmeeaa
