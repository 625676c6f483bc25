/- Read. -/
import Derived.Test.YtdjfijdnhfmeeaaR3
import Derived.Test.YtdjfijdnhfmeeaaMB
namespace Go.TM
set_option maxRecDepth 100000 in
theorem Rd.take {α : Type} {d : Kd α} {w : World} {ok : Nat → Prop} {A : Option Addr} {n c : Nat} {xs : List α} (h : Rd d w ok (.slice A n c) xs) {k : Nat} (hk : k ≤ xs.length) : Rd d w ok (.slice A k c) (xs.take k) := by
  obtain ⟨A', c', he, hc, hm, hr⟩ := h
  simp only [Value.slice.injEq] at he
  obtain ⟨rfl, rfl, rfl⟩ := he
  have hl : (xs.take k).length = k := by rw [List.length_take]; omega
  refine ⟨A, c, by rw [hl], by omega, hm, fun h0 => ?_⟩
  obtain ⟨g, off, rfl, hg, hlt, hx⟩ := hr (by omega)
  refine ⟨g, off, rfl, hg, hlt, fun j x hj => ?_⟩
  have hjk : j < k := by have := (List.getElem?_eq_some_iff.1 hj).1; omega
  rw [List.getElem?_take_of_lt hjk] at hj
  exact hx j x hj
set_option maxRecDepth 100000 in
theorem Rd.drop {α : Type} {d : Kd α} {w : World} {ok : Nat → Prop} {g off n c : Nat} {xs : List α} (h : Rd d w ok (.slice (some ⟨g, off, none⟩) n c) xs) {k : Nat} (hk : k ≤ xs.length) :
    Rd d w ok (.slice (if c = k then some ⟨g, off, none⟩ else some ⟨g, off + k * d.sz, none⟩) (n - k) (c - k)) (xs.drop k) := by
  obtain ⟨A', c', he, hc, hm, hr⟩ := h
  simp only [Value.slice.injEq] at he
  obtain ⟨rfl, rfl, rfl⟩ := he
  have hl : (xs.drop k).length = xs.length - k := by rw [List.length_drop]
  refine ⟨_, c - k, by rw [hl], by omega, by omega, fun h0 => ?_⟩
  obtain ⟨g', off', he, hg, hlt, hx⟩ := hr (by omega)
  simp only [Option.some.injEq, Addr.mk.injEq, and_true] at he
  obtain ⟨rfl, rfl⟩ := he
  refine ⟨g, off + k * d.sz, by rw [if_neg (by omega)], hg, hlt, fun j x hj => ?_⟩
  rw [List.getElem?_drop] at hj
  obtain ⟨cs, h1, h2⟩ := hx _ x hj
  refine ⟨cs, h1, fun i u hu => ?_⟩
  have := h2 i u hu
  rwa [Nat.add_mul, show off + (k * d.sz + j * d.sz + i) = off + k * d.sz + (j * d.sz + i) from by omega] at this
end Go.TM
namespace Go.Proofs.Ytdjfijdnhfmeeaa
open Go.RowKit Go.TM
def runLen (p : Int) (l : List Ev) : Nat := (l.takeWhile fun x => x.pos == p).length
/-- Place by place, what passes; none: all of it was gone through. -/
def readG (P : List Ev → List Ev) (after most : Int) : Nat → List Ev → List Ev → Int → List Ev × Option Int
  | 0, _, out, _ => (out, none)
  | _ + 1, [], out, _ => (out, none)
  | k + 1, e :: r, out, up =>
    if after < e.pos then
      if most < (out.length : Int) + (P ((e :: r).take (runLen e.pos (e :: r)))).length ∧ after < up then (out, some up)
      else readG P after most k ((e :: r).drop (runLen e.pos (e :: r))) (out ++ P ((e :: r).take (runLen e.pos (e :: r)))) e.pos
    else readG P after most k ((e :: r).drop (runLen e.pos (e :: r))) out up
def passQ (n : Nat) (q : Flt) : List Ev → List Ev := passF fieldF (n + 1) q
def readR (n : Nat) (D : Fdr) (id after most : Int) : List Ev × Int × Int :=
  if (findR D.subs id).2 ≠ 0 then ([], 0, (findR D.subs id).2)
  else match D.subs[(findR D.subs id).1.toNat]? with
    | none => ([], 0, 80)
    | some s => if after < s.at_ then ([], 0, 82) else if D.top < after then ([], 0, 5)
      else match readG (passQ n s.q) after most D.evs.length D.evs [] after with
        | (out, some up) => (out, up, 0)
        | (out, none) => (out, D.top, 0)
theorem runLen_le (p : Int) (l : List Ev) : runLen p l ≤ l.length := (List.takeWhile_sublist _).length_le
theorem runLen_pos (e : Ev) (l : List Ev) : 0 < runLen e.pos (e :: l) := by simp [runLen]
/-- So many are at the place. -/
theorem runLen_is {p : Int} : ∀ {l : List Ev} {j : Nat}, j ≤ l.length → (∀ i y, i < j → l[i]? = some y → y.pos = p) → (∀ y, l[j]? = some y → ¬ y.pos = p) → runLen p l = j
  | [], j, hj, _, _ => by simp at hj; subst hj; rfl
  | e :: l, 0, _, _, h => by
    have := h e rfl
    simp [runLen, this]
  | e :: l, j + 1, hj, ha, hb => by
    have h0 := ha 0 e (by omega) rfl
    have := runLen_is (l := l) (j := j) (by simpa using hj) (fun i y hi hy => ha (i + 1) y (by omega) (by simpa using hy)) (fun y hy => hb y (by simpa using hy))
    unfold runLen at this ⊢
    rw [List.takeWhile_cons, if_pos (by simp [h0]), List.length_cons, this]
def ReadPost (r : List Ev × Int × Int) (w : World) (e : Ending) (w' : World) : Prop :=
  ∃ B m d, e = .returned (.tuple #[.slice B m d, .int .i64 r.2.1, .int .i64 r.2.2]) ∧ Own evK 43 w' w.heap.size (fun k => w.heap.size ≤ k) (.slice B m d) r.1 ∧ Ext Non w w'
set_option maxRecDepth 100000 in
set_option maxHeartbeats 8000000 in
theorem Read_calls {w : World} {n g : Nat} {ok : Nat → Prop} {D : Fdr} (h : Fd n ok w g D) (hn0 : D.next ≠ 0) (hev : ∀ e ∈ D.evs, e.now.size ≤ 1048576) (hle : D.evs.length ≤ 1048576) (hq : ∀ s ∈ D.subs, okF (n + 1) s.q) (id after most : Int) :
    Calls Try.prog 18 #[.pointer (some ⟨g, 0, none⟩), .int .i64 id, .int .i64 after, .int .i64 most] w (ReadPost (readR n D id after most) w) := by
  have HF := Lib.hid h
  have HD := Lib.hid (find_calls h hn0 id)
  have hgone : ∀ v : Int, v ≠ 0 → findR D.subs id = (0, v) → Calls Try.prog 18 #[.pointer (some ⟨g, 0, none⟩), .int .i64 id, .int .i64 after, .int .i64 most] w (ReadPost (readR n D id after most) w) := fun v hv he => by
    have HT : Hid (readR n D id after most = ([], 0, v)) := by show _ = _; rw [readR, he, if_pos hv]
    rw [he] at HD
    have ev : (v == 0) = false := beq_eq_false_iff_ne.2 hv
    clear h hev hle hq he
    go_enter Try.func18, Try.ntmps18
    go_wp2_with fail
    refine HD.out.mono ?_
    rintro e w5 ⟨rfl, he⟩
    have HE := Lib.hid he
    clear he
    go_wp2_with fail
    go_ret3
    rw [HT.out]
    exact ⟨none, 0, 0, rfl, Own.nil _ _ _ _ _, HE.out⟩
  rcases findR_cases D.subs id with ⟨hr, _⟩ | ⟨i, x, hx, -, -, ⟨-, hr⟩ | ⟨hgx, hr⟩⟩
  · exact hgone 80 (by decide) hr
  · exact hgone 81 (by decide) hr
  · have HR : readR n D id after most = if after < x.at_ then (([], 0, 82) : List Ev × Int × Int) else if D.top < after then ([], 0, 5) else match readG (passQ n x.q) after most D.evs.length D.evs [] after with
        | (out, some up) => (out, up, 0)
        | (out, none) => (out, D.top, 0) := by
      rw [readR, hr, if_neg (fun h => h rfl)]
      simp only [Int.toNat_natCast, hx]
    rw [hr] at HD
    obtain ⟨A1, n1, c1, A2, n2, c2, hb, h1, h2, h3⟩ := h
    have hn2 : n2 = D.subs.length := by
      obtain ⟨_, _, hs, _, _⟩ := h2.slice
      simp only [Value.slice.injEq] at hs
      exact hs.2.1
    have hin : i < n2 := by have := (List.getElem?_eq_some_iff.1 hx).1; omega
    obtain ⟨ga, offa, B, bl, bd, rfl, hga, hgla, a0, a1, a2, a3, a4, a5, a6, a7, ar⟩ := sb_at h2 hx
    have HB := Lib.hid hb
    have H1 := Lib.hid h1
    have HOF0 := Lib.hid (hq x (List.mem_of_getElem? hx))
    have HEV := Lib.hid hev
    have HLE0 := Lib.hid hle
    have hgl := blk_lt hb
    have b1 := hb.c1
    have b3 := hb.c3
    have b0 := hb.c0
    have HA3 := Lib.hid a3
    have HA4 := Lib.hid a4
    have HA5 := Lib.hid a5
    have HA6 := Lib.hid a6
    have HAR0 := Lib.hid ar
    have HHR := Lib.hid HR
    clear hr hx hb h1 h2 h3 hgone a0 a1 a3 a4 a5 a6 a7 ar hga hn2 HR hq hev hle
    by_cases ca : after < x.at_
    · have HT : Hid (readR n D id after most = ([], 0, 82)) := by show _ = _; rw [HHR.out, if_pos ca]
      go_enter Try.func18, Try.ntmps18
      go_wp2_with fail
      refine HD.out.mono ?_
      rintro e w5 ⟨rfl, he⟩
      have HE := Lib.hid he
      have b1 := he.cell b1 (fun e => e)
      have a2 := he.cell a2 (fun e => e)
      clear he
      go_wp2_with fail
      go_ret3
      rw [HT.out]
      exact ⟨none, 0, 0, rfl, Own.nil _ _ _ _ _, HE.out⟩
    · by_cases c3 : D.top < after
      · have HT : Hid (readR n D id after most = ([], 0, 5)) := by show _ = _; rw [HHR.out, if_neg ca, if_pos c3]
        go_enter Try.func18, Try.ntmps18
        go_wp2_with fail
        refine HD.out.mono ?_
        rintro e w5 ⟨rfl, he⟩
        have HE := Lib.hid he
        have b1 := he.cell b1 (fun e => e)
        have b3 := he.cell b3 (fun e => e)
        have a2 := he.cell a2 (fun e => e)
        clear he
        go_wp2_with fail
        go_ret3
        rw [HT.out]
        exact ⟨none, 0, 0, rfl, Own.nil _ _ _ _ _, HE.out⟩
      · have HT : Hid (readR n D id after most = match readG (passQ n x.q) after most D.evs.length D.evs [] after with
            | (out, some up) => (out, up, 0)
            | (out, none) => (out, D.top, 0)) := by show _ = _; rw [HHR.out, if_neg ca, if_neg c3]
        clear HHR
        go_enter Try.func18, Try.ntmps18
        go_wp2_with fail
        refine HD.out.mono ?_
        rintro e w5 ⟨rfl, he⟩
        have HE0 := Lib.hid he
        have b0' := b0
        have b1' := b1
        have b3' := b3
        have b0 := he.cell b0 (fun e => e)
        have b1 := he.cell b1 (fun e => e)
        have b3 := he.cell b3 (fun e => e)
        have a2 := he.cell a2 (fun e => e)
        clear he
        go_wp2_with fail
        go_loopg [13, 14, 15] D.evs.length (fun k s13 s14 s15 wr => ∃ (r out : List Ev) (up : Int) (A3 : Option Addr) (n3 c3 : Nat) (A5 : Option Addr) (m5 c5 : Nat), s13 = .slice A3 n3 c3 ∧ s14 = .int .i64 up ∧ s15 = .slice A5 m5 c5 ∧ Hid (Ext Non w wr) ∧ Hid (Own evK 43 wr w.heap.size (fun k => w.heap.size ≤ k) (.slice A3 n3 c3) out) ∧ Hid (Rd evK w ok (.slice A5 m5 c5) r) ∧ Hid (r.length ≤ k ∧ r.length ≤ 1048576 ∧ out.length ≤ 1048576 - r.length ∧ ∀ e ∈ r, e.now.size ≤ 1048576) ∧ Hid (readG (passQ n x.q) after most k r out up = readG (passQ n x.q) after most D.evs.length D.evs [] after))
        case atStart => exact ⟨D.evs, [], after, none, 0, 0, A1, n1, c1, rfl, rfl, rfl, HE0.out, Own.nil _ _ _ _ _, H1.out, ⟨Nat.le_refl _, HLE0.out, by simp, HEV.out⟩, rfl⟩
        case round =>
          obtain ⟨r, out, up, A3, n3, c3, A5, m5, c5, rfl, rfl, rfl, HE, HO, HR5, HSZ, HG⟩ := hrel
          have hm5 : m5 = r.length := by
            obtain ⟨_, _, hs, _, _⟩ := HR5.out.slice
            simp only [Value.slice.injEq] at hs
            exact hs.2.1
          have hmx : (m5 : Int) ≤ 1048576 := by have := HSZ.out.2.1; omega
          have HC5 : Hid (m5 ≤ c5) := by
            obtain ⟨_, _, hs, h, _⟩ := HR5.out.slice
            simp only [Value.slice.injEq] at hs
            show _ ≤ _
            omega
          have HM5 := Lib.hid hm5
          clear hm5
          by_cases h0 : 0 < m5
          · obtain ⟨e0, r', rfl⟩ : ∃ e r', r = e :: r' := by
              cases r with
              | nil => have := HM5.out; simp at this; omega
              | cons e r' => exact ⟨e, r', rfl⟩
            obtain ⟨k', rfl⟩ : ∃ k', gk = k' + 1 := ⟨gk - 1, by have h1 := HSZ.out.1; simp only [List.length_cons] at h1; omega⟩
            obtain ⟨ge, offe, rfl, hge, hgle, d0, d1, d2, d3, d4, d5⟩ := ev_at (HR5.out.ext0 HE.out) (j := 0) (e := e0) rfl
            have d0 : wr.cell? ⟨ge, offe, none⟩ = some (.int .i64 e0.pos) := by simpa using d0
            have r0 := HE.out.cell b0' (fun e => e)
            have r1 := HE.out.cell b1' (fun e => e)
            have r3' := HE.out.cell b3' (fun e => e)
            have r3 := HE.out.cell HA3.out (fun e => e)
            have r4 := HE.out.cell HA4.out (fun e => e)
            have r5 := HE.out.cell HA5.out (fun e => e)
            have r6 := HE.out.cell HA6.out (fun e => e)
            clear d1 d2 d3 d4 d5 hge
            go_wp2_with fail
            go_loopw [17] (fun s17 wr2 => ∃ j : Nat, s17 = .int .i64 (j : Int) ∧ j ≤ m5 ∧ wr2 = wr ∧ Hid (∀ i y, i < j → (e0 :: r')[i]? = some y → y.pos = e0.pos)) (fun s17 _ => m5 - (intOf s17).toNat)
            case atStart => exact ⟨0, rfl, by omega, rfl, fun i y hi => by omega⟩
            case round =>
              obtain ⟨j, rfl, hj, rfl, HJ⟩ := hrel
              by_cases hlt : j < m5
              · obtain ⟨y, hy⟩ : ∃ y, (e0 :: r')[j]? = some y := ⟨_, List.getElem?_eq_getElem (by have := HM5.out; omega)⟩
                obtain ⟨gy, offy, hA, hgy, hgly, f0, f1, f2, f3, f4, f5⟩ := ev_at (HR5.out.ext0 HE.out) hy
                simp only [Option.some.injEq, Addr.mk.injEq, and_true] at hA
                obtain ⟨rfl, rfl⟩ := hA
                have HY := Lib.hid hy
                clear f1 f2 f3 f4 f5 hgy hy
                by_cases hp : y.pos = e0.pos
                · have hb : (y.pos == e0.pos) = true := by rw [hp]; exact beq_self_eq_true _
                  go_wp2_with fail
                  go_roundw
                  case rel =>
                    refine ⟨j + 1, by go_num, by omega, by first | trivial | rfl, fun i' y' hi' hy' => ?_⟩
                    rcases Nat.lt_succ_iff_lt_or_eq.1 hi' with h | rfl
                    · exact HJ.out i' y' h hy'
                    · have := HY.out
                      rw [hy'] at this
                      cases this
                      exact hp
                  case measure => simp [intOf]; omega
                · have hb : (y.pos == e0.pos) = false := beq_eq_false_iff_ne.2 hp
                  have hrun : Hid (runLen e0.pos (e0 :: r') = j) := runLen_is (by have := HM5.out; omega) HJ.out (fun y' hy' => by have := HY.out; rw [hy'] at this; cases this; exact hp)
                  have hj1 : 0 < j := by rw [← hrun.out]; exact runLen_pos _ _
                  have hjr : j ≤ (e0 :: r').length := by rw [← HM5.out]; exact hj
                  have HR5' := HR5.out.drop hjr
                  rw [show evK.sz = 6 from rfl] at HR5'
                  have hjc : j ≤ c5 := Nat.le_trans hj HC5.out
                  obtain ⟨A9, hA9⟩ : ∃ A9, (if c5 = j then (some ⟨ge, offe, none⟩ : Option Addr) else some ⟨ge, offe + j * 6, none⟩) = A9 := ⟨_, rfl⟩
                  rw [hA9] at HR5'
                  have HR6 := Lib.hid HR5'
                  clear HR5'
                  by_cases hgt : after < e0.pos
                  · go_wp2_with fail
                    have HNW : Hid (∀ x ∈ (e0 :: r').take j, x.now.size ≤ 1048576) := fun x hx => HSZ.out.2.2.2 x (List.mem_of_mem_take hx)
                    refine Last.start_ (S := fun W => W.cell? ⟨g, 1, none⟩ = some (.slice (some ⟨ga, offa, none⟩) n2 c2) ∧ W.cell? ⟨ga, offa + i * 8 + 3, none⟩ = some (.int .i64 x.q.op) ∧ W.cell? ⟨ga, offa + i * 8 + 4, none⟩ = some (.string x.q.key) ∧ W.cell? ⟨ga, offa + i * 8 + 5, none⟩ = some (.string x.q.val) ∧ W.cell? ⟨ga, offa + i * 8 + 6, none⟩ = some (.slice B bl bd)) (ds := []) #[false, false, false, false, false, false, false, false, false, false, false, false, false] (by kernel_rfl) (by rfl) (by rfl) ⟨r1, r3, r4, r5, r6⟩ (fun hS => ?_)
                    refine Last.take_ (i := 0) (N := some 77) (v := .pointer (some ⟨g, 0, none⟩)) #[true, false, false, false, false, false, false, false, false, false, false, false, false] (by simp only [List.getElem?_toArray, List.getElem?_cons_zero]; rfl) rfl (by kernel_rfl) (by exact fun _ _ _ h => h) (Or.inl ⟨by rfl, fun W hW => by first | rfl | (try dsimp only at hW); go_simp⟩) hS rfl ?_
                    simp only [Act.put, List.setIfInBounds_toArray, List.set_cons_zero, List.set_cons_succ]
                    refine Last.take_ (i := 1) (N := some 78) (v := .pointer (some ⟨g, 0, none⟩)) #[true, true, false, false, false, false, false, false, false, false, false, false, false] (by simp only [List.getElem?_toArray, List.getElem?_cons_zero, List.getElem?_cons_succ]; rfl) rfl (by kernel_rfl) (by exact fun _ _ _ h => h) (Or.inl ⟨by rfl, fun W hW => by first | rfl | (try dsimp only at hW); go_simp⟩) hS rfl ?_
                    simp only [Act.put, List.setIfInBounds_toArray, List.set_cons_zero, List.set_cons_succ]
                    refine Last.take_ (i := 2) (N := some 79) (v := .pointer (some ⟨g, 1, none⟩)) #[true, true, true, false, false, false, false, false, false, false, false, false, false] (by simp only [List.getElem?_toArray, List.getElem?_cons_zero, List.getElem?_cons_succ]; rfl) rfl (by kernel_rfl) (by exact fun _ _ _ h => h) (Or.inl ⟨by rfl, fun W hW => by first | rfl | (try dsimp only at hW); go_simp⟩) hS rfl ?_
                    simp only [Act.put, List.setIfInBounds_toArray, List.set_cons_zero, List.set_cons_succ]
                    refine Last.take_ (i := 3) (N := some 80) (v := .slice (some ⟨ga, offa, none⟩) n2 c2) #[true, true, true, true, false, false, false, false, false, false, false, false, false] (by simp only [List.getElem?_toArray, List.getElem?_cons_zero, List.getElem?_cons_succ]; rfl) rfl (by kernel_rfl) (by exact fun _ _ _ h => h) (Or.inl ⟨by rfl, fun W hW => by first | rfl | (try dsimp only at hW); go_simp⟩) hS rfl ?_
                    simp only [Act.put, List.setIfInBounds_toArray, List.set_cons_zero, List.set_cons_succ]
                    refine Last.take_ (i := 4) (N := some 81) (v := .int .i64 (i : Int)) #[true, true, true, true, true, false, false, false, false, false, false, false, false] (by simp only [List.getElem?_toArray, List.getElem?_cons_zero, List.getElem?_cons_succ]; rfl) rfl (by kernel_rfl) (by exact fun _ _ _ h => h) (Or.inl ⟨by rfl, fun W hW => by first | rfl | (try dsimp only at hW); go_simp⟩) hS rfl ?_
                    simp only [Act.put, List.setIfInBounds_toArray, List.set_cons_zero, List.set_cons_succ]
                    refine Last.take_ (i := 5) (N := some 82) (v := .pointer (some ⟨ga, offa + i * 8, none⟩)) #[true, true, true, true, true, true, false, false, false, false, false, false, false] (by simp only [List.getElem?_toArray, List.getElem?_cons_zero, List.getElem?_cons_succ]; rfl) rfl (by kernel_rfl) (by exact fun _ _ _ h => h) (Or.inl ⟨by rfl, fun W hW => by first | rfl | (try dsimp only at hW); go_simp⟩) hS rfl ?_
                    simp only [Act.put, List.setIfInBounds_toArray, List.set_cons_zero, List.set_cons_succ]
                    refine Last.take_ (i := 6) (N := some 83) (v := .pointer (some ⟨ga, offa + i * 8 + 3, none⟩)) #[true, true, true, true, true, true, true, false, false, false, false, false, false] (by simp only [List.getElem?_toArray, List.getElem?_cons_zero, List.getElem?_cons_succ]; rfl) rfl (by kernel_rfl) (by exact fun _ _ _ h => h) (Or.inl ⟨by rfl, fun W hW => by first | rfl | (try dsimp only at hW); go_simp⟩) hS rfl ?_
                    simp only [Act.put, List.setIfInBounds_toArray, List.set_cons_zero, List.set_cons_succ]
                    refine Last.take_ (i := 7) (N := some 84) (v := .agg #[.int .i64 x.q.op, .string x.q.key, .string x.q.val, .slice B bl bd]) #[true, true, true, true, true, true, true, true, false, false, false, false, false] (by simp only [List.getElem?_toArray, List.getElem?_cons_zero, List.getElem?_cons_succ]; rfl) rfl (by kernel_rfl) (by exact fun _ _ _ h => h) (Or.inl ⟨by rfl, fun W hW => by first | rfl | (try dsimp only at hW); go_simp⟩) hS rfl ?_
                    simp only [Act.put, List.setIfInBounds_toArray, List.set_cons_zero, List.set_cons_succ]
                    refine Last.take_ (i := 8) (N := some 85) (v := .slice (some ⟨ge, offe, none⟩) m5 c5) #[true, true, true, true, true, true, true, true, true, false, false, false, false] (by simp only [List.getElem?_toArray, List.getElem?_cons_zero, List.getElem?_cons_succ]; rfl) rfl (by kernel_rfl) (by exact fun _ _ _ h => h) (Or.inl ⟨by rfl, fun W hW => by first | rfl | (try dsimp only at hW); go_simp⟩) hS rfl ?_
                    simp only [Act.put, List.setIfInBounds_toArray, List.set_cons_zero, List.set_cons_succ]
                    refine Last.take_ (i := 9) (N := some 86) (v := .int .i64 (j : Int)) #[true, true, true, true, true, true, true, true, true, true, false, false, false] (by simp only [List.getElem?_toArray, List.getElem?_cons_zero, List.getElem?_cons_succ]; rfl) rfl (by kernel_rfl) (by exact fun _ _ _ h => h) (Or.inl ⟨by rfl, fun W hW => by first | rfl | (try dsimp only at hW); go_simp⟩) hS rfl ?_
                    simp only [Act.put, List.setIfInBounds_toArray, List.set_cons_zero, List.set_cons_succ]
                    refine Last.take_ (i := 10) (N := some 87) (v := .slice (some ⟨ge, offe, none⟩) j c5) #[true, true, true, true, true, true, true, true, true, true, true, false, false] (by simp only [List.getElem?_toArray, List.getElem?_cons_zero, List.getElem?_cons_succ]; rfl) rfl (by kernel_rfl) (by exact fun _ _ _ h => h) (Or.inl ⟨by rfl, fun W hW => by first | rfl | (try dsimp only at hW); go_simp⟩) hS rfl ?_
                    simp only [Act.put, List.setIfInBounds_toArray, List.set_cons_zero, List.set_cons_succ]
                    refine Last.one_ (i := 11) (N := some 88) #[true, true, true, true, true, true, true, true, true, true, true, true, false] (by simp only [List.getElem?_toArray, List.getElem?_cons_zero, List.getElem?_cons_succ]; rfl) rfl (by kernel_rfl) (by decide) (fun K hK => ?_)
                    refine Last.goes_ Try.func37 (by kernel_rfl) rfl #[.agg #[.int .i64 x.q.op, .string x.q.key, .string x.q.val, .slice B bl bd], .slice (some ⟨ge, offe, none⟩) j c5] (by rfl) rfl rfl (by simp [Act.eval]) ?_
                    refine (Pass_calls (fp := fieldF) (n := n) (f := x.q) (ok := ok) ⟨_, rfl, HAR0.out.ext0 (HE.out.drew)⟩ HOF0.out (.inr Field_calls) ((HR5.out.ext0 HE.out.drew).take hjr) HNW.out (by rw [List.length_take]; have := HSZ.out.2.1; simp only [List.length_cons] at *; omega)).mono ?_
                    rintro e w6 ⟨A8, n8, c8, rfl, HO8, HE8⟩
                    have r1 := HE8.out.cell r1 (fun e => e)
                    have r3 := HE8.out.cell r3 (fun e => e)
                    have r4 := HE8.out.cell r4 (fun e => e)
                    have r5 := HE8.out.cell r5 (fun e => e)
                    have r6 := HE8.out.cell r6 (fun e => e)
                    refine ⟨_, rfl, ?_⟩
                    refine hK.out _ _ ⟨r1, r3, r4, r5, r6⟩ (fun hS => ?_)
                    try simp only [Act.put, List.setIfInBounds_toArray, List.set_cons_zero, List.set_cons_succ]
                    refine Last.take_ (i := 12) (N := some 18) (v := .slice A8 n8 c8) #[true, true, true, true, true, true, true, true, true, true, true, true, true] (by simp only [List.getElem?_toArray, List.getElem?_cons_zero, List.getElem?_cons_succ]; rfl) rfl (by kernel_rfl) (by exact fun _ _ _ h => h) (Or.inl ⟨by rfl, fun W hW => by first | rfl | (try dsimp only at hW); go_simp⟩) hS rfl ?_
                    simp only [Act.put, List.setIfInBounds_toArray, List.set_cons_zero, List.set_cons_succ]
                    refine Last.done_ (by kernel_rfl) ?_
                    obtain ⟨P, hP⟩ : ∃ P, passQ n x.q ((e0 :: r').take j) = P := ⟨_, rfl⟩
                    have HO9 : Hid (Own evK 43 w6 wr.heap.size (fun k => wr.heap.size ≤ k) (.slice A8 n8 c8) P) := by rw [← hP]; exact HO8.out
                    have hn8 : n8 = P.length := by
                      obtain ⟨_, _, hs, _, _⟩ := HO9.out.slice
                      simp only [Value.slice.injEq] at hs
                      exact hs.2.1
                    have hn3 : n3 = out.length := by
                      obtain ⟨_, _, hs, _, _⟩ := HO.out.slice
                      simp only [Value.slice.injEq] at hs
                      exact hs.2.1
                    have hPl : P.length ≤ j := by
                      rw [← hP]
                      refine Nat.le_trans (List.length_filter_le _ _) ?_
                      rw [List.length_take]
                      exact Nat.min_le_left _ _
                    have HN3 := Lib.hid hn3
                    have HN8 := Lib.hid hn8
                    have hb3 : n3 ≤ 1048576 - m5 := by have := HSZ.out.2.2.1; have := HM5.out; omega
                    have hb8 : n8 ≤ j := by omega
                    have HPP := Lib.hid hP
                    have hmb : m5 ≤ 1048576 := by have := HSZ.out.2.1; have := HM5.out; omega
                    have O6 : Hid (Own evK 43 w6 w.heap.size (fun k => w.heap.size ≤ k) (.slice A3 n3 c3) out) := HO.out.ext0 ((Ext.refl Non wr).drew.trans0 HE8.out)
                    have hM : ∀ k, some k = (Value.slice A3 n3 c3).ownBlock → w.heap.size ≤ k ∧ k < wr.heap.size := fun k h => HO.out.base_le k h.symm
                    have hsz2 := HE.out.size
                    have HS8 : Hid (readG (passQ n x.q) after most (k' + 1) (e0 :: r') out up = if most < (out.length : Int) + P.length ∧ after < up then (out, some up) else readG (passQ n x.q) after most k' ((e0 :: r').drop j) (out ++ P) e0.pos) := by
                      show _ = _
                      rw [readG, if_pos hgt, hrun.out, hP]
                    clear hn3 hn8 hP hPl
                    by_cases hful : most < (n3 : Int) + (n8 : Int)
                    · by_cases hup : after < up
                      · have HT2 : Hid (readR n D id after most = (out, up, 0)) := by
                          show _ = _
                          rw [HT.out, ← HG.out, HS8.out, if_pos (by rw [← HN3.out, ← HN8.out]; exact ⟨hful, hup⟩)]
                        go_wp2_with fail
                        go_ret3
                        rw [HT2.out]
                        exact ⟨A3, n3, c3, rfl, O6.out, HE.out.drew.trans0 HE8.out⟩
                      · have HG2 : Hid (readG (passQ n x.q) after most k' ((e0 :: r').drop j) (out ++ P) e0.pos = readG (passQ n x.q) after most D.evs.length D.evs [] after) := by
                          show _ = _
                          rw [← HG.out, HS8.out, if_neg (fun h => hup h.2)]
                        go_wp2_with (first
                          | (at_builtin
                             refine wpList_app evK (ok := fun k => w.heap.size ≤ k) (v := .slice A3 n3 c3) (vx := .slice A8 n8 c8) (xs := out) (ys := P) w.heap.size rfl _ _ 34 43 _ 72 rfl Try.underlying34 info43 rfl (by decide) (by simp [Act.eval]) (by simp [Act.eval]) O6.out (HO9.out.rd.mono (fun k hk => ⟨by omega, fun h => by have := hM _ h; omega⟩)) (fun k hk => by have := HE8.out.size; have hdr : wr.drew.heap.size = wr.heap.size := rfl; omega) (by have h1 := HN3.out; have h2 := HN8.out; rw [← h1, ← h2]; omega) (by have h1 := HN3.out; have h2 := HN8.out; rw [← h1, ← h2]; omega) (by have := HE8.out.size; have hdr : wr.drew.heap.size = wr.heap.size := rfl; omega) ?_
                             intro v' w' hown hext hblk)
                          | fail)
                        obtain ⟨A7, n7, c7, rfl⟩ : ∃ A n c, v' = .slice A n c := by obtain ⟨A6, c6, h6, _, _⟩ := hown.slice; exact ⟨_, _, _, h6⟩
                        have HOW := Lib.hid hown
                        have HEX : Hid (Ext Non w w') := (HE.out.drew.trans0 HE8.out).trans hext (fun i hi h => by have := hM _ h; omega)
                        clear hown hext hblk
                        go_roundg k'
                        case measure => exact Nat.lt_succ_self _
                        case rel => exact ⟨_, out ++ P, e0.pos, A7, n7, c7, _, _, _, rfl, rfl, rfl, HEX.out, HOW.out, HR6.out, ⟨by have := HSZ.out.1; simp only [List.length_drop, List.length_cons] at *; omega, by have := HSZ.out.2.1; simp only [List.length_drop, List.length_cons] at *; omega, by have h1 := HSZ.out.2.2.1; have h2 := HN8.out; have h3 := HSZ.out.2.1; rw [List.length_drop, List.length_append, ← h2]; omega, fun e he => HSZ.out.2.2.2 e (List.mem_of_mem_drop he)⟩, HG2.out⟩
                    · have HG2 : Hid (readG (passQ n x.q) after most k' ((e0 :: r').drop j) (out ++ P) e0.pos = readG (passQ n x.q) after most D.evs.length D.evs [] after) := by
                        show _ = _
                        rw [← HG.out, HS8.out, if_neg (fun h => hful (by rw [HN3.out, HN8.out]; exact h.1))]
                      go_wp2_with (first
                        | (at_builtin
                           refine wpList_app evK (ok := fun k => w.heap.size ≤ k) (v := .slice A3 n3 c3) (vx := .slice A8 n8 c8) (xs := out) (ys := P) w.heap.size rfl _ _ 34 43 _ 72 rfl Try.underlying34 info43 rfl (by decide) (by simp [Act.eval]) (by simp [Act.eval]) O6.out (HO9.out.rd.mono (fun k hk => ⟨by omega, fun h => by have := hM _ h; omega⟩)) (fun k hk => by have := HE8.out.size; have hdr : wr.drew.heap.size = wr.heap.size := rfl; omega) (by have h1 := HN3.out; have h2 := HN8.out; rw [← h1, ← h2]; omega) (by have h1 := HN3.out; have h2 := HN8.out; rw [← h1, ← h2]; omega) (by have := HE8.out.size; have hdr : wr.drew.heap.size = wr.heap.size := rfl; omega) ?_
                           intro v' w' hown hext hblk)
                        | fail)
                      obtain ⟨A7, n7, c7, rfl⟩ : ∃ A n c, v' = .slice A n c := by obtain ⟨A6, c6, h6, _, _⟩ := hown.slice; exact ⟨_, _, _, h6⟩
                      have HOW := Lib.hid hown
                      have HEX : Hid (Ext Non w w') := (HE.out.drew.trans0 HE8.out).trans hext (fun i hi h => by have := hM _ h; omega)
                      clear hown hext hblk
                      go_roundg k'
                      case measure => exact Nat.lt_succ_self _
                      case rel => exact ⟨_, out ++ P, e0.pos, A7, n7, c7, _, _, _, rfl, rfl, rfl, HEX.out, HOW.out, HR6.out, ⟨by have := HSZ.out.1; simp only [List.length_drop, List.length_cons] at *; omega, by have := HSZ.out.2.1; simp only [List.length_drop, List.length_cons] at *; omega, by have h1 := HSZ.out.2.2.1; have h2 := HN8.out; have h3 := HSZ.out.2.1; rw [List.length_drop, List.length_append, ← h2]; omega, fun e he => HSZ.out.2.2.2 e (List.mem_of_mem_drop he)⟩, HG2.out⟩
                  · have HS8 : Hid (readG (passQ n x.q) after most k' ((e0 :: r').drop j) out up = readG (passQ n x.q) after most D.evs.length D.evs [] after) := by
                      show _ = _
                      rw [← HG.out, readG, if_neg hgt, hrun.out]
                    go_wp2_with fail
                    go_roundg k'
                    case measure => exact Nat.lt_succ_self _
                    case rel => exact ⟨_, out, up, A3, n3, c3, _, _, _, rfl, rfl, rfl, HE.out, HO.out, HR6.out, ⟨by have := HSZ.out.1; simp only [List.length_drop, List.length_cons] at *; omega, by have := HSZ.out.2.1; simp only [List.length_drop, List.length_cons] at *; omega, by have := HSZ.out.2.2.1; simp only [List.length_drop, List.length_cons] at *; omega, fun e he => HSZ.out.2.2.2 e (List.mem_of_mem_drop he)⟩, HS8.out⟩
              · have hrun : Hid (runLen e0.pos (e0 :: r') = j) := runLen_is (by have := HM5.out; omega) HJ.out (fun y' hy' => by have := (List.getElem?_eq_some_iff.1 hy').1; have := HM5.out; omega)
                have hj1 : 0 < j := by rw [← hrun.out]; exact runLen_pos _ _
                have hjr : j ≤ (e0 :: r').length := by rw [← HM5.out]; exact hj
                have HR5' := HR5.out.drop hjr
                rw [show evK.sz = 6 from rfl] at HR5'
                have hjc : j ≤ c5 := Nat.le_trans hj HC5.out
                obtain ⟨A9, hA9⟩ : ∃ A9, (if c5 = j then (some ⟨ge, offe, none⟩ : Option Addr) else some ⟨ge, offe + j * 6, none⟩) = A9 := ⟨_, rfl⟩
                rw [hA9] at HR5'
                have HR6 := Lib.hid HR5'
                clear HR5'
                by_cases hgt : after < e0.pos
                · go_wp2_with fail
                  have HNW : Hid (∀ x ∈ (e0 :: r').take j, x.now.size ≤ 1048576) := fun x hx => HSZ.out.2.2.2 x (List.mem_of_mem_take hx)
                  refine Last.start_ (S := fun W => W.cell? ⟨g, 1, none⟩ = some (.slice (some ⟨ga, offa, none⟩) n2 c2) ∧ W.cell? ⟨ga, offa + i * 8 + 3, none⟩ = some (.int .i64 x.q.op) ∧ W.cell? ⟨ga, offa + i * 8 + 4, none⟩ = some (.string x.q.key) ∧ W.cell? ⟨ga, offa + i * 8 + 5, none⟩ = some (.string x.q.val) ∧ W.cell? ⟨ga, offa + i * 8 + 6, none⟩ = some (.slice B bl bd)) (ds := []) #[false, false, false, false, false, false, false, false, false, false, false, false, false] (by kernel_rfl) (by rfl) (by rfl) ⟨r1, r3, r4, r5, r6⟩ (fun hS => ?_)
                  refine Last.take_ (i := 0) (N := some 77) (v := .pointer (some ⟨g, 0, none⟩)) #[true, false, false, false, false, false, false, false, false, false, false, false, false] (by simp only [List.getElem?_toArray, List.getElem?_cons_zero]; rfl) rfl (by kernel_rfl) (by exact fun _ _ _ h => h) (Or.inl ⟨by rfl, fun W hW => by first | rfl | (try dsimp only at hW); go_simp⟩) hS rfl ?_
                  simp only [Act.put, List.setIfInBounds_toArray, List.set_cons_zero, List.set_cons_succ]
                  refine Last.take_ (i := 1) (N := some 78) (v := .pointer (some ⟨g, 0, none⟩)) #[true, true, false, false, false, false, false, false, false, false, false, false, false] (by simp only [List.getElem?_toArray, List.getElem?_cons_zero, List.getElem?_cons_succ]; rfl) rfl (by kernel_rfl) (by exact fun _ _ _ h => h) (Or.inl ⟨by rfl, fun W hW => by first | rfl | (try dsimp only at hW); go_simp⟩) hS rfl ?_
                  simp only [Act.put, List.setIfInBounds_toArray, List.set_cons_zero, List.set_cons_succ]
                  refine Last.take_ (i := 2) (N := some 79) (v := .pointer (some ⟨g, 1, none⟩)) #[true, true, true, false, false, false, false, false, false, false, false, false, false] (by simp only [List.getElem?_toArray, List.getElem?_cons_zero, List.getElem?_cons_succ]; rfl) rfl (by kernel_rfl) (by exact fun _ _ _ h => h) (Or.inl ⟨by rfl, fun W hW => by first | rfl | (try dsimp only at hW); go_simp⟩) hS rfl ?_
                  simp only [Act.put, List.setIfInBounds_toArray, List.set_cons_zero, List.set_cons_succ]
                  refine Last.take_ (i := 3) (N := some 80) (v := .slice (some ⟨ga, offa, none⟩) n2 c2) #[true, true, true, true, false, false, false, false, false, false, false, false, false] (by simp only [List.getElem?_toArray, List.getElem?_cons_zero, List.getElem?_cons_succ]; rfl) rfl (by kernel_rfl) (by exact fun _ _ _ h => h) (Or.inl ⟨by rfl, fun W hW => by first | rfl | (try dsimp only at hW); go_simp⟩) hS rfl ?_
                  simp only [Act.put, List.setIfInBounds_toArray, List.set_cons_zero, List.set_cons_succ]
                  refine Last.take_ (i := 4) (N := some 81) (v := .int .i64 (i : Int)) #[true, true, true, true, true, false, false, false, false, false, false, false, false] (by simp only [List.getElem?_toArray, List.getElem?_cons_zero, List.getElem?_cons_succ]; rfl) rfl (by kernel_rfl) (by exact fun _ _ _ h => h) (Or.inl ⟨by rfl, fun W hW => by first | rfl | (try dsimp only at hW); go_simp⟩) hS rfl ?_
                  simp only [Act.put, List.setIfInBounds_toArray, List.set_cons_zero, List.set_cons_succ]
                  refine Last.take_ (i := 5) (N := some 82) (v := .pointer (some ⟨ga, offa + i * 8, none⟩)) #[true, true, true, true, true, true, false, false, false, false, false, false, false] (by simp only [List.getElem?_toArray, List.getElem?_cons_zero, List.getElem?_cons_succ]; rfl) rfl (by kernel_rfl) (by exact fun _ _ _ h => h) (Or.inl ⟨by rfl, fun W hW => by first | rfl | (try dsimp only at hW); go_simp⟩) hS rfl ?_
                  simp only [Act.put, List.setIfInBounds_toArray, List.set_cons_zero, List.set_cons_succ]
                  refine Last.take_ (i := 6) (N := some 83) (v := .pointer (some ⟨ga, offa + i * 8 + 3, none⟩)) #[true, true, true, true, true, true, true, false, false, false, false, false, false] (by simp only [List.getElem?_toArray, List.getElem?_cons_zero, List.getElem?_cons_succ]; rfl) rfl (by kernel_rfl) (by exact fun _ _ _ h => h) (Or.inl ⟨by rfl, fun W hW => by first | rfl | (try dsimp only at hW); go_simp⟩) hS rfl ?_
                  simp only [Act.put, List.setIfInBounds_toArray, List.set_cons_zero, List.set_cons_succ]
                  refine Last.take_ (i := 7) (N := some 84) (v := .agg #[.int .i64 x.q.op, .string x.q.key, .string x.q.val, .slice B bl bd]) #[true, true, true, true, true, true, true, true, false, false, false, false, false] (by simp only [List.getElem?_toArray, List.getElem?_cons_zero, List.getElem?_cons_succ]; rfl) rfl (by kernel_rfl) (by exact fun _ _ _ h => h) (Or.inl ⟨by rfl, fun W hW => by first | rfl | (try dsimp only at hW); go_simp⟩) hS rfl ?_
                  simp only [Act.put, List.setIfInBounds_toArray, List.set_cons_zero, List.set_cons_succ]
                  refine Last.take_ (i := 8) (N := some 85) (v := .slice (some ⟨ge, offe, none⟩) m5 c5) #[true, true, true, true, true, true, true, true, true, false, false, false, false] (by simp only [List.getElem?_toArray, List.getElem?_cons_zero, List.getElem?_cons_succ]; rfl) rfl (by kernel_rfl) (by exact fun _ _ _ h => h) (Or.inl ⟨by rfl, fun W hW => by first | rfl | (try dsimp only at hW); go_simp⟩) hS rfl ?_
                  simp only [Act.put, List.setIfInBounds_toArray, List.set_cons_zero, List.set_cons_succ]
                  refine Last.take_ (i := 9) (N := some 86) (v := .int .i64 (j : Int)) #[true, true, true, true, true, true, true, true, true, true, false, false, false] (by simp only [List.getElem?_toArray, List.getElem?_cons_zero, List.getElem?_cons_succ]; rfl) rfl (by kernel_rfl) (by exact fun _ _ _ h => h) (Or.inl ⟨by rfl, fun W hW => by first | rfl | (try dsimp only at hW); go_simp⟩) hS rfl ?_
                  simp only [Act.put, List.setIfInBounds_toArray, List.set_cons_zero, List.set_cons_succ]
                  refine Last.take_ (i := 10) (N := some 87) (v := .slice (some ⟨ge, offe, none⟩) j c5) #[true, true, true, true, true, true, true, true, true, true, true, false, false] (by simp only [List.getElem?_toArray, List.getElem?_cons_zero, List.getElem?_cons_succ]; rfl) rfl (by kernel_rfl) (by exact fun _ _ _ h => h) (Or.inl ⟨by rfl, fun W hW => by first | rfl | (try dsimp only at hW); go_simp⟩) hS rfl ?_
                  simp only [Act.put, List.setIfInBounds_toArray, List.set_cons_zero, List.set_cons_succ]
                  refine Last.one_ (i := 11) (N := some 88) #[true, true, true, true, true, true, true, true, true, true, true, true, false] (by simp only [List.getElem?_toArray, List.getElem?_cons_zero, List.getElem?_cons_succ]; rfl) rfl (by kernel_rfl) (by decide) (fun K hK => ?_)
                  refine Last.goes_ Try.func37 (by kernel_rfl) rfl #[.agg #[.int .i64 x.q.op, .string x.q.key, .string x.q.val, .slice B bl bd], .slice (some ⟨ge, offe, none⟩) j c5] (by rfl) rfl rfl (by simp [Act.eval]) ?_
                  refine (Pass_calls (fp := fieldF) (n := n) (f := x.q) (ok := ok) ⟨_, rfl, HAR0.out.ext0 (HE.out.drew)⟩ HOF0.out (.inr Field_calls) ((HR5.out.ext0 HE.out.drew).take hjr) HNW.out (by rw [List.length_take]; have := HSZ.out.2.1; simp only [List.length_cons] at *; omega)).mono ?_
                  rintro e w6 ⟨A8, n8, c8, rfl, HO8, HE8⟩
                  have r1 := HE8.out.cell r1 (fun e => e)
                  have r3 := HE8.out.cell r3 (fun e => e)
                  have r4 := HE8.out.cell r4 (fun e => e)
                  have r5 := HE8.out.cell r5 (fun e => e)
                  have r6 := HE8.out.cell r6 (fun e => e)
                  refine ⟨_, rfl, ?_⟩
                  refine hK.out _ _ ⟨r1, r3, r4, r5, r6⟩ (fun hS => ?_)
                  try simp only [Act.put, List.setIfInBounds_toArray, List.set_cons_zero, List.set_cons_succ]
                  refine Last.take_ (i := 12) (N := some 18) (v := .slice A8 n8 c8) #[true, true, true, true, true, true, true, true, true, true, true, true, true] (by simp only [List.getElem?_toArray, List.getElem?_cons_zero, List.getElem?_cons_succ]; rfl) rfl (by kernel_rfl) (by exact fun _ _ _ h => h) (Or.inl ⟨by rfl, fun W hW => by first | rfl | (try dsimp only at hW); go_simp⟩) hS rfl ?_
                  simp only [Act.put, List.setIfInBounds_toArray, List.set_cons_zero, List.set_cons_succ]
                  refine Last.done_ (by kernel_rfl) ?_
                  obtain ⟨P, hP⟩ : ∃ P, passQ n x.q ((e0 :: r').take j) = P := ⟨_, rfl⟩
                  have HO9 : Hid (Own evK 43 w6 wr.heap.size (fun k => wr.heap.size ≤ k) (.slice A8 n8 c8) P) := by rw [← hP]; exact HO8.out
                  have hn8 : n8 = P.length := by
                    obtain ⟨_, _, hs, _, _⟩ := HO9.out.slice
                    simp only [Value.slice.injEq] at hs
                    exact hs.2.1
                  have hn3 : n3 = out.length := by
                    obtain ⟨_, _, hs, _, _⟩ := HO.out.slice
                    simp only [Value.slice.injEq] at hs
                    exact hs.2.1
                  have hPl : P.length ≤ j := by
                    rw [← hP]
                    refine Nat.le_trans (List.length_filter_le _ _) ?_
                    rw [List.length_take]
                    exact Nat.min_le_left _ _
                  have HN3 := Lib.hid hn3
                  have HN8 := Lib.hid hn8
                  have hb3 : n3 ≤ 1048576 - m5 := by have := HSZ.out.2.2.1; have := HM5.out; omega
                  have hb8 : n8 ≤ j := by omega
                  have HPP := Lib.hid hP
                  have hmb : m5 ≤ 1048576 := by have := HSZ.out.2.1; have := HM5.out; omega
                  have O6 : Hid (Own evK 43 w6 w.heap.size (fun k => w.heap.size ≤ k) (.slice A3 n3 c3) out) := HO.out.ext0 ((Ext.refl Non wr).drew.trans0 HE8.out)
                  have hM : ∀ k, some k = (Value.slice A3 n3 c3).ownBlock → w.heap.size ≤ k ∧ k < wr.heap.size := fun k h => HO.out.base_le k h.symm
                  have hsz2 := HE.out.size
                  have HS8 : Hid (readG (passQ n x.q) after most (k' + 1) (e0 :: r') out up = if most < (out.length : Int) + P.length ∧ after < up then (out, some up) else readG (passQ n x.q) after most k' ((e0 :: r').drop j) (out ++ P) e0.pos) := by
                    show _ = _
                    rw [readG, if_pos hgt, hrun.out, hP]
                  clear hn3 hn8 hP hPl
                  by_cases hful : most < (n3 : Int) + (n8 : Int)
                  · by_cases hup : after < up
                    · have HT2 : Hid (readR n D id after most = (out, up, 0)) := by
                        show _ = _
                        rw [HT.out, ← HG.out, HS8.out, if_pos (by rw [← HN3.out, ← HN8.out]; exact ⟨hful, hup⟩)]
                      go_wp2_with fail
                      go_ret3
                      rw [HT2.out]
                      exact ⟨A3, n3, c3, rfl, O6.out, HE.out.drew.trans0 HE8.out⟩
                    · have HG2 : Hid (readG (passQ n x.q) after most k' ((e0 :: r').drop j) (out ++ P) e0.pos = readG (passQ n x.q) after most D.evs.length D.evs [] after) := by
                        show _ = _
                        rw [← HG.out, HS8.out, if_neg (fun h => hup h.2)]
                      go_wp2_with (first
                        | (at_builtin
                           refine wpList_app evK (ok := fun k => w.heap.size ≤ k) (v := .slice A3 n3 c3) (vx := .slice A8 n8 c8) (xs := out) (ys := P) w.heap.size rfl _ _ 34 43 _ 72 rfl Try.underlying34 info43 rfl (by decide) (by simp [Act.eval]) (by simp [Act.eval]) O6.out (HO9.out.rd.mono (fun k hk => ⟨by omega, fun h => by have := hM _ h; omega⟩)) (fun k hk => by have := HE8.out.size; have hdr : wr.drew.heap.size = wr.heap.size := rfl; omega) (by have h1 := HN3.out; have h2 := HN8.out; rw [← h1, ← h2]; omega) (by have h1 := HN3.out; have h2 := HN8.out; rw [← h1, ← h2]; omega) (by have := HE8.out.size; have hdr : wr.drew.heap.size = wr.heap.size := rfl; omega) ?_
                           intro v' w' hown hext hblk)
                        | fail)
                      obtain ⟨A7, n7, c7, rfl⟩ : ∃ A n c, v' = .slice A n c := by obtain ⟨A6, c6, h6, _, _⟩ := hown.slice; exact ⟨_, _, _, h6⟩
                      have HOW := Lib.hid hown
                      have HEX : Hid (Ext Non w w') := (HE.out.drew.trans0 HE8.out).trans hext (fun i hi h => by have := hM _ h; omega)
                      clear hown hext hblk
                      go_roundg k'
                      case measure => exact Nat.lt_succ_self _
                      case rel => exact ⟨_, out ++ P, e0.pos, A7, n7, c7, _, _, _, rfl, rfl, rfl, HEX.out, HOW.out, HR6.out, ⟨by have := HSZ.out.1; simp only [List.length_drop, List.length_cons] at *; omega, by have := HSZ.out.2.1; simp only [List.length_drop, List.length_cons] at *; omega, by have h1 := HSZ.out.2.2.1; have h2 := HN8.out; have h3 := HSZ.out.2.1; rw [List.length_drop, List.length_append, ← h2]; omega, fun e he => HSZ.out.2.2.2 e (List.mem_of_mem_drop he)⟩, HG2.out⟩
                  · have HG2 : Hid (readG (passQ n x.q) after most k' ((e0 :: r').drop j) (out ++ P) e0.pos = readG (passQ n x.q) after most D.evs.length D.evs [] after) := by
                      show _ = _
                      rw [← HG.out, HS8.out, if_neg (fun h => hful (by rw [HN3.out, HN8.out]; exact h.1))]
                    go_wp2_with (first
                      | (at_builtin
                         refine wpList_app evK (ok := fun k => w.heap.size ≤ k) (v := .slice A3 n3 c3) (vx := .slice A8 n8 c8) (xs := out) (ys := P) w.heap.size rfl _ _ 34 43 _ 72 rfl Try.underlying34 info43 rfl (by decide) (by simp [Act.eval]) (by simp [Act.eval]) O6.out (HO9.out.rd.mono (fun k hk => ⟨by omega, fun h => by have := hM _ h; omega⟩)) (fun k hk => by have := HE8.out.size; have hdr : wr.drew.heap.size = wr.heap.size := rfl; omega) (by have h1 := HN3.out; have h2 := HN8.out; rw [← h1, ← h2]; omega) (by have h1 := HN3.out; have h2 := HN8.out; rw [← h1, ← h2]; omega) (by have := HE8.out.size; have hdr : wr.drew.heap.size = wr.heap.size := rfl; omega) ?_
                         intro v' w' hown hext hblk)
                      | fail)
                    obtain ⟨A7, n7, c7, rfl⟩ : ∃ A n c, v' = .slice A n c := by obtain ⟨A6, c6, h6, _, _⟩ := hown.slice; exact ⟨_, _, _, h6⟩
                    have HOW := Lib.hid hown
                    have HEX : Hid (Ext Non w w') := (HE.out.drew.trans0 HE8.out).trans hext (fun i hi h => by have := hM _ h; omega)
                    clear hown hext hblk
                    go_roundg k'
                    case measure => exact Nat.lt_succ_self _
                    case rel => exact ⟨_, out ++ P, e0.pos, A7, n7, c7, _, _, _, rfl, rfl, rfl, HEX.out, HOW.out, HR6.out, ⟨by have := HSZ.out.1; simp only [List.length_drop, List.length_cons] at *; omega, by have := HSZ.out.2.1; simp only [List.length_drop, List.length_cons] at *; omega, by have h1 := HSZ.out.2.2.1; have h2 := HN8.out; have h3 := HSZ.out.2.1; rw [List.length_drop, List.length_append, ← h2]; omega, fun e he => HSZ.out.2.2.2 e (List.mem_of_mem_drop he)⟩, HG2.out⟩
                · have HS8 : Hid (readG (passQ n x.q) after most k' ((e0 :: r').drop j) out up = readG (passQ n x.q) after most D.evs.length D.evs [] after) := by
                    show _ = _
                    rw [← HG.out, readG, if_neg hgt, hrun.out]
                  go_wp2_with fail
                  go_roundg k'
                  case measure => exact Nat.lt_succ_self _
                  case rel => exact ⟨_, out, up, A3, n3, c3, _, _, _, rfl, rfl, rfl, HE.out, HO.out, HR6.out, ⟨by have := HSZ.out.1; simp only [List.length_drop, List.length_cons] at *; omega, by have := HSZ.out.2.1; simp only [List.length_drop, List.length_cons] at *; omega, by have := HSZ.out.2.2.1; simp only [List.length_drop, List.length_cons] at *; omega, fun e he => HSZ.out.2.2.2 e (List.mem_of_mem_drop he)⟩, HS8.out⟩
          · have hr0 : r = [] := List.eq_nil_of_length_eq_zero (by have := HM5.out; omega)
            subst hr0
            have HT2 : Hid (readR n D id after most = (out, D.top, 0)) := by
              show _ = _
              rw [HT.out, ← HG.out]
              cases gk with
              | zero => rfl
              | succ k => rfl
            have r3 := HE.out.cell b3' (fun e => e)
            obtain rfl : m5 = 0 := by omega
            go_wp2_with fail
            go_region
            go_wp2_with fail
            go_ret3
            rw [HT2.out]
            exact ⟨A3, n3, c3, rfl, HO.out.ext0 (Ext.refl Non wr).drew, HE.out.drew⟩
end Go.Proofs.Ytdjfijdnhfmeeaa
