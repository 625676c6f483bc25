/- The document's disk: fuse, act. -/
import Derived.Test.YtpmncppfopbaaaaE4
namespace Go.Proofs.Ytpmncppfopbaaaa
open Go.RowKit Go.TM

theorem RefAt.tick {w : World} {ok : Nat → Prop} {g : Nat} {d : Dk} (h : RefAt w ok g d) (hg : ¬ ok g) : RefAt (w.setCell ⟨g, 6, none⟩ (.int .i64 (d.left - 1))) ok g d.tick := by
  obtain ⟨B0, m0, d0, B1, m1, d1, B2, m2, d2, Aw, nw, cw, hb, hp, hr⟩ := h
  refine RefAt.mk' (w := w) (B0 := B0) (m0 := m0) (d0 := d0) (B1 := B1) (m1 := m1) (d1 := d1) (B2 := B2) (m2 := m2) (d2 := d2) (Aw := Aw) (nw := nw) (cw := cw) ((Ext.refl _ w).og 6 _) hg ?_ hp hr
  have h := blk_set hb 6 (.int .i64 (d.left - 1))
  simpa [Dk.tick] using h
theorem rfuse_calls {w : World} {ok : Nat → Prop} {g : Nat} {d : Dk} (L : RLive w ok g d) (hoff : d.off = false) :
    Calls Try.prog 55 #[.pointer (some ⟨g, 0, none⟩)] w (RPost ok g (Dk.told d.fuse) w) := by
  have HL := Lib.hid L
  have HOF := Lib.hid hoff
  obtain ⟨-, e5, e6, e7, e8, hy, hgs⟩ := L.at_.flat
  have y6 := hy 6
  by_cases h0 : d.left = 0
  · have hr : Dk.told d.fuse = (0, d) := by unfold Dk.fuse; rw [if_pos h0]; rfl
    rw [hr]
    rw [h0] at e6
    clear L h0 hr hy hoff
    go_enter Try.func55, Try.ntmps55
    go_wp2_with fail
    go_ret
    exact ⟨rfl, HL.out.at_, Ext.refl _ _⟩
  have HT := Lib.hid (L.good.tick h0)
  have HD := Lib.hid (L.at_.tick L.out)
  have hl := L.good.left
  by_cases h1 : d.left = 1
  · have hr : Dk.told d.fuse = (30, d.tick.down d.keep d.tear) := by unfold Dk.fuse; rw [if_neg h0, if_pos h1]; rfl
    rw [hr]
    have hl1 : d.left - 1 = 0 := by omega
    have HD : Hid (RefAt (w.setCell ⟨g, 6, none⟩ (.int .i64 0)) ok g d.tick) := by
      have := HD.out
      rw [hl1] at this
      exact this
    have E1 := Lib.hid ((Ext.refl (Only g) w).og 6 (.int .i64 0))
    have HLT : Hid (RLive (w.setCell ⟨g, 6, none⟩ (.int .i64 0)) ok g d.tick) := ⟨HD.out, HT.out, fun k hk => L.fresh k (Nat.le_trans E1.out.size hk), L.out, L.wl⟩
    obtain ⟨-, -, -, e7', e8', -, -⟩ := HD.out.flat
    have e7' : (w.setCell ⟨g, 6, none⟩ (.int .i64 0)).cell? ⟨g, 7, none⟩ = some (.int .i64 d.keep) := e7'
    have e8' : (w.setCell ⟨g, 6, none⟩ (.int .i64 0)).cell? ⟨g, 8, none⟩ = some (.int .i64 d.tear) := e8'
    rw [h1] at e6
    have HK : Hid (d.tick.keep = d.keep ∧ d.tick.tear = d.tear ∧ d.tick.off = false) := ⟨rfl, rfl, hoff⟩
    generalize d.tick = t at HT HD HLT hr HK ⊢
    generalize d.keep = K at e7 e7' HK ⊢
    generalize d.tear = T at e8 e8' HK ⊢
    clear L h0 h1 hr hl1 hl hy hoff
    go_enter Try.func55, Try.ntmps55
    go_wp2_with fail
    generalize w.setCell ⟨g, 6, none⟩ (.int .i64 0) = w1 at HD HLT E1 e7' e8' ⊢
    have HL2 := Lib.hid (HLT.out.ext (Ext.refl Non w1).drew)
    clear e5 e6 e7 e8 y6
    go_region_held3 (fun W => W.cell? ⟨g, 7, none⟩ = some (.int .i64 K) ∧ W.cell? ⟨g, 8, none⟩ = some (.int .i64 T)) (first | exact ⟨e7', e8'⟩ | trivial) (first
      | (go_at_call 36
         refine (rcrash_up HL2.out HK.out.2.2 K T).mono ?_
         rintro e w2 ⟨rfl, hd, he⟩
         obtain ⟨-, -, -, e7', e8', -, -⟩ := hd.flat
         have e7' : w2.cell? ⟨g, 7, none⟩ = some (.int .i64 t.keep) := e7'
         have e8' : w2.cell? ⟨g, 8, none⟩ = some (.int .i64 t.tear) := e8'
         rw [HK.out.1] at e7'
         rw [HK.out.2.1] at e8'
         have HD3 := Lib.hid hd
         have E3 := Lib.hid ((E1.out.drew).trans he (fun _ _ e => e))
         clear hd he)
      | fail)
    clear e7' e8'
    go_wp2_with fail
    go_ret
    exact ⟨rfl, HD3.out, E3.out⟩
  · have hr : Dk.told d.fuse = (0, d.tick) := by unfold Dk.fuse; rw [if_neg h0, if_neg h1, hoff]; rfl
    rw [hr]
    obtain ⟨L', hL⟩ : ∃ L', d.left = L' := ⟨_, rfl⟩
    have HD := HD.out
    rw [hL] at e6 h0 h1 hl HD
    have q1 : (L' == 0) = false := by simpa using h0
    have q3 : 0 < L' - 1 := by omega
    have q4 : 1 < L' := by omega
    have q5 : L' ≤ 9223372036854775807 := hl.2
    have HD := Lib.hid HD
    clear L h0 h1 hr hL hl hy hoff
    go_enter Try.func55, Try.ntmps55
    go_wp2_with fail
    go_ret
    exact ⟨rfl, HD.out, (Ext.refl (Only g) w).og 6 _⟩

theorem info86 : (Try.prog.info? 86).map (fun i => (i.zero, i.size, i.bytes)) = some (some (.agg #[.int .i64 0, .slice none 0 0]), actK.sz, 32) := by kernel_rfl
section
variable {P : Program}
theorem step_a1 {u : World} {ops : Array Oper} {o : Oper} {a : Act} {K : Act → World → Prop} {Q : Exit → Act → World → Prop} {E : Prop} {base b : Nat} {Aw : Option Addr} {nw cw : Nat} {wait : List DAct} {okO : Nat → Prop}
    (hgd : o.guard = none) (s x : Operand) (ho : o.op = .call { callee := .builtin .append, args := #[s, x], argTypes := #[80, 80] }) (hs : a.eval s = .slice (some ⟨b, 0, none⟩) 0 0) (hx : a.eval x = .slice Aw nw cw)
    (O : Own actK 86 u base okO (.slice (some ⟨b, 0, none⟩) 0 0) []) (Y : Rd actK u (fun k => okO k ∧ k < base) (.slice Aw nw cw) wait) (hf : ∀ k, base ≤ k → okO k) (hl : wait.length ≤ 100000000) (hb : base ≤ u.heap.size)
    (h : ∀ A' n' c' u', Hid (Own actK 86 u' base okO (.slice A' n' c') wait) → Hid (Ext (fun k => base ≤ k) u u') →
      ((∀ k, (Value.slice A' n' c').ownBlock = some k → k = b ∨ u.heap.size ≤ k) ∧ (∀ (k : Nat) {ob : Obj}, u.heap[k]? = some ob → k ≠ b → k < u.heap.size → u'.heap[k]? = some ob)) → K (a.put o.dst (.slice A' n' c')) u') :
    if Region.wanted o (yielded ops a.tmps) = true then Oper.wp Try.prog o a u K Q else E := by
  have hbl := O.base_le
  refine step_app actK (v := .slice (some ⟨b, 0, none⟩) 0 0) (vx := .slice Aw nw cw) (ok := okO) (xs := []) (ys := wait) base hgd s x 80 86 _ 32 ho Try.underlying80 info86 rfl (by decide) hs hx O (Y.mono fun k hk => ⟨hk.1, fun e => by have := (hbl k e.symm).1; have := hk.2; omega⟩) (fun k hk => hf k (Nat.le_trans hb hk)) (by simp; omega) (by simp; omega) hb ?_
  intro v' u' hown hext hblk
  obtain ⟨A', c', rfl, _, _⟩ := hown.slice
  rw [List.nil_append] at hown
  refine h A' _ c' u' hown (hext.mono (fun i _ e => (hbl i e.symm).1)) ⟨fun k hk => ?_, fun k ob hob hkb hlt => ?_⟩
  · rcases hblk with h1 | ⟨c, h1, h2⟩
    · rw [h1] at hk
      simp [Value.ownBlock] at hk
      exact .inl hk.symm
    · rw [h1] at hk
      cases hk
      exact .inr h2
  · rw [hext.block k hlt (fun e => by simp [Value.ownBlock] at e; exact hkb e)]
    exact hob
theorem step_a2 {u : World} {ops : Array Oper} {o : Oper} {ac : Act} {K : Act → World → Prop} {Q : Exit → Act → World → Prop} {E : Prop} {base lb : Nat} {A4 A3 : Option Addr} {n4 c4 n3 c3 : Nat} {wait : List DAct} {a : DAct} {okO okV : Nat → Prop}
    (hgd : o.guard = none) (s x : Operand) (ho : o.op = .call { callee := .builtin .append, args := #[s, x], argTypes := #[80, 80] }) (hs : ac.eval s = .slice A4 n4 c4) (hx : ac.eval x = .slice (some ⟨lb, 0, none⟩) 1 1)
    (O : Own actK 86 u base okO (.slice A4 n4 c4) wait) (L : u.heap[lb]? = some (.cells #[.int .i64 a.kind, .slice A3 n3 c3] 86 (0, 0))) (hne : ∀ k, (Value.slice A4 n4 c4).ownBlock = some k → k ≠ lb)
    (V : Rd Kd.u8 u okV (.slice A3 n3 c3) a.b) (hV : ∀ k, okV k → k < base ∧ okO k) (hlb : base ≤ lb) (hf : ∀ k, base ≤ k → okO k) (hl : wait.length ≤ 100000000) (hb : base ≤ u.heap.size)
    (h : ∀ A' n' c' u', Hid (Own actK 86 u' base okO (.slice A' n' c') (wait ++ [a])) → Hid (Ext (fun k => base ≤ k) u u') → K (ac.put o.dst (.slice A' n' c')) u') :
    if Region.wanted o (yielded ops ac.tmps) = true then Oper.wp Try.prog o ac u K Q else E := by
  have hbl := O.base_le
  have hlit : Rd actK u (fun k => (k < base ∧ okO k) ∨ k = lb) (.slice (some ⟨lb, 0, none⟩) 1 1) [a] := Rd.lit_at (cs := [.int .i64 a.kind, .slice A3 n3 c3]) L ⟨_, rfl, V.mono (fun k hk => .inl (hV k hk))⟩ (.inr rfl)
  refine step_app actK (v := .slice A4 n4 c4) (vx := .slice (some ⟨lb, 0, none⟩) 1 1) (ok := okO) (xs := wait) (ys := [a]) base hgd s x 80 86 _ 32 ho Try.underlying80 info86 rfl (by decide) hs hx O (hlit.mono fun k hk => ⟨hk.elim (fun h => h.2) (fun h => hf k (by omega)), fun e => by
    rcases hk with h1 | h1
    · have := (hbl k e.symm).1; omega
    · exact hne k e.symm h1⟩) (fun k hk => hf k (Nat.le_trans hb hk)) (by simp; omega) (by simp; omega) hb ?_
  intro v' u' hown hext hblk
  obtain ⟨A', c', rfl, _, _⟩ := hown.slice
  exact h A' _ c' u' hown (hext.mono (fun i _ e => (hbl i e.symm).1))
end
theorem RefAt.wait1 {w u : World} {ok : Nat → Prop} {g base : Nat} {d : Dk} {a : DAct} {A5 : Option Addr} {n5 c5 : Nat} (h : RefAt w ok g d) (he : Ext (fun k => base ≤ k) w u) (hgb : g < base ∧ (∀ k, ok k → k < w.heap.size → k < base)) (O : Own actK 86 u base ok (.slice A5 n5 c5) (d.wait ++ [a]))
    (hg : ¬ ok g) : RefAt (u.setCell ⟨g, 4, none⟩ (.slice A5 n5 c5)) ok g (d.acted a) := by
  obtain ⟨B0, m0, d0, B1, m1, d1, B2, m2, d2, Aw, nw, cw, hb, hp, hr⟩ := h
  have hm : ∀ k, ok k → k < w.heap.size → ¬ base ≤ k := fun k h1 h2 h3 => by have := hgb.2 k h1 h2; omega
  have hbu := he.obj hb (fun e => by have := hgb.1; omega)
  refine RefAt.mk' (w := u) (B0 := B0) (m0 := m0) (d0 := d0) (B1 := B1) (m1 := m1) (d1 := d1) (B2 := B2) (m2 := m2) (d2 := d2) (Aw := A5) (nw := n5) (cw := c5) ((Ext.refl _ u).og 4 _) hg ?_ ⟨hp.1.ext he hm, hp.2.1.ext he hm, hp.2.2.ext he hm⟩ O.rd
  have h := blk_set hbu 4 (.slice A5 n5 c5)
  simpa [Dk.acted] using h
set_option maxHeartbeats 4000000 in
theorem ract_calls {w : World} {ok : Nat → Prop} {g : Nat} {d : Dk} {a : DAct} {A3 : Option Addr} {n3 c3 : Nat} (L : RLive w ok g d) (hoff : d.off = false)
    (K : Rd Kd.u8 w ok (.slice A3 n3 c3) a.b) (hk : 0 ≤ a.kind ∧ a.kind ≤ 3) (hfit : ((d.now.does a).used : Int) ≤ d.room) (hwl : d.wait.length ≤ 90000000) :
    Calls Try.prog 54 #[.pointer (some ⟨g, 0, none⟩), .agg #[.int .i64 a.kind, .slice A3 n3 c3]] w (RPost ok g (d.act a) w) := by
  have HGA := Lib.hid (L.good.acted hk hfit)
  have HOF : Hid ((d.acted a).off = false) := hoff
  have HGG := Lib.hid L.out
  have HF0 := Lib.hid L.fresh
  have HWL : Hid (d.wait.length ≤ 100000000) := L.wl
  have HWL6 : Hid ((d.acted a).wait.length ≤ 100000000) := by show (d.wait ++ [a]).length ≤ _; simp; omega
  have eA : Ext Non w (w.alloc (.cells #[.int .i64 a.kind, .slice A3 n3 c3] 86)) := (Ext.refl Non w).alloc _
  obtain ⟨B0, m0, d0, B1, m1, d1, B2, m2, d2, Aw, nw, cw, hb, hp, hr⟩ := id L.at_
  have hgs := blk_lt hb
  have f4 : w.cell? ⟨g, 4, none⟩ = some (.slice Aw nw cw) := blk_cell hb 4
  have bk := heap_alloc_new w (.cells #[.int .i64 a.kind, .slice A3 n3 c3] 86)
  obtain ⟨WA, hWA⟩ : ∃ WA, w.alloc (.cells #[.int .i64 a.kind, .slice A3 n3 c3] 86) = WA := ⟨_, rfl⟩
  have zA : WA.heap.size = w.heap.size + 1 := by rw [← hWA]; simp
  rw [hWA] at eA bk
  have f4 : WA.cell? ⟨g, 4, none⟩ = some (.slice Aw nw cw) := eA.cell f4 (fun e => e)
  have k0 : WA.cell? ⟨w.heap.size, 0, none⟩ = some (.int .i64 a.kind) := blk_cell bk 0
  have k1 : WA.cell? ⟨w.heap.size, 1, none⟩ = some (.slice A3 n3 c3) := blk_cell bk 1
  have HB := Lib.hid ((L.at_.ext eA).ext (Ext.refl Non WA).drew)
  have BG := Lib.hid (eA.obj hb (fun e => e))
  have HW := Lib.hid (hr.bound.ext0 (eA.trans0 (Ext.refl Non WA).drew) |>.mono (ok' := fun k => ok k ∧ k < WA.drew.heap.size) (fun k h => ⟨h.1, by show k < WA.heap.size; omega⟩))
  have HV := Lib.hid (K.bound.ext0 (eA.trans0 (Ext.refl Non WA).drew) |>.mono (ok' := fun k => ok k ∧ k < WA.drew.heap.size) (fun k h => ⟨h.1, by show k < WA.heap.size; omega⟩))
  have E0 := Lib.hid (eA.of0 (M := Only g))
  have GLT : Hid (g < WA.drew.heap.size ∧ (∀ k, ok k → k < WA.drew.heap.size → k < WA.drew.heap.size)) := ⟨by show g < WA.heap.size; omega, fun k _ h => h⟩
  have HF : Hid ((∀ k, WA.heap.size ≤ k → ok k) ∧ True) := ⟨fun k hk => L.fresh k (by omega), trivial⟩
  have ZA := Lib.hid zA
  have HWA := Lib.hid hWA
  clear L hoff K hk hfit hwl eA hb hp hr bk hWA
  go_enter Try.func54, Try.ntmps54
  go_wp2_with fail
  rw [HWA.out]
  refine Last.start_ (S := fun W => W.cell? ⟨g, 4, none⟩ = some (.slice Aw nw cw) ∧ W.cell? ⟨w.heap.size, 0, none⟩ = some (.int .i64 a.kind) ∧ W.cell? ⟨w.heap.size, 1, none⟩ = some (.slice A3 n3 c3)) (ds := [12]) #[false, false, false, false, false, false, false, false, false, false, false, false, false] (by kernel_rfl) (by rfl) (by rfl) ⟨f4, k0, k1⟩ (fun hS => ?_)
  have ED : Hid (Ext Non WA WA.drew) := (Ext.refl Non WA).drew
  have f4 : WA.drew.cell? ⟨g, 4, none⟩ = some (.slice Aw nw cw) := f4
  have k0 : WA.drew.cell? ⟨w.heap.size, 0, none⟩ = some (.int .i64 a.kind) := k0
  have k1 : WA.drew.cell? ⟨w.heap.size, 1, none⟩ = some (.slice A3 n3 c3) := k1
  have HF : Hid ((∀ k, WA.drew.heap.size ≤ k → ok k) ∧ True) := HF.out
  have BG := Lib.hid (ED.out.obj BG.out (fun e => e))
  have ZA : Hid (WA.drew.heap.size = w.heap.size + 1) := ZA.out
  generalize WA.drew = WD at ED f4 k0 k1 HF HB HW HV BG GLT ZA hS ⊢
  have zd : WD.heap.size = w.heap.size + 1 := ZA.out
  have hgw : g < w.heap.size := hgs
  refine Last.take_ (i := 0) (N := some 5) (v := .pointer (some ⟨g, 0, none⟩)) #[true, false, false, false, false, false, false, false, false, false, false, false, false] (by simp only [List.getElem?_toArray, List.getElem?_cons_zero]; rfl) rfl (by kernel_rfl) (by exact fun _ _ _ h => h) (Or.inl ⟨by rfl, fun W hW => by first | rfl | (try dsimp only at hW); go_simp⟩) hS rfl ?_
  simp only [Act.put, List.setIfInBounds_toArray, List.set_cons_zero, List.set_cons_succ]
  refine Last.take_ (i := 2) (N := some 7) (v := .pointer (some ⟨g, 0, none⟩)) #[true, false, true, false, false, false, false, false, false, false, false, false, false] (by simp only [List.getElem?_toArray, List.getElem?_cons_zero, List.getElem?_cons_succ]; rfl) rfl (by kernel_rfl) (by exact fun _ _ _ h => h) (Or.inl ⟨by rfl, fun W hW => by first | rfl | (try dsimp only at hW); go_simp⟩) hS rfl ?_
  simp only [Act.put, List.setIfInBounds_toArray, List.set_cons_zero, List.set_cons_succ]
  refine Last.take_ (i := 3) (N := some 8) (v := .pointer (some ⟨g, 0, none⟩)) #[true, false, true, true, false, false, false, false, false, false, false, false, false] (by simp only [List.getElem?_toArray, List.getElem?_cons_zero, List.getElem?_cons_succ]; rfl) rfl (by kernel_rfl) (by exact fun _ _ _ h => h) (Or.inl ⟨by rfl, fun W hW => by first | rfl | (try dsimp only at hW); go_simp⟩) hS rfl ?_
  simp only [Act.put, List.setIfInBounds_toArray, List.set_cons_zero, List.set_cons_succ]
  refine Last.take_ (i := 4) (N := some 9) (v := .pointer (some ⟨g, 4, none⟩)) #[true, false, true, true, true, false, false, false, false, false, false, false, false] (by simp only [List.getElem?_toArray, List.getElem?_cons_zero, List.getElem?_cons_succ]; rfl) rfl (by kernel_rfl) (by exact fun _ _ _ h => h) (Or.inl ⟨by rfl, fun W hW => by first | rfl | (try dsimp only at hW); go_simp⟩) hS rfl ?_
  simp only [Act.put, List.setIfInBounds_toArray, List.set_cons_zero, List.set_cons_succ]
  refine Last.take_ (i := 5) (N := some 10) (v := .slice Aw nw cw) #[true, false, true, true, true, true, false, false, false, false, false, false, false] (by simp only [List.getElem?_toArray, List.getElem?_cons_zero, List.getElem?_cons_succ]; rfl) rfl (by kernel_rfl) (by exact fun _ _ _ h => h) (Or.inl ⟨by rfl, fun W hW => by first | rfl | (try dsimp only at hW); go_simp⟩) hS rfl ?_
  simp only [Act.put, List.setIfInBounds_toArray, List.set_cons_zero, List.set_cons_succ]
  refine Last.take_ (i := 7) (N := some 12) (v := .agg #[.int .i64 a.kind, .slice A3 n3 c3]) #[true, false, true, true, true, true, false, true, false, false, false, false, false] (by simp only [List.getElem?_toArray, List.getElem?_cons_zero, List.getElem?_cons_succ]; rfl) rfl (by kernel_rfl) (by exact fun _ _ _ h => h) (Or.inl ⟨by rfl, fun W hW => by first | rfl | (try dsimp only at hW); go_simp⟩) hS rfl ?_
  simp only [Act.put, List.setIfInBounds_toArray, List.set_cons_zero, List.set_cons_succ]
  refine Last.two_ (i := 1) (j := 8) (Ni := some 6) (Nj := some 13) #[true, true, true, true, true, true, false, true, false, false, false, false, false] #[true, false, true, true, true, true, false, true, true, false, false, false, false] (by simp only [List.getElem?_toArray, List.getElem?_cons_zero, List.getElem?_cons_succ]; rfl) (by simp only [List.getElem?_toArray, List.getElem?_cons_zero, List.getElem?_cons_succ]; rfl) rfl rfl (by kernel_rfl) (by decide) (by decide) (fun K hK => ?_) (fun K hK => ?_)
  · go_simp
    have exa : Ext Non WD (WD.alloc (.cells #[] 86)) := (Ext.refl Non _).alloc _
    have OL : Hid (Own actK 86 (WD.alloc (.cells #[] 86)) WD.heap.size ok (.slice (some ⟨WD.heap.size, 0, none⟩) 0 0) []) := Own.lit (Reps.nil _ _ _) (Nat.le_refl _) (by simp) (HF.out.1 _ (Nat.le_refl _))
    have f4a := f4
    have f4 := exa.cell f4 (fun e => e)
    have k0 := exa.cell k0 (fun e => e)
    have k1 := exa.cell k1 (fun e => e)
    refine hK.out _ _ ⟨f4, k0, k1⟩ (fun hS => ?_)
    try simp only [Act.put, List.setIfInBounds_toArray, List.set_cons_zero, List.set_cons_succ]
    have XA := Lib.hid (exa.of0 (M := fun k => WD.heap.size ≤ k))
    have hza := exa.size
    obtain ⟨ua, hua⟩ : ∃ ua, WD.alloc (.cells #[] 86) = ua := ⟨_, rfl⟩
    have hsa : ua.heap.size = WD.heap.size + 1 := by rw [← hua]; simp
    rw [hua] at OL f4 k0 k1 XA hS exa ⊢
    clear hza
    refine Last.two_ (i := 6) (j := 8) (Ni := some 11) (Nj := some 13) #[true, true, true, true, true, true, true, true, false, false, false, false, false] #[true, true, true, true, true, true, false, true, true, false, false, false, false] (by simp only [List.getElem?_toArray, List.getElem?_cons_zero, List.getElem?_cons_succ]; rfl) (by simp only [List.getElem?_toArray, List.getElem?_cons_zero, List.getElem?_cons_succ]; rfl) rfl rfl (by kernel_rfl) (by decide) (by decide) (fun K hK => ?_) (fun K hK => ?_)
    · refine step_a1 (base := WD.heap.size) (b := WD.heap.size) (wait := d.wait) (by rfl) _ _ (by rfl) (by simp [Act.eval]) (by simp [Act.eval]) OL.out (HW.out.ext0 exa) HF.out.1 HWL.out (by omega) ?_
      intro A4 n4 c4 u4 O4 X4 hown4
      have f4 := X4.out.cell f4 (fun e => (by have e1 : WD.heap.size ≤ g := e; omega))
      have k0 := X4.out.cell k0 (fun e => (by have e1 : WD.heap.size ≤ w.heap.size := e; omega))
      have k1 := X4.out.cell k1 (fun e => (by have e1 : WD.heap.size ≤ w.heap.size := e; omega))
      have X4' := Lib.hid (XA.out.trans X4.out (fun _ _ e => e))
      refine hK.out _ _ ⟨f4, k0, k1⟩ (fun hS => ?_)
      try simp only [Act.put, List.setIfInBounds_toArray, List.set_cons_zero, List.set_cons_succ]
      refine Last.one_ (i := 8) (N := some 13) #[true, true, true, true, true, true, true, true, true, false, false, false, false] (by simp only [List.getElem?_toArray, List.getElem?_cons_zero, List.getElem?_cons_succ]; rfl) rfl (by kernel_rfl) (by decide) (fun K hK => ?_)
      go_simp
      have exb : Ext Non u4 (u4.alloc (.cells #[.int .i64 a.kind, .slice A3 n3 c3] 86)) := (Ext.refl Non _).alloc _
      have BL := Lib.hid (heap_alloc_new u4 (.cells #[.int .i64 a.kind, .slice A3 n3 c3] 86))
      have f4 := exb.cell f4 (fun e => e)
      have k0 := exb.cell k0 (fun e => e)
      have k1 := exb.cell k1 (fun e => e)
      refine hK.out _ _ ⟨f4, k0, k1⟩ (fun hS => ?_)
      try simp only [Act.put, List.setIfInBounds_toArray, List.set_cons_zero, List.set_cons_succ]
      have O4b := Lib.hid (O4.out.ext0 exb)
      have hlt4 := O4.out.base_le
      have XB := Lib.hid (X4'.out.trans0 exb)
      have hz4 := X4.out.size
      refine Last.one_ (i := 9) (N := some 14) #[true, true, true, true, true, true, true, true, true, true, false, false, false] (by simp only [List.getElem?_toArray, List.getElem?_cons_zero, List.getElem?_cons_succ]; rfl) rfl (by kernel_rfl) (by decide) (fun K hK => ?_)
      refine step_a2 (base := WD.heap.size) (lb := u4.heap.size) (wait := d.wait) (a := a) (by rfl) _ _ (by rfl) (by simp [Act.eval]) (by simp [Act.eval]) O4b.out BL.out (fun k hk => by have := (hlt4 k hk).2; omega) ((HV.out.ext XB.out (fun k hk _ e => by have e1 : WD.heap.size ≤ k := e; have := hk.2; omega))) (fun k h => ⟨h.2, h.1⟩) (by omega) HF.out.1 HWL.out (by simp; omega) ?_
      intro A5 n5 c5 u5 O5 X5
      have f4 := X5.out.cell f4 (fun e => by have e1 : WD.heap.size ≤ g := e; omega)
      have k0 := X5.out.cell k0 (fun e => by have e1 : WD.heap.size ≤ w.heap.size := e; omega)
      have k1 := X5.out.cell k1 (fun e => by have e1 : WD.heap.size ≤ w.heap.size := e; omega)
      have XF := Lib.hid (XB.out.trans X5.out (fun _ _ e => e))
      refine hK.out _ _ ⟨f4, k0, k1⟩ (fun hS => ?_)
      try simp only [Act.put, List.setIfInBounds_toArray, List.set_cons_zero, List.set_cons_succ]
      refine Last.take_ (i := 10) (N := some 15) (v := .pointer (some ⟨g, 0, none⟩)) #[true, true, true, true, true, true, true, true, true, true, true, false, false] (by simp only [List.getElem?_toArray, List.getElem?_cons_zero, List.getElem?_cons_succ]; rfl) rfl (by kernel_rfl) (by exact fun _ _ _ h => h) (Or.inl ⟨by rfl, fun W hW => by first | rfl | (try dsimp only at hW); go_simp⟩) hS rfl ?_
      simp only [Act.put, List.setIfInBounds_toArray, List.set_cons_zero, List.set_cons_succ]
      refine Last.take_ (i := 11) (N := some 16) (v := .pointer (some ⟨g, 4, none⟩)) #[true, true, true, true, true, true, true, true, true, true, true, true, false] (by simp only [List.getElem?_toArray, List.getElem?_cons_zero, List.getElem?_cons_succ]; rfl) rfl (by kernel_rfl) (by exact fun _ _ _ h => h) (Or.inl ⟨by rfl, fun W hW => by first | rfl | (try dsimp only at hW); go_simp⟩) hS rfl ?_
      simp only [Act.put, List.setIfInBounds_toArray, List.set_cons_zero, List.set_cons_succ]
      refine Last.last_ (i := 12) (N := none) #[true, true, true, true, true, true, true, true, true, true, true, true, true] (by simp only [List.getElem?_toArray, List.getElem?_cons_zero, List.getElem?_cons_succ]; rfl) rfl (by kernel_rfl) (by decide) (fun K hK => ?_)
      have hbb := XF.out.obj BG.out (fun e => by have e1 : WD.heap.size ≤ g := e; omega)
      have y4 := blk_frozen hbb 4
      have HD5 := Lib.hid (RefAt.wait1 HB.out XF.out GLT.out O5.out HGG.out)
      have E5 := Lib.hid (((E0.out.trans0 ED.out).trans XF.out (M := Only g) (fun i hi e => by have e1 : WD.heap.size ≤ i := e; have := ZA.out; omega)).og 4 (.slice A5 n5 c5))
      clear hbb
      go_simp
      refine hK.out _ _ ?_
      try simp only [Act.put, List.setIfInBounds_toArray, List.set_cons_zero, List.set_cons_succ]
      refine Last.done_ (by kernel_rfl) ?_
      clear f4 k0 k1 hS y4
      generalize u5.setCell ⟨g, 4, none⟩ (.slice A5 n5 c5) = u6 at HD5 E5 ⊢
      have HL6 := Lib.hid (RLive.mk HD5.out HGA.out (fun k hk => HF0.out k (Nat.le_trans E5.out.size hk)) HGG.out HWL6.out)
      go_wp2_with fail
      refine (rfuse_calls HL6.out HOF.out).mono ?_
      rintro e u7 ⟨rfl, hd, he⟩
      have HD7 := Lib.hid hd
      have E7 := Lib.hid (E5.out.trans he (fun _ _ e => e))
      clear hd he
      go_wp2_with fail
      go_ret
      exact ⟨rfl, HD7.out, E7.out⟩
    · go_simp
      have exb : Ext Non ua (ua.alloc (.cells #[.int .i64 a.kind, .slice A3 n3 c3] 86)) := (Ext.refl Non _).alloc _
      have BL := Lib.hid (heap_alloc_new ua (.cells #[.int .i64 a.kind, .slice A3 n3 c3] 86))
      have f4 := exb.cell f4 (fun e => e)
      have k0 := exb.cell k0 (fun e => e)
      have k1 := exb.cell k1 (fun e => e)
      refine hK.out _ _ ⟨f4, k0, k1⟩ (fun hS => ?_)
      try simp only [Act.put, List.setIfInBounds_toArray, List.set_cons_zero, List.set_cons_succ]
      have OLb := Lib.hid (OL.out.ext0 exb)
      have XB := Lib.hid (XA.out.trans0 exb)
      obtain ⟨ub, hub⟩ : ∃ ub, ua.alloc (.cells #[.int .i64 a.kind, .slice A3 n3 c3] 86) = ub := ⟨_, rfl⟩
      have hsb : ub.heap.size = ua.heap.size + 1 := by rw [← hub]; simp
      rw [hub] at OLb f4 k0 k1 XB hS exb BL ⊢
      refine Last.one_ (i := 6) (N := some 11) #[true, true, true, true, true, true, true, true, true, false, false, false, false] (by simp only [List.getElem?_toArray, List.getElem?_cons_zero, List.getElem?_cons_succ]; rfl) rfl (by kernel_rfl) (by decide) (fun K hK => ?_)
      refine step_a1 (base := WD.heap.size) (b := WD.heap.size) (wait := d.wait) (by rfl) _ _ (by rfl) (by simp [Act.eval]) (by simp [Act.eval]) OLb.out ((HW.out.ext0 exa).ext0 exb) HF.out.1 HWL.out (by omega) ?_
      intro A4 n4 c4 u4 O4 X4 hown4
      have X4L := hown4.2
      have f4 := X4.out.cell f4 (fun e => (by have e1 : WD.heap.size ≤ g := e; omega))
      have k0 := X4.out.cell k0 (fun e => (by have e1 : WD.heap.size ≤ w.heap.size := e; omega))
      have k1 := X4.out.cell k1 (fun e => (by have e1 : WD.heap.size ≤ w.heap.size := e; omega))
      have XC := Lib.hid (XB.out.trans X4.out (fun _ _ e => e))
      have hz4 := X4.out.size
      refine hK.out _ _ ⟨f4, k0, k1⟩ (fun hS => ?_)
      try simp only [Act.put, List.setIfInBounds_toArray, List.set_cons_zero, List.set_cons_succ]
      refine Last.one_ (i := 9) (N := some 14) #[true, true, true, true, true, true, true, true, true, true, false, false, false] (by simp only [List.getElem?_toArray, List.getElem?_cons_zero, List.getElem?_cons_succ]; rfl) rfl (by kernel_rfl) (by decide) (fun K hK => ?_)
      refine step_a2 (base := WD.heap.size) (lb := ua.heap.size) (wait := d.wait) (a := a) (by rfl) _ _ (by rfl) (by simp [Act.eval]) (by simp [Act.eval]) O4.out (X4L _ BL.out (by omega) (by omega)) (fun k hk => by rcases hown4.1 k hk with h | h <;> omega) ((HV.out.ext XC.out (fun k hk _ e => by have e1 : WD.heap.size ≤ k := e; have := hk.2; omega))) (fun k h => ⟨h.2, h.1⟩) (by omega) HF.out.1 HWL.out (by omega) ?_
      intro A5 n5 c5 u5 O5 X5
      have f4 := X5.out.cell f4 (fun e => by have e1 : WD.heap.size ≤ g := e; omega)
      have k0 := X5.out.cell k0 (fun e => by have e1 : WD.heap.size ≤ w.heap.size := e; omega)
      have k1 := X5.out.cell k1 (fun e => by have e1 : WD.heap.size ≤ w.heap.size := e; omega)
      have XF := Lib.hid (XC.out.trans X5.out (fun _ _ e => e))
      refine hK.out _ _ ⟨f4, k0, k1⟩ (fun hS => ?_)
      try simp only [Act.put, List.setIfInBounds_toArray, List.set_cons_zero, List.set_cons_succ]
      refine Last.take_ (i := 10) (N := some 15) (v := .pointer (some ⟨g, 0, none⟩)) #[true, true, true, true, true, true, true, true, true, true, true, false, false] (by simp only [List.getElem?_toArray, List.getElem?_cons_zero, List.getElem?_cons_succ]; rfl) rfl (by kernel_rfl) (by exact fun _ _ _ h => h) (Or.inl ⟨by rfl, fun W hW => by first | rfl | (try dsimp only at hW); go_simp⟩) hS rfl ?_
      simp only [Act.put, List.setIfInBounds_toArray, List.set_cons_zero, List.set_cons_succ]
      refine Last.take_ (i := 11) (N := some 16) (v := .pointer (some ⟨g, 4, none⟩)) #[true, true, true, true, true, true, true, true, true, true, true, true, false] (by simp only [List.getElem?_toArray, List.getElem?_cons_zero, List.getElem?_cons_succ]; rfl) rfl (by kernel_rfl) (by exact fun _ _ _ h => h) (Or.inl ⟨by rfl, fun W hW => by first | rfl | (try dsimp only at hW); go_simp⟩) hS rfl ?_
      simp only [Act.put, List.setIfInBounds_toArray, List.set_cons_zero, List.set_cons_succ]
      refine Last.last_ (i := 12) (N := none) #[true, true, true, true, true, true, true, true, true, true, true, true, true] (by simp only [List.getElem?_toArray, List.getElem?_cons_zero, List.getElem?_cons_succ]; rfl) rfl (by kernel_rfl) (by decide) (fun K hK => ?_)
      have hbb := XF.out.obj BG.out (fun e => by have e1 : WD.heap.size ≤ g := e; omega)
      have y4 := blk_frozen hbb 4
      have HD5 := Lib.hid (RefAt.wait1 HB.out XF.out GLT.out O5.out HGG.out)
      have E5 := Lib.hid (((E0.out.trans0 ED.out).trans XF.out (M := Only g) (fun i hi e => by have e1 : WD.heap.size ≤ i := e; have := ZA.out; omega)).og 4 (.slice A5 n5 c5))
      clear hbb
      go_simp
      refine hK.out _ _ ?_
      try simp only [Act.put, List.setIfInBounds_toArray, List.set_cons_zero, List.set_cons_succ]
      refine Last.done_ (by kernel_rfl) ?_
      clear f4 k0 k1 hS y4
      generalize u5.setCell ⟨g, 4, none⟩ (.slice A5 n5 c5) = u6 at HD5 E5 ⊢
      have HL6 := Lib.hid (RLive.mk HD5.out HGA.out (fun k hk => HF0.out k (Nat.le_trans E5.out.size hk)) HGG.out HWL6.out)
      go_wp2_with fail
      refine (rfuse_calls HL6.out HOF.out).mono ?_
      rintro e u7 ⟨rfl, hd, he⟩
      have HD7 := Lib.hid hd
      have E7 := Lib.hid (E5.out.trans he (fun _ _ e => e))
      clear hd he
      go_wp2_with fail
      go_ret
      exact ⟨rfl, HD7.out, E7.out⟩
  · go_simp
    have exb : Ext Non WD (WD.alloc (.cells #[.int .i64 a.kind, .slice A3 n3 c3] 86)) := (Ext.refl Non _).alloc _
    have BL := Lib.hid (heap_alloc_new WD (.cells #[.int .i64 a.kind, .slice A3 n3 c3] 86))
    have f4 := exb.cell f4 (fun e => e)
    have k0 := exb.cell k0 (fun e => e)
    have k1 := exb.cell k1 (fun e => e)
    refine hK.out _ _ ⟨f4, k0, k1⟩ (fun hS => ?_)
    try simp only [Act.put, List.setIfInBounds_toArray, List.set_cons_zero, List.set_cons_succ]
    obtain ⟨ub, hub⟩ : ∃ ub, WD.alloc (.cells #[.int .i64 a.kind, .slice A3 n3 c3] 86) = ub := ⟨_, rfl⟩
    have hsb : ub.heap.size = WD.heap.size + 1 := by rw [← hub]; simp
    rw [hub] at f4 k0 k1 hS exb BL ⊢
    refine Last.one_ (i := 1) (N := some 6) #[true, true, true, true, true, true, false, true, true, false, false, false, false] (by simp only [List.getElem?_toArray, List.getElem?_cons_zero, List.getElem?_cons_succ]; rfl) rfl (by kernel_rfl) (by decide) (fun K hK => ?_)
    go_simp
    have exa : Ext Non ub (ub.alloc (.cells #[] 86)) := (Ext.refl Non _).alloc _
    have OL : Hid (Own actK 86 (ub.alloc (.cells #[] 86)) WD.heap.size ok (.slice (some ⟨ub.heap.size, 0, none⟩) 0 0) []) := Own.lit (Reps.nil _ _ _) (by omega) (by simp) (HF.out.1 _ (by omega))
    have f4 := exa.cell f4 (fun e => e)
    have k0 := exa.cell k0 (fun e => e)
    have k1 := exa.cell k1 (fun e => e)
    refine hK.out _ _ ⟨f4, k0, k1⟩ (fun hS => ?_)
    try simp only [Act.put, List.setIfInBounds_toArray, List.set_cons_zero, List.set_cons_succ]
    have BLa := Lib.hid (exa.obj BL.out (fun e => e))
    obtain ⟨ua, hua⟩ : ∃ ua, ub.alloc (.cells #[] 86) = ua := ⟨_, rfl⟩
    have hsa : ua.heap.size = ub.heap.size + 1 := by rw [← hua]; simp
    rw [hua] at OL f4 k0 k1 hS exa BLa ⊢
    have XB := Lib.hid ((exb.trans0 exa).of0 (M := fun k => WD.heap.size ≤ k))
    refine Last.one_ (i := 6) (N := some 11) #[true, true, true, true, true, true, true, true, true, false, false, false, false] (by simp only [List.getElem?_toArray, List.getElem?_cons_zero, List.getElem?_cons_succ]; rfl) rfl (by kernel_rfl) (by decide) (fun K hK => ?_)
    refine step_a1 (base := WD.heap.size) (b := ub.heap.size) (wait := d.wait) (by rfl) _ _ (by rfl) (by simp [Act.eval]) (by simp [Act.eval]) OL.out ((HW.out.ext0 exb).ext0 exa) HF.out.1 HWL.out (by omega) ?_
    intro A4 n4 c4 u4 O4 X4 hown4
    have X4L := hown4.2
    have f4 := X4.out.cell f4 (fun e => (by have e1 : WD.heap.size ≤ g := e; omega))
    have k0 := X4.out.cell k0 (fun e => (by have e1 : WD.heap.size ≤ w.heap.size := e; omega))
    have k1 := X4.out.cell k1 (fun e => (by have e1 : WD.heap.size ≤ w.heap.size := e; omega))
    have XC := Lib.hid (XB.out.trans X4.out (fun _ _ e => e))
    have hz4 := X4.out.size
    refine hK.out _ _ ⟨f4, k0, k1⟩ (fun hS => ?_)
    try simp only [Act.put, List.setIfInBounds_toArray, List.set_cons_zero, List.set_cons_succ]
    refine Last.one_ (i := 9) (N := some 14) #[true, true, true, true, true, true, true, true, true, true, false, false, false] (by simp only [List.getElem?_toArray, List.getElem?_cons_zero, List.getElem?_cons_succ]; rfl) rfl (by kernel_rfl) (by decide) (fun K hK => ?_)
    refine step_a2 (base := WD.heap.size) (lb := WD.heap.size) (wait := d.wait) (a := a) (by rfl) _ _ (by rfl) (by simp [Act.eval]) (by simp [Act.eval]) O4.out (X4L _ BLa.out (by omega) (by omega)) (fun k hk => by rcases hown4.1 k hk with h | h <;> omega) ((HV.out.ext XC.out (fun k hk _ e => by have e1 : WD.heap.size ≤ k := e; have := hk.2; omega))) (fun k h => ⟨h.2, h.1⟩) (by omega) HF.out.1 HWL.out (by omega) ?_
    intro A5 n5 c5 u5 O5 X5
    have f4 := X5.out.cell f4 (fun e => by have e1 : WD.heap.size ≤ g := e; omega)
    have k0 := X5.out.cell k0 (fun e => by have e1 : WD.heap.size ≤ w.heap.size := e; omega)
    have k1 := X5.out.cell k1 (fun e => by have e1 : WD.heap.size ≤ w.heap.size := e; omega)
    have XF := Lib.hid (XC.out.trans X5.out (fun _ _ e => e))
    refine hK.out _ _ ⟨f4, k0, k1⟩ (fun hS => ?_)
    try simp only [Act.put, List.setIfInBounds_toArray, List.set_cons_zero, List.set_cons_succ]
    refine Last.take_ (i := 10) (N := some 15) (v := .pointer (some ⟨g, 0, none⟩)) #[true, true, true, true, true, true, true, true, true, true, true, false, false] (by simp only [List.getElem?_toArray, List.getElem?_cons_zero, List.getElem?_cons_succ]; rfl) rfl (by kernel_rfl) (by exact fun _ _ _ h => h) (Or.inl ⟨by rfl, fun W hW => by first | rfl | (try dsimp only at hW); go_simp⟩) hS rfl ?_
    simp only [Act.put, List.setIfInBounds_toArray, List.set_cons_zero, List.set_cons_succ]
    refine Last.take_ (i := 11) (N := some 16) (v := .pointer (some ⟨g, 4, none⟩)) #[true, true, true, true, true, true, true, true, true, true, true, true, false] (by simp only [List.getElem?_toArray, List.getElem?_cons_zero, List.getElem?_cons_succ]; rfl) rfl (by kernel_rfl) (by exact fun _ _ _ h => h) (Or.inl ⟨by rfl, fun W hW => by first | rfl | (try dsimp only at hW); go_simp⟩) hS rfl ?_
    simp only [Act.put, List.setIfInBounds_toArray, List.set_cons_zero, List.set_cons_succ]
    refine Last.last_ (i := 12) (N := none) #[true, true, true, true, true, true, true, true, true, true, true, true, true] (by simp only [List.getElem?_toArray, List.getElem?_cons_zero, List.getElem?_cons_succ]; rfl) rfl (by kernel_rfl) (by decide) (fun K hK => ?_)
    have hbb := XF.out.obj BG.out (fun e => by have e1 : WD.heap.size ≤ g := e; omega)
    have y4 := blk_frozen hbb 4
    have HD5 := Lib.hid (RefAt.wait1 HB.out XF.out GLT.out O5.out HGG.out)
    have E5 := Lib.hid (((E0.out.trans0 ED.out).trans XF.out (M := Only g) (fun i hi e => by have e1 : WD.heap.size ≤ i := e; have := ZA.out; omega)).og 4 (.slice A5 n5 c5))
    clear hbb
    go_simp
    refine hK.out _ _ ?_
    try simp only [Act.put, List.setIfInBounds_toArray, List.set_cons_zero, List.set_cons_succ]
    refine Last.done_ (by kernel_rfl) ?_
    clear f4 k0 k1 hS y4
    generalize u5.setCell ⟨g, 4, none⟩ (.slice A5 n5 c5) = u6 at HD5 E5 ⊢
    have HL6 := Lib.hid (RLive.mk HD5.out HGA.out (fun k hk => HF0.out k (Nat.le_trans E5.out.size hk)) HGG.out HWL6.out)
    go_wp2_with fail
    refine (rfuse_calls HL6.out HOF.out).mono ?_
    rintro e u7 ⟨rfl, hd, he⟩
    have HD7 := Lib.hid hd
    have E7 := Lib.hid (E5.out.trans he (fun _ _ e => e))
    clear hd he
    go_wp2_with fail
    go_ret
    exact ⟨rfl, HD7.out, E7.out⟩
end Go.Proofs.Ytpmncppfopbaaaa
