/- wire.All, and the document's. -/
import Derived.Test.YtiapjdbeooonjaaDoorH1
namespace Go.Proofs.YtiapjdbeooonjaaDoor
open Go.RowKit Go.TM

def AllPost (bs : List UInt8) (w : World) (e : Ending) (w' : World) : Prop :=
  ∃ (v : Value) (a : Nat) (out : List (List UInt8)), e = .returned (.tuple #[v, .int .i64 (a : Int)]) ∧ StopA bs (a, out) ∧ Rd Kd.bytes w' (fun _ => True) v out ∧ Ext Non w w'
theorem nextR_nil : nextR [] = ([], 0, 2) := by decide
theorem app_one {w0 w : World} {ops : Array Oper} {rest : List Oper} {o : Oper} {a : Act} {Q : Exit → Act → World → Prop} {ok2 : Nat → Prop} {v vp : Value} {out : List (List UInt8)} {p : List UInt8} (hgd : o.guard = none) (s x : Operand)
    (ho : o.op = .call { callee := .builtin .append, args := #[s, x], argTypes := #[51, 51] }) (hs : a.eval s = v) (hx : a.eval x = .slice (some ⟨w.heap.size, 0, none⟩) 1 1)
    (G : Own Kd.bytes 22 w w0.heap.size (fun _ => True) v out) (E : Ext Non w0 w) (Y : Rd Kd.u8 w ok2 vp p) (hY : ∀ k, ok2 k → some k ≠ v.ownBlock) (hl : out.length ≤ 65536)
    (h : ∀ A n c w', Hid (Own Kd.bytes 22 w' w0.heap.size (fun _ => True) (.slice A n c) (out ++ [p])) → Hid (Ext Non w0 w') → wpList Tryd.prog ops Q rest (a.put o.dst (.slice A n c)) w') : wpList Tryd.prog ops Q (o :: rest) a (w.alloc (.cells #[vp] 22)) := by
  have hb := G.base_le
  refine wpList_app Kd.bytes (v := v) (vx := .slice (some ⟨w.heap.size, 0, none⟩) 1 1) (ok := fun _ => True) (xs := out) (ys := [p]) w0.heap.size hgd s x 51 22 _ 24 ho Tryd.underlying51 info22 rfl (by decide) hs hx (G.ext0 ((Ext.refl Non w).alloc _)) ?_ (fun _ _ => trivial) ?_ ?_ ?_ ?_
  · refine Rd.lit_at (cs := [vp]) (e := 22) (fr := (0, 0)) (heap_alloc_new w _) ⟨_, rfl, ?_⟩ ⟨trivial, fun e => ?_⟩
    · exact (Y.ext0 ((Ext.refl Non w).alloc _)).mono (fun k hk => ⟨trivial, hY k hk⟩)
    · have := (hb _ e.symm).2
      omega
  · rw [List.length_singleton]; omega
  · rw [List.length_singleton]; omega
  · have := E.size
    simp
    omega
  intro v' w' hown hext _
  obtain ⟨A, c, rfl, _, _⟩ := hown.slice
  exact h A _ c w' hown ((E.alloc _).trans hext (fun i hi e => by have := (hb i e.symm).1; omega))
set_option maxHeartbeats 6000000 in
set_option maxRecDepth 20000 in
theorem All_calls {w : World} {ok : Nat → Prop} {gs off : Nat} {c : Nat} {bs : List UInt8} (H : Rd Kd.u8 w ok (.slice (some ⟨gs, off, none⟩) bs.length c) bs) (hbl : bs.length ≤ 65536) (HL : Laid w) :
    Calls Tryd.prog 37 #[.slice (some ⟨gs, off, none⟩) bs.length c] w (AllPost bs w) := by
  have HH := Lib.hid (Rd.any H)
  have HT := Lib.hid HL
  have hcl : bs.length ≤ c := by
    obtain ⟨_, _, he, h, _⟩ := H.slice
    simp only [Value.slice.injEq] at he
    omega
  clear H HL
  go_enter Tryd.func37, Tryd.ntmps37
  go_wp2_with fail
  go_loopw [4, 5] (fun v i wr => ∃ (j a : Nat) (out : List (List UInt8)) (A1 : Option Addr) (n1 c1 : Nat), v = .slice A1 n1 c1 ∧ i = .int .i64 (a : Int) ∧ a ≤ bs.length ∧ 5 * j ≤ a ∧ Hid (out.length = j) ∧ Hid (iterA bs j = some (a, out)) ∧ Hid (Own Kd.bytes 22 wr w.heap.size (fun _ => True) (.slice A1 n1 c1) out) ∧ Hid (Ext Non w wr)) (fun _ i _ => bs.length - (intOf i).toNat)
  case atStart => exact ⟨0, 0, [], none, 0, 0, rfl, rfl, by omega, by omega, rfl, rfl, Own.nil _ _ _ _ _, Ext.refl _ _⟩
  case round =>
    obtain ⟨j, a, out, A1, n1, c1, rfl, rfl, ha, hj, HJ, HI, HO, HE⟩ := hrel
    have q0 : (0 : Int) ≤ (a : Int) := by omega
    have q1 : (a : Int) ≤ (bs.length : Int) := by omega
    have HD := (HH.out.ext0 HE.out).drop (k := a) ha
    rw [show a * Kd.u8.sz = a from Nat.mul_one a] at HD
    have HDD := Lib.hid HD
    clear HD
    rcases Classical.em (c = a) with hca | hca
    case inl =>
      have hz : bs.length = a := by omega
      have RD : Hid (Rd Kd.u8 wr (fun _ => True) (.slice (some ⟨gs, off, none⟩) 0 0) []) := by
        show Rd _ _ _ _ _
        have h := HDD.out
        rw [if_pos hca, hca, Nat.sub_self, hz, Nat.sub_self, List.drop_eq_nil_of_le (by omega)] at h
        exact h
      have HST : Hid (StopA bs (a, out)) := stopA_of HI.out (by rw [List.drop_eq_nil_of_le (by omega), nextR_nil]; simp)
      clear HDD q0 q1 hcl
      subst hca
      rw [hz] at *
      go_wp2_with fail
      refine (Next_calls RD.out (by simp) (HT.out.ext HE.out)).mono ?_
      rw [nextR_nil]
      rintro e w2 ⟨v2, rfl, ho, he⟩
      obtain ⟨A2, N2, c2, rfl, hn2⟩ := (Own.abs8 ho)
      have HO2 := Lib.hid (HO.out.ext0 he)
      have E2 := Lib.hid (HE.out.trans0 he)
      clear ho he hn2
      simp only []
      go_wp2_with fail
      go_ret2
      exact ⟨_, c, out, rfl, HST.out, HO2.out.rd, E2.out⟩
    case inr =>
      have RD : Hid (Rd Kd.u8 wr (fun _ => True) (.slice (some ⟨gs, off + a, none⟩) (bs.length - a) (c - a)) (bs.drop a)) := by
        show Rd _ _ _ _ _
        have h := HDD.out
        rw [if_neg hca] at h
        exact h
      clear HDD
      go_wp2_with fail
      refine (Next_calls RD.out (by rw [List.length_drop]; omega) (HT.out.ext HE.out)).mono ?_
      obtain ⟨⟨p, m, e0⟩, hr⟩ : ∃ r, nextR (bs.drop a) = r := ⟨_, rfl⟩
      rw [hr]
      rintro e w2 ⟨v2, rfl, ho, he⟩
      obtain ⟨A2, N2, c2, rfl, hn2⟩ := (Own.abs8 ho)
      have HR := Lib.hid hr
      have O2 := Lib.hid (Own.tight ho).rd
      have HO2 := Lib.hid (HO.out.ext0 he)
      have HB2 := Lib.hid HO.out.base_le
      have E2 := Lib.hid (HE.out.trans0 he)
      have z2 := he.size
      clear ho he hn2 hr
      simp only []
      rcases Classical.em (e0 = 0) with he0 | he0
      · subst he0
        have hnx := nextR_at (bs := bs.drop a) (by rw [HR.out])
        rw [HR.out, List.length_drop] at hnx
        simp only [] at hnx
        have hst := iterA_step HI.out (by rw [HR.out])
        rw [HR.out] at hst
        have HST := Lib.hid hst
        have hjl : out.length ≤ 65536 := by have := HJ.out; omega
        have qw : wrap64 ((a : Int) + (m : Int)) = (a : Int) + (m : Int) := by unfold wrap64; omega
        have HNX := Lib.hid hnx
        have HQ := Lib.hid qw
        clear hst hnx qw
        have hY : Hid (∀ k, (wr.heap.size ≤ k ∧ k < w2.heap.size) → some k ≠ (Value.slice A1 n1 c1).ownBlock) := by
          intro k hk e
          have := (HB2.out k e.symm).2
          omega
        go_wp2_with (at_builtin; refine app_one (w0 := w) (v := .slice A1 n1 c1) (vp := .slice A2 N2 c2) rfl _ _ rfl rfl rfl HO2.out E2.out O2.out hY.out hjl ?_; intro A3 n3 c3 w3 O3 E3)
        go_wp2_with fail
        have hnx := HNX.out
        refine ⟨⟨j + 1, a + m, out ++ [p], A3, n3, c3, rfl, ?_, by omega, by omega, ?_, HST.out, O3.out, E3.out⟩, ?_⟩
        · rw [HQ.out]
          rfl
        · show _ = _
          rw [List.length_append, HJ.out]
          rfl
        · rw [HQ.out]
          show bs.length - ((a : Int) + (m : Int)).toNat < bs.length - ((a : Int)).toNat
          omega
      · have q4 : (e0 != 0) = true := by simpa using he0
        have HS := Lib.hid (stopA_of HI.out (by rw [HR.out]; exact he0))
        clear he0
        go_wp2_with fail
        go_ret2
        exact ⟨_, a, out, rfl, HS.out, HO2.out.rd, E2.out⟩
end Go.Proofs.YtiapjdbeooonjaaDoor
