/- The law's short. -/
import Derived.Test.YtdjfijdnhfmeeaaR7
namespace Go.Proofs.Ytdjfijdnhfmeeaa
open Go.RowKit Go.TM
def EvS (e : Ev) : Prop := e.key.size ≤ 32768 ∧ e.old.size ≤ 32768 ∧ e.now.size ≤ 32768
def EvsS (k : Dc) : Prop := k.evs.length ≤ 32768 ∧ ∀ e ∈ k.evs, EvS e
def LitS (n : Nat) (k : Dc) : Prop := opc k = 4 → lightF (n + 1) k.q = true
/-- What any call is, by its type. -/
def DcV (n : Nat) (k : Dc) : Prop := okF (n + 1) k.q ∧ ∀ e ∈ k.evs, e.ok
theorem callOk {n : Nat} {k : Dc} (hv : DcV n k) (he : EvsS k) (hl : LitS n k) : CallOk n k := ⟨hv.1, fun h => light_okK (hl h), he.1, fun e h => (he.2 e h).2.2⟩
def ShortPost (n : Nat) (l : List Dc) (w : World) (e : Ending) (w' : World) : Prop := ∃ b, e = .returned (.bool b) ∧ Ext Non w w' ∧ (b = true → l.length ≤ 120 ∧ ∀ k ∈ l, EvsS k ∧ LitS n k)
set_option maxRecDepth 100000 in
set_option maxHeartbeats 16000000 in
theorem short_calls {w : World} {n : Nat} {ok : Nat → Prop} {A : Option Addr} {m c : Nat} {l : List Dc} (hr : Rd (doK n) w ok (.slice A m c) l) (hv : ∀ k ∈ l, DcV n k) : Calls Try.prog 11 #[.slice A m c] w (ShortPost n l w) := by
  obtain ⟨_, _, hs, _, hm⟩ := hr.slice
  simp only [Value.slice.injEq] at hs
  obtain ⟨-, hml, -⟩ := hs
  have hmx : (m : Int) ≤ 9223372036854775807 := by omega
  have HR := Lib.hid hr
  have HV := Lib.hid hv
  have HML := Lib.hid hml
  clear hr hv hml hm
  go_enter Try.func11, Try.ntmps11
  go_wp2_with fail
  go_loopw [3, 4] (fun s i wr => ∃ (j : Nat) (N : Int), i = .int .i64 (j : Int) ∧ s = .int .i64 N ∧ j ≤ m ∧ 0 ≤ N ∧ N ≤ 140000 ∧ Hid (N ≤ 32768 → ∀ (k : Nat) x, k < j → l[k]? = some x → EvsS x) ∧ Hid (∀ (k : Nat) x, k < j → l[k]? = some x → LitS n x) ∧ Hid (Ext Non w wr)) (fun _ i _ => m - (intOf i).toNat)
  case atStart => exact ⟨0, 0, rfl, rfl, by omega, by omega, by omega, fun _ k x h => absurd h (Nat.not_lt_zero k), fun k x h => absurd h (Nat.not_lt_zero k), Ext.refl _ _⟩
  case round =>
    obtain ⟨j, N, rfl, rfl, hj, n0, n1, HS, HL, HE⟩ := hrel
    by_cases hgo : (j : Int) < (m : Int) ∧ (j : Int) ≤ 120 ∧ N ≤ 32768
    · obtain ⟨g1, g2, g3⟩ := hgo
      obtain ⟨x, hx⟩ : ∃ x, l[j]? = some x := ⟨_, List.getElem?_eq_getElem (by have := HML.out; omega)⟩
      obtain ⟨ga, offa, B, bl, bd, C, ck, cf, rfl, hga, hgla, a0, a1, a2, a3, a4, a5, a6, a7, a8, a9, hu, hq⟩ := do_at (HR.out.ext0 HE.out) hx
      obtain ⟨hv1, hv2⟩ := HV.out x (List.mem_of_getElem? hx)
      have hbl : bl = x.evs.length := by
        obtain ⟨_, _, hs, _, _⟩ := hu.slice
        simp only [Value.slice.injEq] at hs
        exact hs.2.1
      have hbx : (bl : Int) ≤ 9223372036854775807 := by
        obtain ⟨_, _, _, _, h⟩ := hu.slice
        omega
      have HX := Lib.hid hx
      have HU := Lib.hid hu
      have HQ := Lib.hid hq
      have HBL := Lib.hid hbl
      have HF := Lib.hid hv1
      have HO := Lib.hid hv2
      have hdef : bits BinOp.and IntKind.i64 x.op 7 = opc x := rfl
      have A0 := Lib.hid a0
      have A5 := Lib.hid a5
      have A6 := Lib.hid a6
      have A7 := Lib.hid a7
      have A8 := Lib.hid a8
      have A9 := Lib.hid a9
      clear hx hu hq hbl hv1 hv2 hga a0 a1 a2 a3 a4 a6 a7 a8 a9
      go_wp2_with fail
      go_loopw [3, 5] (fun s i wr2 => ∃ (j2 : Nat) (M : Int), i = .int .i64 (j2 : Int) ∧ s = .int .i64 M ∧ j2 ≤ bl ∧ (j2 : Int) ≤ M ∧ 0 ≤ M ∧ M ≤ 140000 ∧ N ≤ M ∧ Hid (M ≤ 32768 → ∀ (k : Nat) e, k < j2 → x.evs[k]? = some e → EvS e) ∧ Hid (Ext Non wr wr2)) (fun _ i _ => bl - (intOf i).toNat)
      case atStart => exact ⟨0, N, rfl, rfl, by omega, by omega, by omega, by omega, by omega, fun _ k e h => absurd h (Nat.not_lt_zero k), Ext.refl _ _⟩
      case round =>
        obtain ⟨j2, M, rfl, rfl, hj2, m0, m1, m2, m3, HS2, HE2⟩ := hrel
        have a5 := HE2.out.cell A5.out (fun e => e)
        by_cases hgo2 : (j2 : Int) < (bl : Int) ∧ M ≤ 32768
        · obtain ⟨k1, k2⟩ := hgo2
          obtain ⟨e, he⟩ : ∃ e, x.evs[j2]? = some e := ⟨_, List.getElem?_eq_getElem (by have := HBL.out; omega)⟩
          obtain ⟨ge, off, rfl, hge, hgl, d0, d1, d2, d3, d4, d5⟩ := ev_at (HU.out.ext0 HE2.out) he
          obtain ⟨o1, o2, o3⟩ := HO.out e (List.mem_of_getElem? he)
          have s1 : (e.key.size : Int) ≤ 9223372036854775807 := by simp only [maxLen] at o1; omega
          have s2 : (e.old.size : Int) ≤ 9223372036854775807 := by simp only [maxLen] at o2; omega
          have s3 : (e.now.size : Int) ≤ 9223372036854775807 := by simp only [maxLen] at o3; omega
          have HEE := Lib.hid he
          clear o1 o2 o3 he
          rcases (show 32768 < (e.key.size : Int) ∨ (e.key.size : Int) ≤ 32768 by omega) with q1 | q1
          all_goals rcases (show 32768 < (e.old.size : Int) ∨ (e.old.size : Int) ≤ 32768 by omega) with q2 | q2
          all_goals rcases (show 32768 < (e.now.size : Int) ∨ (e.now.size : Int) ≤ 32768 by omega) with q3 | q3
          all_goals
            go_wp2_with fail
            go_roundw
            case rel =>
              refine ⟨j2 + 1, _, by go_num, rfl, by omega, by omega, by omega, by omega, by omega, ?_, HE2.out.trans0 ?_⟩
              · intro hle k y hk hy
                rcases Nat.lt_or_ge k j2 with h | h
                · exact HS2.out (by omega) k y h hy
                · have hkj : k = j2 := by omega
                  subst hkj
                  rw [HEE.out] at hy
                  cases hy
                  exact ⟨by omega, by omega, by omega⟩
              · repeat (first | exact Ext.refl _ _ | refine Ext.drew ?_ | refine Ext.alloc ?_ _ | refine Ext.setNew ?_ (Nat.le_refl _) _)
            case measure => simp [intOf]; omega
        · have hfin : Hid (M ≤ 32768 → EvsS x) := by
            intro h2
            have h3 : j2 = bl := by omega
            refine ⟨by have := HBL.out; omega, fun e he => ?_⟩
            obtain ⟨k, hk⟩ := List.getElem?_of_mem he
            have h4 := (List.getElem?_eq_some_iff.1 hk).1
            exact HS2.out h2 k e (by have := HBL.out; omega) hk
          have a0 := HE2.out.cell A0.out (fun e => e)
          have a6 := HE2.out.cell A6.out (fun e => e)
          have a7 := HE2.out.cell A7.out (fun e => e)
          have a8 := HE2.out.cell A8.out (fun e => e)
          have a9 := HE2.out.cell A9.out (fun e => e)
          have hnext : ∀ w3, Ext Non wr w3 → LitS n x → ∃ (j' : Nat) (N' : Int), Value.int .i64 ((j : Int) + 1) = .int .i64 (j' : Int) ∧ Value.int .i64 M = .int .i64 N' ∧ j' ≤ m ∧ 0 ≤ N' ∧ N' ≤ 140000 ∧ Hid (N' ≤ 32768 → ∀ (k : Nat) x, k < j' → l[k]? = some x → EvsS x) ∧ Hid (∀ (k : Nat) x, k < j' → l[k]? = some x → LitS n x) ∧ Hid (Ext Non w w3) := fun w3 he3 hlit => by
            refine ⟨j + 1, M, by go_num, rfl, by omega, by omega, by omega, fun hle k y hk hy => ?_, fun k y hk hy => ?_, (HE.out.trans0 HE2.out).trans0 he3⟩
            · rcases Nat.lt_or_ge k j with h | h
              · exact HS.out (by omega) k y h hy
              · have hkj : k = j := by omega
                subst hkj
                rw [HX.out] at hy
                cases hy
                exact hfin.out hle
            · rcases Nat.lt_or_ge k j with h | h
              · exact HL.out k y h hy
              · have hkj : k = j := by omega
                subst hkj
                rw [HX.out] at hy
                cases hy
                exact hlit
          have HNX := Lib.hid hnext
          clear hnext
          have hex : ¬ (j2 : Int) < (bl : Int) ∨ ((j2 : Int) < (bl : Int) ∧ ¬ M ≤ 32768) := by omega
          by_cases c4 : opc x = 4
          · have b4 : (opc x == 4) = true := by rw [c4]; rfl
            have HLC := Lib.hid (light_calls (n := n) (f := x.q) (w := wr) ⟨_, rfl, (HQ.out.ext0 HE2.out)⟩ HF.out)
            cases hlt : lightF (n + 1) x.q with
            | true =>
              rw [hlt] at HLC
              have HLT := Lib.hid hlt
              clear hlt
              rcases hex with h1 | ⟨h1, h2⟩
              all_goals
                go_wp2_with fail
                refine HLC.out.mono ?_
                rintro e w6 ⟨rfl, he⟩
                have HE6 := Lib.hid he
                clear he
                go_wp2_with fail
                go_roundw
                case rel => exact HNX.out _ HE6.out (fun _ => HLT.out)
                case measure => simp [intOf]; omega
            | false =>
              rw [hlt] at HLC
              clear hlt
              rcases hex with h1 | ⟨h1, h2⟩
              all_goals
                go_wp2_with fail
                refine HLC.out.mono ?_
                rintro e w6 ⟨rfl, he⟩
                have HE6 := Lib.hid he
                clear he
                go_wp2_with fail
                go_ret
                exact ⟨false, rfl, (HE.out.trans0 HE2.out).trans0 HE6.out, fun h => by cases h⟩
          · have b4 : (opc x == 4) = false := beq_eq_false_iff_ne.2 c4
            have HC4 : Hid (LitS n x) := fun h => absurd h c4
            rcases hex with h1 | ⟨h1, h2⟩
            all_goals
              go_wp2_with fail
              go_roundw
              case rel => exact HNX.out _ (Ext.refl _ _) HC4.out
              case measure => simp [intOf]; omega
    · have hfin : Hid (m ≤ 120 → N ≤ 32768 → l.length ≤ 120 ∧ ∀ k ∈ l, EvsS k ∧ LitS n k) := by
        intro h1 h2
        have h3 : j = m := by omega
        refine ⟨by have := HML.out; omega, fun x hx => ?_⟩
        obtain ⟨k, hk⟩ := List.getElem?_of_mem hx
        have h4 := (List.getElem?_eq_some_iff.1 hk).1
        have h5 : k < j := by have := HML.out; omega
        exact ⟨HS.out h2 k x h5 hk, HL.out k x h5 hk⟩
      rcases (show (j : Int) < (m : Int) ∨ (m : Int) ≤ (j : Int) by omega) with h1 | h1
      · rcases (show 120 < (j : Int) ∨ (j : Int) ≤ 120 by omega) with h2 | h2
        · go_wp2_with fail
          all_goals go_ret
          all_goals exact ⟨false, by first | rfl | (simp; omega), HE.out, fun h => by cases h⟩
        · have h3 : 32768 < N := by omega
          go_wp2_with fail
          all_goals go_ret
          all_goals exact ⟨false, by first | rfl | (simp; omega), HE.out, fun h => by cases h⟩
      · rcases (show 120 < (m : Int) ∨ (m : Int) ≤ 120 by omega) with h2 | h2
        · go_wp2_with fail
          all_goals go_ret
          all_goals exact ⟨false, by first | rfl | (simp; omega), HE.out, fun h => by cases h⟩
        · rcases (show 32768 < N ∨ N ≤ 32768 by omega) with h3 | h3
          · go_wp2_with fail
            all_goals go_ret
            all_goals exact ⟨false, by first | rfl | (simp; omega), HE.out, fun h => by cases h⟩
          · go_wp2_with fail
            all_goals go_ret
            all_goals exact ⟨true, by first | rfl | (simp; omega), HE.out, fun _ => hfin.out (by omega) h3⟩
end Go.Proofs.Ytdjfijdnhfmeeaa
