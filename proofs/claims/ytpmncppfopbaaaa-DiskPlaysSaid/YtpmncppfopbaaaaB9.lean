/- The disk's calls: Append, Slot, Look, Tape, New, Clone. -/
import Derived.Test.YtpmncppfopbaaaaB8
namespace Go.Proofs.Ytpmncppfopbaaaa
open Go.RowKit Go.TM

theorem Live.ext {w w' : World} {ok : Nat → Prop} {g : Nat} {d : Dk} (h : Live w ok g d) (he : Ext Non w w') : Live w' ok g d :=
  ⟨h.at_.ext he, h.good, fun k hk => h.fresh k (Nat.le_trans he.size hk), h.out, h.wl⟩
theorem Append_calls {w : World} {ok okb : Nat → Prop} {g : Nat} {d : Dk} (L : Live w ok g d) {A : Option Addr} {n c : Nat} {b : List UInt8} (R : Rd Kd.u8 w okb (.slice A n c) b) (hbl : b.length ≤ 140737488355328) :
    Calls Try.prog 44 #[.pointer (some ⟨g, 0, none⟩), .slice A n c] w (DPost ok g (d.append b) w) := by
  have HL := Lib.hid L
  have HH := Lib.hid L.at_
  rcases able_cases d with h0 | ⟨h0, A', hA, q, q2⟩
  · have HA := Lib.hid h0
    have HRR := Lib.hid R
    have HBL := Lib.hid hbl
    obtain ⟨_, _, he, -, -⟩ := R.slice
    simp only [Value.slice.injEq] at he
    obtain ⟨-, hn, -⟩ := he
    have HN := Lib.hid hn
    have q3 : (-140737488355328 : Int) ≤ (n : Int) := by omega
    have q4 : (n : Int) ≤ 140737488355328 := by omega
    have HQ := Lib.hid (And.intro q3 q4)
    have hff : d.fits (b.length : Int) = d.fits (n : Int) := by rw [hn]
    by_cases hfit : d.fits (n : Int) = true
    · have hr : d.append b = d.act ⟨2, b⟩ := by unfold Dk.append; rw [if_neg (by simp [h0]), hff, if_pos hfit]
      rw [hr]
      have HF := Lib.hid (Dk.Good.app_fit (d := d) (b := b) (by rw [hff]; exact hfit))
      have HFI := Lib.hid hfit
      clear L h0 hr R hbl hn hfit hff
      go_enter Try.func44, Try.ntmps44
      go_wp2_with fail
      refine (able_calls HH.out).mono ?_
      rintro e w1 ⟨rfl, rfl⟩
      rw [HA.out]
      go_wp2_with fail
      refine (fits_calls HH.out HL.out.good (more := (n : Int)) HQ.out).mono ?_
      rintro e w1 ⟨rfl, he⟩
      rw [HFI.out]
      have HL1 := Lib.hid (HL.out.ext he)
      have HR1 := Lib.hid (HRR.out.ext0 he)
      have E1 := Lib.hid he
      clear he
      go_wp2_with fail
      refine (own_calls HR1.out HBL.out).mono ?_
      rintro e w2 ⟨A1, n1, c1, rfl, ho, he⟩
      have HL2 := Lib.hid (HL1.out.ext he.out)
      have HR2 := Lib.hid (ho.out.rd.mono (fun k hk => HL1.out.fresh k hk.1))
      have E2 := Lib.hid (E1.out.trans0 he.out)
      clear he ho
      go_wp2_with fail
      refine (do_calls (a := ⟨2, b⟩) HL2.out.at_ HL2.out.good HL2.out.fresh HL2.out.out HA.out HR2.out ⟨(show (0 : Int) ≤ 2 by decide), (show (2 : Int) ≤ 3 by decide)⟩ HF.out HL2.out.wl).mono ?_
      rintro e w6 ⟨rfl, hd, he⟩
      have HD6 := Lib.hid hd
      have E7 := Lib.hid (E2.out.of0.trans he (fun _ _ e => e))
      clear hd he
      go_wp2_with fail
      go_ret
      exact ⟨rfl, HD6.out, E7.out⟩
    · have hr : d.append b = (7, d) := by unfold Dk.append; rw [if_neg (by simp [h0]), hff, if_neg hfit]
      rw [hr]
      have HFI := Lib.hid (Bool.not_eq_true _ ▸ hfit : d.fits (n : Int) = false)
      clear L h0 hr R hbl hn hfit hff
      go_enter Try.func44, Try.ntmps44
      go_wp2_with fail
      refine (able_calls HH.out).mono ?_
      rintro e w1 ⟨rfl, rfl⟩
      rw [HA.out]
      go_wp2_with fail
      refine (fits_calls HH.out HL.out.good (more := (n : Int)) HQ.out).mono ?_
      rintro e w1 ⟨rfl, he⟩
      rw [HFI.out]
      have HL1 := Lib.hid (HL.out.ext he)
      have E1 := Lib.hid he
      clear he
      go_wp2_with fail
      go_ret
      exact ⟨rfl, HL1.out.at_, E1.out.of0⟩
  · have hr : d.append b = (A', d) := by unfold Dk.append; rw [if_pos h0, hA]
    rw [hr]
    have HA := Lib.hid hA
    clear L h0 hr hA R
    go_enter Try.func44, Try.ntmps44
    go_wp2_with fail
    refine (able_calls HH.out).mono ?_
    rintro e w1 ⟨rfl, rfl⟩
    rw [HA.out]
    go_wp2_with fail
    go_ret
    exact ⟨rfl, HH.out, Ext.refl _ _⟩

theorem slot01 {i : Int} (h : ¬ (i < 0 ∨ 1 < i)) : i = 0 ∨ i = 1 := by omega
set_option maxHeartbeats 1000000 in
theorem Slot_calls {w : World} {ok okb : Nat → Prop} {g : Nat} {d : Dk} (L : Live w ok g d) (i : Int) {A : Option Addr} {n c : Nat} {b : List UInt8} (R : Rd Kd.u8 w okb (.slice A n c) b) (hbl : b.length ≤ 140737488355328) :
    Calls Try.prog 26 #[.pointer (some ⟨g, 0, none⟩), .int .i64 i, .slice A n c] w (DPost ok g (d.slot i b) w) := by
  have HL := Lib.hid L
  have HH := Lib.hid L.at_
  rcases able_cases d with h0 | ⟨h0, A', hA, q, q2⟩
  · have HA := Lib.hid h0
    have HRR := Lib.hid R
    have HBL := Lib.hid hbl
    obtain ⟨_, _, he, -, -⟩ := R.slice
    simp only [Value.slice.injEq] at he
    obtain ⟨-, hn, -⟩ := he
    by_cases hi : i < 0 ∨ 1 < i
    · have hr : d.slot i b = (31, d) := by unfold Dk.slot; rw [if_neg (by simp [h0]), if_pos hi]
      rw [hr]
      clear L h0 hr R hbl hn
      rcases hi with hi | hi
      case' inr => have hi2 : 0 ≤ i := by omega
      all_goals
        go_enter Try.func26, Try.ntmps26
        go_wp2_with fail
        refine (able_calls HH.out).mono ?_
        rintro e w1 ⟨rfl, rfl⟩
        rw [HA.out]
        go_wp2_with fail
        go_ret
        exact ⟨rfl, HH.out, Ext.refl _ _⟩
    · obtain ⟨A0, n0, c0, A1, n1, c1, A2, n2, c2, B0, m0, d0, B1, m1, d1, B2, m2, d2, Aw, nw, cw, hb, hp, -, -, -⟩ := L.at_.open
      have hus := L.good.used
      have hroom := L.good.room
      obtain ⟨_, _, he0, -, -⟩ := hp.1.slice
      simp only [Value.slice.injEq] at he0
      obtain ⟨-, hn0, -⟩ := he0
      obtain ⟨_, _, he1, -, -⟩ := hp.2.1.slice
      simp only [Value.slice.injEq] at he1
      obtain ⟨-, hn1, -⟩ := he1
      have e0 : w.cell? ⟨g, 0, none⟩ = some (.slice A0 n0 c0) := blk_cell hb 0
      have e1 : w.cell? ⟨g, 1, none⟩ = some (.slice A1 n1 c1) := blk_cell hb 1
      have hu0 : n0 ≤ 16777216 := by unfold Plate.used at hus; omega
      have hu1 : n1 ≤ 16777216 := by unfold Plate.used at hus; omega
      have hr0 : d.slot i b = if d.fits ((n : Int) - ((d.now.slot i).length : Int)) then d.act ⟨i, b⟩ else (7, d) := by
        unfold Dk.slot
        rw [if_neg (by simp [h0]), if_neg hi, hn]
      have HHI := Lib.hid hi
      have hgs := blk_lt hb
      rcases slot01 hi with rfl | rfl
      case' inl =>
        have hsl : (d.now.slot 0).length = n0 := hn0.symm
        obtain ⟨M, hM⟩ : ∃ M : Int, M = (n : Int) - (n0 : Int) := ⟨_, rfl⟩
        have hw : wrap64 ((n : Int) - (n0 : Int)) = M := by rw [hM, ← Last.i64_w]; exact IntWalk.i64_in _ (by omega)
      case' inr =>
        have hsl : (d.now.slot 1).length = n1 := hn1.symm
        obtain ⟨M, hM⟩ : ∃ M : Int, M = (n : Int) - (n1 : Int) := ⟨_, rfl⟩
        have hw : wrap64 ((n : Int) - (n1 : Int)) = M := by rw [hM, ← Last.i64_w]; exact IntWalk.i64_in _ (by omega)
      all_goals
        rw [hsl, ← hM] at hr0
        have HW2 := Lib.hid hw
        clear hw
        have HM : Hid (-140737488355328 ≤ M ∧ M ≤ 140737488355328) := ⟨by omega, by omega⟩
        have hff : ∀ h : d.fits M = true, d.fits ((b.length : Int) - ((d.now.slot _).length : Int)) = true := fun h => by rw [hsl, ← hn, ← hM]; exact h
        have hap := fun h => Dk.Good.slot_fit hi (hff h)
        have HAP := Lib.hid hap
        have q3 : (0 : Int) ≤ (n : Int) := by omega
        by_cases hfit : d.fits M = true
        · rw [if_pos hfit] at hr0
          rw [hr0]
          have HFI := Lib.hid hfit
          have HF := Lib.hid (HAP.out hfit)
          clear L h0 hr0 R hbl hn hfit hff hap HAP hi hb hp hus hroom hn0 hn1 hu0 hu1 hsl hM
          go_enter Try.func26, Try.ntmps26
          go_wp2_with fail
          refine (able_calls HH.out).mono ?_
          rintro e w1 ⟨rfl, rfl⟩
          rw [HA.out]
          go_wp2_with fail
          rw [HW2.out]
          refine (fits_calls HH.out HL.out.good (more := M) HM.out).mono ?_
          rintro e w1 ⟨rfl, he⟩
          rw [HFI.out]
          have HL1 := Lib.hid (HL.out.ext he)
          have HR1 := Lib.hid (HRR.out.ext0 he)
          have E1 := Lib.hid he
          clear he
          go_wp2_with fail
          refine (own_calls HR1.out HBL.out).mono ?_
          rintro e w2 ⟨A1', n1', c1', rfl, ho, he⟩
          have HL2 := Lib.hid (HL1.out.ext he.out)
          have HR2 := Lib.hid (ho.out.rd.mono (fun k hk => HL1.out.fresh k hk.1))
          have E2 := Lib.hid (E1.out.trans0 he.out)
          clear he ho
          go_wp2_with fail
          refine (do_calls (a := ⟨_, b⟩) HL2.out.at_ HL2.out.good HL2.out.fresh HL2.out.out HA.out HR2.out ⟨by simp, by simp⟩ HF.out HL2.out.wl).mono ?_
          rintro e w6 ⟨rfl, hd, he⟩
          have HD6 := Lib.hid hd
          have E7 := Lib.hid (E2.out.of0.trans he (fun _ _ e => e))
          clear hd he
          go_wp2_with fail
          go_ret
          exact ⟨rfl, HD6.out, E7.out⟩
        · rw [if_neg hfit] at hr0
          rw [hr0]
          have HFI := Lib.hid (Bool.not_eq_true _ ▸ hfit : d.fits M = false)
          clear L h0 hr0 R hbl hn hfit hff hap HAP hi hb hp hus hroom hn0 hn1 hu0 hu1 hsl hM
          go_enter Try.func26, Try.ntmps26
          go_wp2_with fail
          refine (able_calls HH.out).mono ?_
          rintro e w1 ⟨rfl, rfl⟩
          rw [HA.out]
          go_wp2_with fail
          rw [HW2.out]
          refine (fits_calls HH.out HL.out.good (more := M) HM.out).mono ?_
          rintro e w1 ⟨rfl, he⟩
          rw [HFI.out]
          have HL1 := Lib.hid (HL.out.ext he)
          have E1 := Lib.hid he
          clear he
          go_wp2_with fail
          go_ret
          exact ⟨rfl, HL1.out.at_, E1.out.of0⟩
  · have hr : d.slot i b = (A', d) := by unfold Dk.slot; rw [if_pos h0, hA]
    rw [hr]
    have HA := Lib.hid hA
    clear L h0 hr hA R
    go_enter Try.func26, Try.ntmps26
    go_wp2_with fail
    refine (able_calls HH.out).mono ?_
    rintro e w1 ⟨rfl, rfl⟩
    rw [HA.out]
    go_wp2_with fail
    go_ret
    exact ⟨rfl, HH.out, Ext.refl _ _⟩
end Go.Proofs.Ytpmncppfopbaaaa
