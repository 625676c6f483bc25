/- DiskClears. -/
import Derived.Test.YtpmncppfopbaaaaC8
namespace Go.Proofs.Ytpmncppfopbaaaa
open Go.RowKit Go.TM

theorem clears_plain {l : List TM.Call} (hl : Fine l) (hs : l.length ≤ 200 ∧ ∀ k ∈ l, k.b.length ≤ 32768) {b : List UInt8} (hb : b.length ≤ 32768) (keep tear : Int) : ∃ D1 D2 D3 D4 D5 D6 D7 s0, Goes ((Dk.new 16777216).run l).start 0 D1 ∧ Goes (D1.arm 0 0 0) 0 D2 ∧ Goes D2.clear 0 D3 ∧ Goes (D3.slot 1 b) 0 D4 ∧ Goes D4.sync 0 D5 ∧ Goes (D5.crash keep tear) 0 D6 ∧ Goes D6.start 0 D7 ∧ D7.face = (⟨s0, b, []⟩, true) := by
  have h0 := fine_good hl
  have w0 := made_wait 16777216 l hl.n
  have u0 := Dk.Upto.made hs.1 hs.2 16777216
  have r0 := made_room l
  generalize (Dk.new 16777216).run l = D0 at h0 w0 u0 r0
  have h1 := h0.on
  have g2 := goes_arm0 (n := 0) (keep := 0) (tear := 0) h1 (by show D0.wait.length ≤ _; omega) rfl (by omega) (by simp [inI]) (by simp [inI]) (by simp [inI])
  have u2 : (D0.on.armed 0 0 0).Upto 6553600 := u0.on.armed 0 0 0
  have g3 := goes_clear g2.2.2.1 (by show D0.wait.length ≤ _; omega) rfl rfl
  have u3 := u2.acted (a := ⟨3, []⟩) (M := 0) (by simp)
  have g4 := goes_slot (i := 1) (b := b) g3.2.2.1 (by simp [Dk.acted, Dk.armed, Dk.on]; omega) rfl rfl (.inr rfl) u3 (by show _ ≤ D0.room; omega)
  have g5 := goes_sync g4.2.2.1 rfl rfl
  have g6 := goes_crash g5.2.2.1 rfl keep tear
  have g7 := goes_start g6.2.2.1 (by simp [Dk.down])
  refine ⟨_, _, _, _, _, _, _, D0.now.s0, goes_start h0 (by omega), g2, g3, g4, g5, g6, g7, ?_⟩
  rw [face_on g7.2.2.1 rfl]
  congr 1
  exact (fell_empty (d := (((D0.on.armed 0 0 0).acted ⟨3, []⟩).acted ⟨1, b⟩).synced) rfl keep tear).trans rfl
set_option maxHeartbeats 2000000 in
set_option maxRecDepth 100000 in
theorem clears_calls {w : World} {ok okb : Nat → Prop} {A B : Option Addr} {n c nb cb : Nat} {l : List TM.Call} {b : List UInt8} (R : Rd callK w ok (.slice A n c) l) (hok : ∀ k ∈ l, k.Ok) (RB : Rd Kd.u8 w okb (.slice B nb cb) b) (keep tear : Int) :
    Calls Try.prog 5 #[.slice A n c, .slice B nb cb, .int .i64 keep, .int .i64 tear] w fun e w' => e = .returned (.bool true) ∧ Ext Non w w' := by
  have HR := Lib.hid R
  have HO := Lib.hid hok
  have HB := Lib.hid RB
  obtain ⟨hbn, -⟩ := rd_len RB
  have HBN := Lib.hid hbn
  clear R hok RB hbn
  go_enter Try.func5, Try.ntmps5
  go_wp2_with fail
  refine (short_calls HR.out).mono ?_
  rintro e w1 ⟨s, rfl, rfl, hb⟩
  cases s with
  | false =>
    clear hb
    go_wp2_with fail
    refine (awake_calls _).mono ?_
    rintro e w2 ⟨rfl, he⟩
    have E2 := Lib.hid he
    clear he
    go_wp2_with fail
    go_ret
    exact ⟨rfl, E2.out⟩
  | true =>
    by_cases hn : (nb : Int) ≤ 32768
    case neg =>
      clear hb
      go_wp2_with fail
      refine (awake_calls _).mono ?_
      rintro e w2 ⟨rfl, he⟩
      have E2 := Lib.hid he
      clear he
      go_wp2_with fail
      go_ret
      exact ⟨rfl, E2.out⟩
    have hfine := fine_of (hb rfl) HO.out
    have HFI := Lib.hid hfine
    have HBL : Hid (b.length ≤ 140737488355328) := by have := HBN.out; show _ ≤ _; omega
    obtain ⟨D1, D2, D3, D4, D5, D6, D7, s0, g1, g2, g3, g4, g5, g6, g7, f7⟩ := clears_plain hfine (hb rfl) (b := b) (by have := HBN.out; omega) keep tear
    have G1 := Lib.hid g1
    have G2 := Lib.hid g2
    have G3 := Lib.hid g3
    have G4 := Lib.hid g4
    have G5 := Lib.hid g5
    have G6 := Lib.hid g6
    have G7 := Lib.hid g7
    have F7 := Lib.hid f7
    clear hb hfine g1 g2 g3 g4 g5 g6 g7 f7
    go_wp2_with fail
    refine (made_calls HR.out HFI.out 16777216 (by omega) (by omega)).mono ?_
    rintro e w1 ⟨g, rfl, hg0, hg1, hl, he⟩
    have HG0 := Lib.hid hg0
    have HL1 := Lib.hid hl
    have E1 := Lib.hid he
    clear hg0 hg1 hl he
    go_wp2_with fail
    refine (start_go HL1.out G1.out).mono ?_
    rintro e w2 ⟨rfl, hl, he⟩
    have HL2 := Lib.hid hl
    have E2 := Lib.hid (E1.out.only_new he HG0.out)
    clear hl he
    go_wp2_with fail
    refine (arm_go HL2.out G2.out).mono ?_
    rintro e w3 ⟨rfl, hl, he⟩
    have HL3 := Lib.hid hl
    have E3 := Lib.hid (E2.out.only_new he HG0.out)
    clear hl he
    go_wp2_with fail
    refine (clear_go HL3.out G3.out).mono ?_
    rintro e w4 ⟨rfl, hl, he⟩
    have HL4 := Lib.hid hl
    have E4 := Lib.hid (E3.out.only_new he HG0.out)
    clear hl he
    go_wp2_with fail
    refine (slot_go HL4.out (HB.out.ext0 E4.out) HBL.out G4.out).mono ?_
    rintro e w5 ⟨rfl, hl, he⟩
    have HL5 := Lib.hid hl
    have E5 := Lib.hid (E4.out.only_new he HG0.out)
    clear hl he
    go_wp2_with fail
    refine (sync_go HL5.out G5.out).mono ?_
    rintro e w6 ⟨rfl, hl, he⟩
    have HL6 := Lib.hid hl
    have E6 := Lib.hid (E5.out.only_new he HG0.out)
    clear hl he
    go_wp2_with fail
    refine (crash_go HL6.out G6.out).mono ?_
    rintro e w7 ⟨rfl, hl, he⟩
    have HL7 := Lib.hid hl
    have E7 := Lib.hid (E6.out.only_new he HG0.out)
    clear hl he
    go_wp2_with fail
    refine (start_go HL7.out G7.out).mono ?_
    rintro e w8 ⟨rfl, hl, he⟩
    have HL8 := Lib.hid hl
    have E8 := Lib.hid (E7.out.only_new he HG0.out)
    clear hl he
    go_wp2_with fail
    have HGL0 := Lib.hid HL8.out.lt
    refine (face_go HL8.out F7.out).mono ?_
    rintro e w9 ⟨A0_0, n0_0, c0_0, A1_0, n1_0, c1_0, A2_0, n2_0, c2_0, rfl, hr, he⟩
    have HL9 := Lib.hid (HL8.out.ext he.out)
    have HZ0 := Lib.hid he.out.size
    have E9 := Lib.hid (E8.out.trans0 he.out)
    have hz := (rd_len hr.out.2.2).1
    obtain rfl : n2_0 = 0 := hz
    obtain ⟨V0, hV⟩ : ∃ V, w9.alloc (.cells #[.slice A0_0 n0_0 c0_0, .slice A1_0 n1_0 c1_0, .slice A2_0 0 c2_0] 31) = V := ⟨_, rfl⟩
    have eV : Ext Non w9 V0 := by rw [← hV]; exact (Ext.refl Non w9).alloc _
    have BV0 := Lib.hid (heap_alloc_new w9 (.cells #[.slice A0_0 n0_0 c0_0, .slice A1_0 n1_0 c1_0, .slice A2_0 0 c2_0] 31))
    rw [hV] at BV0
    have HV0 := Lib.hid hV
    have EV0 := Lib.hid eV
    have P0 := Lib.hid (And.intro (hr.out.1.ext0 eV) (And.intro (hr.out.2.1.ext0 eV) (hr.out.2.2.ext0 eV)))
    clear hV eV hr he
    go_wp2_with fail
    rw [HV0.out]
    have HL10 := Lib.hid (HL9.out.ext EV0.out)
    have E10 := Lib.hid (E9.out.trans0 EV0.out)
    have XV0_10 : Hid (Ext (Only g) V0 V0) := Ext.refl _ _
    refine (Equal_calls (xs := b) (ys := b) P0.out.2.1 (HB.out.ext0 E10.out)).mono ?_
    rintro e w11 ⟨rfl, rfl⟩
    rw [beq_self_eq_true]
    go_wp2_with fail
    refine (awake_calls _).mono ?_
    rintro e w12 ⟨rfl, he⟩
    have E12 := Lib.hid (E10.out.trans0 he)
    have XV0_12 := Lib.hid (XV0_10.out.trans0 he)
    clear he
    go_wp2_with fail
    go_ret
    exact ⟨rfl, E12.out⟩
end Go.Proofs.Ytpmncppfopbaaaa
