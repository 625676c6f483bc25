/- DiskSynced. -/
import Derived.Test.YtpmncppfopbaaaaC7
namespace Go.Proofs.Ytpmncppfopbaaaa
open Go.RowKit Go.TM

theorem fine_of {l : List TM.Call} (h : l.length ≤ 200 ∧ ∀ k ∈ l, k.b.length ≤ 32768) (ho : ∀ k ∈ l, k.Ok) : Fine l := ⟨by omega, fun k hk => by have := h.2 k hk; omega, ho⟩
theorem Plate.same_self (p : Plate) : Plate.same p p = true := by simp [Plate.same]
theorem fine_good {l : List TM.Call} (hl : Fine l) : ((Dk.new 16777216).run l).Good := (Dk.Good.new (by omega) (by omega)).run hl.ok
theorem synced_plain {l : List TM.Call} (hl : Fine l) (keep tear : Int) : ∃ D1 D2 D3 D4 D5 P, Goes ((Dk.new 16777216).run l).start 0 D1 ∧ Goes (D1.arm 0 0 0) 0 D2 ∧ Goes D2.sync 0 D3 ∧ D3.face = (P, true) ∧ Goes (D3.crash keep tear) 0 D4 ∧ D4.tapeR = ([], 30) ∧ Goes D4.start 0 D5 ∧ D5.face = (P, true) := by
  have h0 := fine_good hl
  have w0 := made_wait 16777216 l hl.n
  generalize (Dk.new 16777216).run l = D0 at h0 w0
  have h1 := h0.on
  have h2 := h1.armed (n := 0) (keep := 0) (tear := 0) (by omega) (by simp [inI]) (by simp [inI]) (by simp [inI])
  have h3 := h2.synced
  have h4 := h3.down keep tear
  refine ⟨D0.on, D0.on.armed 0 0 0, (D0.on.armed 0 0 0).synced, (D0.on.armed 0 0 0).synced.down keep tear, ((D0.on.armed 0 0 0).synced.down keep tear).on, D0.now, goes_start h0 (by omega), goes_arm0 h1 (by show D0.wait.length ≤ _; omega) rfl (by omega) (by simp [inI]) (by simp [inI]) (by simp [inI]), goes_sync h2 rfl rfl, face_on h3 rfl, goes_crash h3 rfl keep tear, ?_, goes_start h4 (by simp [Dk.down]), ?_⟩
  · unfold Dk.tapeR
    have : ((D0.on.armed 0 0 0).synced.down keep tear).able = 30 := able_off (good_room h4) rfl
    rw [this]
    rfl
  · rw [face_on h4.on rfl]
    have : ((D0.on.armed 0 0 0).synced.down keep tear).on.now = D0.now := fell_empty (d := (D0.on.armed 0 0 0).synced) rfl keep tear
    rw [this]
set_option maxHeartbeats 2000000 in
set_option maxRecDepth 100000 in
theorem synced_calls {w : World} {ok : Nat → Prop} {A : Option Addr} {n c : Nat} {l : List TM.Call} (R : Rd callK w ok (.slice A n c) l) (hok : ∀ k ∈ l, k.Ok) (keep tear : Int) :
    Calls Try.prog 3 #[.slice A n c, .int .i64 keep, .int .i64 tear] w fun e w' => e = .returned (.bool true) ∧ Ext Non w w' := by
  have HR := Lib.hid R
  have HO := Lib.hid hok
  clear R hok
  go_enter Try.func3, Try.ntmps3
  go_wp2_with fail
  refine (short_calls HR.out).mono ?_
  rintro e w1 ⟨b, rfl, rfl, hb⟩
  cases b with
  | false =>
    clear hb
    go_wp2_with fail
    refine (awake_calls _).mono ?_
    rintro e w2 ⟨rfl, he⟩
    have E2 := Lib.hid he
    clear he
    go_wp2_with fail
    go_ret
    exact ⟨rfl, E2.out⟩
  | true =>
    have hfine := fine_of (hb rfl) HO.out
    have HFI := Lib.hid hfine
    obtain ⟨D1, D2, D3, D4, D5, P, g1, g2, g3, f3, g4, t4, g5, f5⟩ := synced_plain hfine keep tear
    have G1 := Lib.hid g1
    have G2 := Lib.hid g2
    have G3 := Lib.hid g3
    have F3 := Lib.hid f3
    have G4 := Lib.hid g4
    have T4 := Lib.hid t4
    have G5 := Lib.hid g5
    have F5 := Lib.hid f5
    clear hb hfine g1 g2 g3 f3 g4 t4 g5 f5
    go_wp2_with fail
    refine (made_calls HR.out HFI.out 16777216 (by omega) (by omega)).mono ?_
    rintro e w1 ⟨g, rfl, hg0, hg1, hl, he⟩
    have HG0 := Lib.hid hg0
    have HL1 := Lib.hid hl
    have E1 := Lib.hid he
    clear hg0 hg1 hl he
    go_wp2_with fail
    refine (start_go HL1.out G1.out).mono ?_
    rintro e w2 ⟨rfl, hl, he⟩
    have HL2 := Lib.hid hl
    have E2 := Lib.hid (E1.out.only_new he HG0.out)
    clear hl he
    go_wp2_with fail
    refine (arm_go HL2.out G2.out).mono ?_
    rintro e w3 ⟨rfl, hl, he⟩
    have HL3 := Lib.hid hl
    have E3 := Lib.hid (E2.out.only_new he HG0.out)
    clear hl he
    go_wp2_with fail
    refine (sync_go HL3.out G3.out).mono ?_
    rintro e w4 ⟨rfl, hl, he⟩
    have HL4 := Lib.hid hl
    have E4 := Lib.hid (E3.out.only_new he HG0.out)
    clear hl he
    go_wp2_with fail
    have HGL0 := Lib.hid HL4.out.lt
    refine (face_go HL4.out F3.out).mono ?_
    rintro e w5 ⟨A0_0, n0_0, c0_0, A1_0, n1_0, c1_0, A2_0, n2_0, c2_0, rfl, hr, he⟩
    have HL5 := Lib.hid (HL4.out.ext he.out)
    have HZ0 := Lib.hid he.out.size
    have E5 := Lib.hid (E4.out.trans0 he.out)
    obtain ⟨V0, hV⟩ : ∃ V, w5.alloc (.cells #[.slice A0_0 n0_0 c0_0, .slice A1_0 n1_0 c1_0, .slice A2_0 n2_0 c2_0] 31) = V := ⟨_, rfl⟩
    have eV : Ext Non w5 V0 := by rw [← hV]; exact (Ext.refl Non w5).alloc _
    have BV0 := Lib.hid (heap_alloc_new w5 (.cells #[.slice A0_0 n0_0 c0_0, .slice A1_0 n1_0 c1_0, .slice A2_0 n2_0 c2_0] 31))
    rw [hV] at BV0
    have HV0 := Lib.hid hV
    have EV0 := Lib.hid eV
    have P0 := Lib.hid (And.intro (hr.out.1.ext0 eV) (And.intro (hr.out.2.1.ext0 eV) (hr.out.2.2.ext0 eV)))
    clear hV eV hr he
    go_wp2_with fail
    rw [HV0.out]
    have HL6 := Lib.hid (HL5.out.ext EV0.out)
    have E6 := Lib.hid (E5.out.trans0 EV0.out)
    have XV0_6 : Hid (Ext (Only g) V0 V0) := Ext.refl _ _
    refine (crash_go HL6.out G4.out).mono ?_
    rintro e w7 ⟨rfl, hl, he⟩
    have HL7 := Lib.hid hl
    have E7 := Lib.hid (E6.out.only_new he HG0.out)
    have XV0_7 := Lib.hid (XV0_6.out.trans he (fun _ _ e => e))
    clear hl he
    go_wp2_with fail
    refine (tape_go HL7.out T4.out).mono ?_
    rintro e w8 ⟨A, n, c, rfl, ho, he⟩
    have HL8 := Lib.hid (HL7.out.ext he.out)
    have E8 := Lib.hid (E7.out.trans0 he.out)
    have XV0_8 := Lib.hid (XV0_7.out.trans0 he.out)
    clear ho he
    go_wp2_with fail
    refine (start_go HL8.out G5.out).mono ?_
    rintro e w9 ⟨rfl, hl, he⟩
    have HL9 := Lib.hid hl
    have E9 := Lib.hid (E8.out.only_new he HG0.out)
    have XV0_9 := Lib.hid (XV0_8.out.trans he (fun _ _ e => e))
    clear hl he
    go_wp2_with fail
    have HGL1 := Lib.hid HL9.out.lt
    refine (face_go HL9.out F5.out).mono ?_
    rintro e w10 ⟨A0_1, n0_1, c0_1, A1_1, n1_1, c1_1, A2_1, n2_1, c2_1, rfl, hr, he⟩
    have HL10 := Lib.hid (HL9.out.ext he.out)
    have HZ1 := Lib.hid he.out.size
    have E10 := Lib.hid (E9.out.trans0 he.out)
    have XV0_10 := Lib.hid (XV0_9.out.trans0 he.out)
    have b0 := XV0_10.out.obj BV0.out (fun e => by
      have e1 : w5.heap.size = g := e
      have e2 := HGL0.out
      have e3 := HZ0.out
      omega)
    have f0_0 : w10.cell? ⟨w5.heap.size, 0, none⟩ = some (.slice A0_0 n0_0 c0_0) := blk_cell b0 0
    have f0_1 : w10.cell? ⟨w5.heap.size, 1, none⟩ = some (.slice A1_0 n1_0 c1_0) := blk_cell b0 1
    have f0_2 : w10.cell? ⟨w5.heap.size, 2, none⟩ = some (.slice A2_0 n2_0 c2_0) := blk_cell b0 2
    have hlt0 := blk_lt b0
    clear b0
    obtain ⟨V1, hV⟩ : ∃ V, w10.alloc (.cells #[.slice A0_1 n0_1 c0_1, .slice A1_1 n1_1 c1_1, .slice A2_1 n2_1 c2_1] 31) = V := ⟨_, rfl⟩
    have eV : Ext Non w10 V1 := by rw [← hV]; exact (Ext.refl Non w10).alloc _
    have BV1 := Lib.hid (heap_alloc_new w10 (.cells #[.slice A0_1 n0_1 c0_1, .slice A1_1 n1_1 c1_1, .slice A2_1 n2_1 c2_1] 31))
    rw [hV] at BV1
    have HV1 := Lib.hid hV
    have EV1 := Lib.hid eV
    have P1 := Lib.hid (And.intro (hr.out.1.ext0 eV) (And.intro (hr.out.2.1.ext0 eV) (hr.out.2.2.ext0 eV)))
    clear hV eV hr he
    go_wp2_with fail
    rw [HV1.out]
    have HL11 := Lib.hid (HL10.out.ext EV1.out)
    have E11 := Lib.hid (E10.out.trans0 EV1.out)
    have XV0_11 := Lib.hid (XV0_10.out.trans0 EV1.out)
    have XV1_11 : Hid (Ext (Only g) V1 V1) := Ext.refl _ _
    clear f0_0 f0_1 f0_2 hlt0
    refine (same_calls (p := P) (q := P) ⟨P0.out.1.ext XV0_11.out (fun k hk _ e => by have e1 : k = g := e; have e2 := HGL0.out; have e3 := hk.1; omega), P0.out.2.1.ext XV0_11.out (fun k hk _ e => by have e1 : k = g := e; have e2 := HGL0.out; have e3 := hk.1; omega), P0.out.2.2.ext XV0_11.out (fun k hk _ e => by have e1 : k = g := e; have e2 := HGL0.out; have e3 := hk.1; omega)⟩ ⟨P1.out.1.ext XV1_11.out (fun k hk _ e => by have e1 : k = g := e; have e2 := HGL1.out; have e3 := hk.1; omega), P1.out.2.1.ext XV1_11.out (fun k hk _ e => by have e1 : k = g := e; have e2 := HGL1.out; have e3 := hk.1; omega), P1.out.2.2.ext XV1_11.out (fun k hk _ e => by have e1 : k = g := e; have e2 := HGL1.out; have e3 := hk.1; omega)⟩).mono ?_
    rintro e w12 ⟨rfl, he⟩
    rw [Plate.same_self]
    have E12 := Lib.hid (E11.out.trans0 he)
    have XV0_12 := Lib.hid (XV0_11.out.trans0 he)
    have XV1_12 := Lib.hid (XV1_11.out.trans0 he)
    clear he
    go_wp2_with fail
    refine (awake_calls _).mono ?_
    rintro e w13 ⟨rfl, he⟩
    have E13 := Lib.hid (E12.out.trans0 he)
    have XV0_13 := Lib.hid (XV0_12.out.trans0 he)
    have XV1_13 := Lib.hid (XV1_12.out.trans0 he)
    clear he
    go_wp2_with fail
    go_ret
    exact ⟨rfl, E13.out⟩
end Go.Proofs.Ytpmncppfopbaaaa
