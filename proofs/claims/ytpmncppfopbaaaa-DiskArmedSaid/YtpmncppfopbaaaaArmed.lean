/- DiskArmed. -/
import Derived.Test.YtpmncppfopbaaaaD1
namespace Go.Proofs.Ytpmncppfopbaaaa
open Go.RowKit Go.TM

/-! ### Plain -/
theorem mod20_eq (n : Int) : wrap64 ((IntKind.u64.wrap n).tmod 20) = (n % 18446744073709551616) % 20 := by
  have h : IntKind.u64.wrap n = n % 18446744073709551616 := by
    simp [IntKind.wrap, IntKind.signed, IntKind.bits]
  rw [h, Int.tmod_eq_emod_of_nonneg (by omega)]
  unfold wrap64
  omega
/-- A call that counts. -/
def Acts (k : TM.Call) : Prop := k.kind ≤ 5 ∧ (k.kind = 2 ∨ k.kind = 3 → k.i = 0 ∨ k.i = 1)
theorem acts_cases {k : TM.Call} {K : Int} (hK : k.kind = K) (hk : 0 ≤ K ∧ K ≤ 8) : (5 < K ∨ ((1 < K ∧ K < 4) ∧ (k.i != 0) = true ∧ (k.i != 1) = true)) ∨ Acts k ∧ K ≤ 5 ∧ (K ≤ 1 ∨ (1 < K ∧ 4 ≤ K) ∨ ((1 < K ∧ K < 4) ∧ ((k.i != 0) = false ∨ ((k.i != 0) = true ∧ (k.i != 1) = false)))) := by
  subst hK
  by_cases h5 : 5 < k.kind
  · exact .inl (.inl h5)
  by_cases h1 : 1 < k.kind ∧ k.kind < 4
  · by_cases h0 : k.i = 0
    · exact .inr ⟨⟨by omega, fun _ => .inl h0⟩, by omega, .inr (.inr ⟨h1, .inl (by simp [h0])⟩)⟩
    · by_cases h2 : k.i = 1
      · exact .inr ⟨⟨by omega, fun _ => .inr h2⟩, by omega, .inr (.inr ⟨h1, .inr ⟨by simp [h0], by simp [h2]⟩⟩)⟩
      · exact .inl (.inr ⟨h1, by simp [h0], by simp [h2]⟩)
  · exact .inr ⟨⟨by omega, fun h => absurd h (by omega)⟩, by omega, by omega⟩
def _root_.Go.TM.Dk.eff (d : Dk) (k : TM.Call) : Dk :=
  if k.kind = 2 ∨ k.kind = 3 then d.acted ⟨k.i, k.b⟩ else if k.kind = 4 then d.acted ⟨3, []⟩ else if k.kind = 5 then d.synced else d.acted ⟨2, k.b⟩
theorem eff_armed (d : Dk) (k : TM.Call) (n ke t : Int) : (d.armed n ke t).eff k = (d.eff k).armed n ke t := by
  unfold Dk.eff
  repeat' split
  all_goals rfl
theorem call_eff {d : Dk} {k : TM.Call} {K : Int} (h : d.Good) (ho : d.off = false) (hk : Acts k) (hu : d.Upto K) (hr : K + k.b.length ≤ d.room) : d.call k = Dk.told (d.eff k).fuse := by
  have hab := able_on (good_room h) ho
  have h5 := hk.1
  have hk0 : 0 ≤ k.kind := by unfold TM.Call.kind; omega
  unfold Dk.call Dk.eff
  by_cases h1 : k.kind = 2 ∨ k.kind = 3
  · have hi := hk.2 h1
    have hf : d.fits ((k.b.length : Int) - ((d.now.slot k.i).length : Int)) = true := fits_of hu (n := k.b.length) (by omega) hr
    rw [if_pos h1, if_pos h1]
    unfold Dk.slot
    rw [if_neg (by simp [hab]), if_neg (by omega), if_pos hf]
    rfl
  · rw [if_neg h1, if_neg h1]
    by_cases h4 : k.kind = 4
    · rw [if_pos h4, if_pos h4]
      unfold Dk.clear
      rw [if_neg (by simp [hab])]
      rfl
    · rw [if_neg h4, if_neg h4]
      by_cases h6 : k.kind = 5
      · rw [if_pos h6, if_pos h6]
        unfold Dk.sync
        rw [if_neg (by simp [hab])]
      · have hf : d.fits (k.b.length : Int) = true := fits_of hu (n := k.b.length) (by omega) hr
        rw [if_neg h6, if_neg h6, if_neg (by omega), if_neg (by omega), if_neg (by omega)]
        unfold Dk.append
        rw [if_neg (by simp [hab]), if_pos hf]
        rfl
theorem eff_flat (d : Dk) (k : TM.Call) : (d.eff k).off = d.off ∧ (d.eff k).left = d.left ∧ (d.eff k).room = d.room ∧ (d.eff k).wait.length ≤ d.wait.length + 1 := by
  unfold Dk.eff
  repeat' split
  all_goals exact ⟨rfl, rfl, rfl, by simp [Dk.acted, Dk.synced]⟩
structure Step (B : Dk) : Prop where
  good : B.Good
  off : B.off = false
  left : B.left = 0
  room : B.room = 16777216
theorem armed_start {l : List TM.Call} (hl : Fine l) (hs : l.length ≤ 200 ∧ ∀ k ∈ l, k.b.length ≤ 32768) : ∃ D1 D2, Goes ((Dk.new 16777216).run l).start 0 D1 ∧ Goes (D1.arm 0 0 0) 0 D2 ∧ (Step D2 ∧ D2.Upto 6553600 ∧ D2.wait.length ≤ 1000) := by
  have h0 := fine_good hl
  have w0 := made_wait 16777216 l hl.n
  have u0 := Dk.Upto.made hs.1 hs.2 16777216
  have r0 := made_room l
  generalize (Dk.new 16777216).run l = D0 at h0 w0 u0 r0
  have g2 := goes_arm0 (n := 0) (keep := 0) (tear := 0) h0.on (by show D0.wait.length ≤ _; omega) rfl (by omega) (by simp [inI]) (by simp [inI]) (by simp [inI])
  exact ⟨_, _, goes_start h0 (by omega), g2, ⟨g2.2.2.1, rfl, rfl, r0⟩, u0.on.armed 0 0 0, w0⟩
theorem armed_arm {B : Dk} (h : Step B ∧ B.Upto 6553600 ∧ B.wait.length ≤ 1000) {n keep tear : Int} (h0 : 0 ≤ n) (h1 : n ≤ 100) (hk : inI keep) (ht : inI tear) : Goes (B.arm n keep tear) 0 (B.armed n keep tear) :=
  goes_arm0 h.1.good (by have := h.2.2; omega) h.1.off h0 (by unfold inI; omega) hk ht
theorem armed_step {B : Dk} {j : Nat} {k : TM.Call} {keep tear : Int} {M s : Nat} (h : Step B) (hu : B.Upto (6553600 + 32768 * (j : Int))) (hw : B.wait.length ≤ 1000 + j) (hj : j < 200) (hk : Acts k) (ho : k.Ok) (hb : k.b.length ≤ 32768) (hke : inI keep) (ht : inI tear) (hs : (s : Int) < 1 + (M : Int)) (hM : M < 20) :
    ∃ B', Step B' ∧ B'.Upto (6553600 + 32768 * ((j + 1 : Nat) : Int)) ∧ B'.wait.length ≤ 1000 + (j + 1) ∧ Goes (B.call k) 0 B' ∧
      ((((s : Int) + 1 < 1 + (M : Int)) ∧ Goes ((B.armed (1 + (M : Int) - (s : Int)) keep tear).call k) 0 (B'.armed (1 + (M : Int) - (s : Int) - 1) keep tear)) ∨
       (((s : Int) = (M : Int)) ∧ ∃ A' AO BC BO P, Goes ((B.armed (1 + (M : Int) - (s : Int)) keep tear).call k) 30 A' ∧ Goes (B'.crash keep tear) 0 BC ∧ Goes A'.start 0 AO ∧ Goes BC.start 0 BO ∧ AO.face = (P, true) ∧ BO.face = (P, true))) := by
  have hc := call_eff h.good h.off hk hu (by rw [h.room]; omega)
  obtain ⟨f1, f2, f3, f4⟩ := eff_flat B k
  have hf : Dk.told (B.eff k).fuse = (0, B.eff k) := by
    unfold Dk.fuse
    rw [if_pos (f2.trans h.left)]
    rfl
  rw [hf] at hc
  have hg' : (B.eff k).Good := by
    have := h.good.call ho
    rwa [hc] at this
  have hu' : (B.eff k).Upto (6553600 + 32768 * ((j + 1 : Nat) : Int)) := by
    have := hu.call (c := k) (M := 32768) (by omega) (by omega)
    rw [hc] at this
    exact this.mono (by omega)
  have hA : B.armed (1 + (M : Int) - (s : Int)) keep tear = B.armed (1 + (M : Int) - (s : Int)) keep tear := rfl
  have hga : (B.armed (1 + (M : Int) - (s : Int)) keep tear).Good := h.good.armed (by omega) (by unfold inI; omega) hke ht
  have hca := call_eff (k := k) hga h.off hk (hu.armed _ keep tear) (by show _ ≤ B.room; rw [h.room]; omega)
  rw [eff_armed] at hca
  refine ⟨B.eff k, ⟨hg', f1.trans h.off, f2.trans h.left, f3.trans h.room⟩, hu', by omega, ?_, ?_⟩
  · rw [hc]
    exact ⟨rfl, rfl, hg', by omega⟩
  · rw [hca]
    by_cases h1 : (s : Int) = (M : Int)
    · refine .inr ⟨h1, ?_⟩
      have hl : (1 + (M : Int) - (s : Int)) = 1 := by omega
      have hge : ((B.eff k).armed 1 keep tear).Good := hg'.armed (by omega) (by simp [inI]) hke ht
      have ht0 : ((B.eff k).armed 1 keep tear).tick.Good := hge.tick (by show (1 : Int) ≠ 0; omega)
      have e1 : ((B.eff k).armed 1 keep tear).fuse = (true, ((B.eff k).armed 1 keep tear).tick.down keep tear) := by
        unfold Dk.fuse
        rw [if_neg (show ((B.eff k).armed 1 keep tear).left ≠ 0 by show (1 : Int) ≠ 0; omega), if_pos (show ((B.eff k).armed 1 keep tear).left = 1 from rfl)]
        rfl
      rw [hl, e1, show Dk.told (true, ((B.eff k).armed 1 keep tear).tick.down keep tear) = (30, ((B.eff k).armed 1 keep tear).tick.down keep tear) from rfl]
      have gA := ht0.down keep tear
      have gc := goes_crash hg' (f1.trans h.off) keep tear
      refine ⟨_, _, _, _, ((B.eff k).fell keep tear), ⟨rfl, rfl, gA, by simp [Dk.down, Dk.told]⟩, gc, goes_start gA (by simp [Dk.down]), goes_start gc.2.2.1 (by simp [Dk.down]), ?_, ?_⟩
      · rw [face_on gA.on rfl]
        rfl
      · rw [face_on gc.2.2.1.on rfl]
        rfl
    · refine .inl ⟨by omega, ?_⟩
      have hge : ((B.eff k).armed (1 + (M : Int) - (s : Int)) keep tear).Good := hg'.armed (by omega) (by unfold inI; omega) hke ht
      have e1 : ((B.eff k).armed (1 + (M : Int) - (s : Int)) keep tear).fuse = ((B.eff k).off, ((B.eff k).armed (1 + (M : Int) - (s : Int)) keep tear).tick) := by
        unfold Dk.fuse
        rw [if_neg (show ((B.eff k).armed (1 + (M : Int) - (s : Int)) keep tear).left ≠ 0 by show (1 + (M : Int) - (s : Int)) ≠ 0; omega), if_neg (show ((B.eff k).armed (1 + (M : Int) - (s : Int)) keep tear).left ≠ 1 by show (1 + (M : Int) - (s : Int)) ≠ 1; omega)]
        rfl
      rw [e1, f1.trans h.off]
      exact ⟨rfl, rfl, hge.tick (by show (1 + (M : Int) - (s : Int)) ≠ 0; omega), by show (B.eff k).wait.length ≤ _; omega⟩

set_option maxHeartbeats 4000000 in
set_option maxRecDepth 100000 in
theorem armed_calls {w : World} {ok ok1 : Nat → Prop} {A A1 : Option Addr} {n n1 c c1 : Nat} {l more : List TM.Call} (R : Rd callK w ok (.slice A n c) l) (hok : ∀ k ∈ l, k.Ok)
    (R1 : Rd callK w ok1 (.slice A1 n1 c1) more) (hok1 : ∀ k ∈ more, k.Ok) (nn keep tear : Int) (hkeep : inI keep) (htear : inI tear) :
    Calls Try.prog 8 #[.slice A n c, .slice A1 n1 c1, .int .i64 nn, .int .i64 keep, .int .i64 tear] w fun e w' => e = .returned (.bool true) ∧ Ext Non w w' := by
  have HR := Lib.hid R
  have HR1 := Lib.hid R1
  have HO := Lib.hid hok
  have HO1 := Lib.hid hok1
  have hq : wrap64 ((IntKind.u64.wrap nn).tmod 20) = (nn % 18446744073709551616) % 20 := mod20_eq nn
  obtain ⟨M, hM, hM2⟩ : ∃ M : Nat, (M : Int) = (nn % 18446744073709551616) % 20 ∧ M < 20 := ⟨((nn % 18446744073709551616) % 20).toNat, by omega, by omega⟩
  rw [← hM] at hq
  have m1 : (M : Int) < 20 := by omega
  have HKT : Hid (inI keep ∧ inI tear) := ⟨hkeep, htear⟩
  obtain ⟨hn1, -⟩ := rd_len R1
  have HN1 := Lib.hid hn1
  clear R R1 hok hok1 hn1 hM hM2 hkeep htear
  go_enter Try.func8, Try.ntmps8
  go_wp2_with fail
  refine (short_calls HR.out).mono ?_
  rintro e w1 ⟨s, rfl, rfl, hb⟩
  cases s with
  | false =>
    clear hb
    go_wp2_with fail
    refine (awake_calls _).mono ?_
    rintro e w2 ⟨rfl, he⟩
    have E2 := Lib.hid he
    clear he
    go_wp2_with fail
    go_ret
    exact ⟨rfl, E2.out⟩
  | true =>
    have HS := Lib.hid (hb rfl)
    clear hb
    go_wp2_with fail
    refine (short_calls HR1.out).mono ?_
    rintro e w1 ⟨s, rfl, rfl, hb⟩
    cases s with
    | false =>
      clear hb
      go_wp2_with fail
      refine (awake_calls _).mono ?_
      rintro e w2 ⟨rfl, he⟩
      have E2 := Lib.hid he
      clear he
      go_wp2_with fail
      go_ret
      exact ⟨rfl, E2.out⟩
    | true =>
      have HS1 := Lib.hid (hb rfl)
      clear hb
      have q1 : (n1 : Int) ≤ 200 := by have := HS1.out.1; have := HN1.out; omega
      obtain ⟨D1, D2, g1, g2, hs2⟩ := armed_start (fine_of HS.out HO.out) HS.out
      have G1 := Lib.hid g1
      have G2 := Lib.hid g2
      have HS2 := Lib.hid hs2
      clear g1 g2 hs2
      go_wp2_with fail
      refine (made_calls HR.out (fine_of HS.out HO.out) 16777216 (by omega) (by omega)).mono ?_
      rintro e w1 ⟨ga, rfl, hg0, hg1, hl, he⟩
      have HL1 := Lib.hid hl
      have E1 := Lib.hid he
      have HGa := Lib.hid hg0
      clear hg0 hg1 hl he
      go_wp2_with fail
      refine (start_go HL1.out G1.out).mono ?_
      rintro e w2 ⟨rfl, hl, he⟩
      have HL2 := Lib.hid hl
      have E2 := Lib.hid (E1.out.only_new he HGa.out)
      clear hl he
      go_wp2_with fail
      refine (arm_go HL2.out G2.out).mono ?_
      rintro e w3 ⟨rfl, hl, he⟩
      have HL3 := Lib.hid hl
      have HA0 := Lib.hid (hl.at_.sub (ok' := fun k => k ≠ ga ∧ k < w3.heap.size) (fun k hk h => ⟨hk.2, h⟩))
      have E3 := Lib.hid (E2.out.only_new he HGa.out)
      have GA1 := Lib.hid hl.lt
      clear hl he
      go_wp2_with fail
      refine (Clone_calls HA0.out).mono ?_
      rintro e w4 ⟨rfl, hd, he, hz⟩
      obtain ⟨gb, hgb⟩ : ∃ gb, gb = w3.heap.size := ⟨_, rfl⟩
      rw [← hgb] at hd ⊢
      have GAB : Hid (ga < gb) := by have := GA1.out; show _ < _; omega
      have HGb : Hid (w.heap.size ≤ gb) := by have := HGa.out; have := GAB.out; show _ ≤ _; omega
      have LA0 : Hid (Live w4 (Free ga gb ga gb) ga D2) := Live.of (HA0.out.ext he) HL3.out.good HL3.out.wl (fun k hk _ => ⟨by omega, by omega, by omega, by omega⟩) (fun k hk => by have := GAB.out; exact ⟨by omega, by omega, by omega, by omega⟩) (fun h => h.1 rfl)
      have LB0 : Hid (Live w4 (Free ga gb ga gb) gb D2) := Live.of hd HL3.out.good HL3.out.wl (fun k hk _ => ⟨by omega, by omega, by omega, by omega⟩) (fun k hk => by have := GAB.out; exact ⟨by omega, by omega, by omega, by omega⟩) (fun h => h.2.1 rfl)
      have E4 := Lib.hid (E3.out.trans0 he)
      have NBA : Hid (ga ≠ gb ∧ ¬ Free ga gb ga gb gb) := by have := GAB.out; exact ⟨by omega, fun h => h.2.1 rfl⟩
      have NAB : Hid (gb ≠ ga ∧ ¬ Free ga gb ga gb ga) := by have := GAB.out; exact ⟨by omega, fun h => h.1 rfl⟩
      clear hd he hz hgb HA0
      go_wp2_with fail
      refine (arm_go (n := 1 + (M : Int)) (keep := keep) (tear := tear) LA0.out (armed_arm HS2.out (by omega) (by omega) HKT.out.1 HKT.out.2)).mono ?_
      rintro e w5 ⟨rfl, hl, he⟩
      have LA1 := Lib.hid hl
      have LB1 := Lib.hid (LB0.out.other he NAB.out)
      have E5 := Lib.hid (E4.out.only_new he HGa.out)
      clear hl he
      clear hq
      go_wp2_with fail
      go_loopw [13, 52] (fun t i wr => ∃ s j : Nat, t = .int .i64 s ∧ i = .int .i64 j ∧ j ≤ n1 ∧ s ≤ j ∧ (s : Int) < 1 + (M : Int) ∧ Hid (∃ B, Step B ∧ B.Upto (6553600 + 32768 * (j : Int)) ∧ B.wait.length ≤ 1000 + j ∧ Live wr (Free ga gb ga gb) ga (B.armed (1 + (M : Int) - (s : Int)) keep tear) ∧ Live wr (Free ga gb ga gb) gb B) ∧ Hid (Ext Non w wr)) (fun _ i _ => n1 - (intOf i).toNat)
      case atStart => exact ⟨0, 0, rfl, rfl, by omega, by omega, by omega, ⟨D2, HS2.out.1, HS2.out.2.1.mono (by omega), by have := HS2.out.2.2; omega, by simpa using LA1.out, LB1.out⟩, E5.out⟩
      case round =>
        obtain ⟨s, j, rfl, rfl, hj, hsj, hsM, HI, HEr⟩ := hrel
        by_cases hlt : j < n1
        case neg =>
          obtain rfl : j = n1 := by omega
          go_wp2_with fail
          refine (awake_calls _).mono ?_
          rintro e w6 ⟨rfl, he⟩
          have E6 := Lib.hid (HEr.out.trans0 he)
          clear he
          go_wp2_with fail
          go_ret
          exact ⟨rfl, E6.out⟩
        obtain ⟨B, hst, hup, hwl, hla, hlb⟩ := HI.out
        have HST := Lib.hid hst
        have HUP := Lib.hid hup
        have HBW := Lib.hid hwl
        have LA := Lib.hid hla
        have LB := Lib.hid hlb
        clear hst hup hwl hla hlb
        obtain ⟨k, hx⟩ : ∃ k, more[j]? = some k := ⟨_, List.getElem?_eq_getElem (by have := HN1.out; omega)⟩
        obtain ⟨gl, off, Bs, mb, db, rfl, hgl, e0, e1, e2, e3, e4, hv⟩ := call_at (HR1.out.bound.ext0 HEr.out) hx
        have HV := Lib.hid hv
        have HBY := Lib.hid (HS1.out.2 k (List.mem_of_getElem? hx))
        have HOK := Lib.hid (HO1.out k (List.mem_of_getElem? hx))
        have hq : wrap64 ((IntKind.u64.wrap k.op).tmod 9) = k.kind := kind_eq k.op
        obtain ⟨K, hK⟩ : ∃ K : Int, k.kind = K := ⟨_, rfl⟩
        have hkb : 0 ≤ K ∧ K ≤ 8 := by rw [← hK]; unfold TM.Call.kind; omega
        have HKK := Lib.hid hK
        rw [hK] at hq
        have hcase : (5 < K ∨ ((1 < K ∧ K < 4) ∧ (k.i != 0) = true ∧ (k.i != 1) = true)) ∨ Acts k ∧ K ≤ 5 ∧ (K ≤ 1 ∨ (1 < K ∧ 4 ≤ K) ∨ ((1 < K ∧ K < 4) ∧ ((k.i != 0) = false ∨ ((k.i != 0) = true ∧ (k.i != 1) = false)))) := acts_cases hK hkb
        have eK : Ext Non wr (wr.alloc (.cells #[.int .i64 k.op, .int .i64 k.i, .int .i64 k.keep, .int .i64 k.tear, .slice Bs mb db] 43)) := (Ext.refl Non wr).alloc _
        have HEK := Lib.hid eK
        clear hx hv hK eK
        have s1 : (s : Int) + 1 ≤ 201 := by omega
        rcases hcase with (p1 | ⟨⟨p1, p2⟩, p3, p4⟩) | ⟨hac, p1, hcase⟩
        case inl.inl =>
          go_wp2_with fail
          go_roundw
          case rel => exact ⟨s, j + 1, rfl, by go_num, by omega, by omega, by omega, ⟨B, HST.out, HUP.out.mono (by omega), by have := HBW.out; omega, LA.out.ext HEK.out, LB.out.ext HEK.out⟩, HEr.out.trans0 HEK.out⟩
          case measure => simp [intOf]; omega
        case inl.inr =>
          have p0 : K ≤ 5 := by omega
          go_wp2_with fail
          go_roundw
          case rel => exact ⟨s, j + 1, rfl, by go_num, by omega, by omega, by omega, ⟨B, HST.out, HUP.out.mono (by omega), by have := HBW.out; omega, LA.out.ext HEK.out, LB.out.ext HEK.out⟩, HEr.out.trans0 HEK.out⟩
          case measure => simp [intOf]; omega
        have HAC := Lib.hid hac
        clear hac
        rcases hcase with p2 | ⟨p3, p2⟩ | ⟨⟨p2, p3⟩, p4 | ⟨p4, p5⟩⟩
        all_goals
          clear hkb
          go_wp2_with fail
          obtain ⟨WK, hWK⟩ : ∃ V, wr.alloc (.cells #[.int .i64 k.op, .int .i64 k.i, .int .i64 k.keep, .int .i64 k.tear, .slice Bs mb db] 43) = V := ⟨_, rfl⟩
          have hbk := heap_alloc_new wr (.cells #[.int .i64 k.op, .int .i64 k.i, .int .i64 k.keep, .int .i64 k.tear, .slice Bs mb db] 43)
          rw [hWK] at hbk HEK ⊢
          have eD : Ext Non wr WK.drew := HEK.out.drew
          have HED := Lib.hid eD
          have hbd := eD.size
          have BK := Lib.hid hbk
          have c0 : WK.cell? ⟨wr.heap.size, 0, none⟩ = some (.int .i64 k.op) := blk_cell hbk 0
          have c1 : WK.cell? ⟨wr.heap.size, 1, none⟩ = some (.int .i64 k.i) := blk_cell hbk 1
          have c2 : WK.cell? ⟨wr.heap.size, 2, none⟩ = some (.int .i64 k.keep) := blk_cell hbk 2
          have c3 : WK.cell? ⟨wr.heap.size, 3, none⟩ = some (.int .i64 k.tear) := blk_cell hbk 3
          have c4 : WK.cell? ⟨wr.heap.size, 4, none⟩ = some (.slice Bs mb db) := blk_cell hbk 4
          have LAK := Lib.hid (LA.out.ext eD)
          have LBK := Lib.hid (LB.out.ext eD)
          have HVK := Lib.hid (HV.out.ext0 eD)
          have EK := Lib.hid (HEr.out.trans0 eD)
          have GLA : Hid (wr.heap.size ≠ ga) := by have := LA.out.lt; show _ ≠ _; omega
          have GLB : Hid (wr.heap.size ≠ gb) := by have := LB.out.lt; show _ ≠ _; omega
          clear hWK hbk eD hbd hgl e0 e1 e2 e3 e4
          obtain ⟨B', hst', hup', hwl', gb', hor⟩ := armed_step HST.out HUP.out HBW.out (by omega) HAC.out HOK.out HBY.out HKT.out.1 HKT.out.2 (M := M) (s := s) hsM (by omega)
          have HST' := Lib.hid hst'
          have HUP' := Lib.hid hup'
          have HBW' := Lib.hid hwl'
          have GB' := Lib.hid gb'
          clear hst' hup' hwl' gb'
          rcases hor with ⟨p8, ga'⟩ | ⟨p8, A', AO, BC, BO, P, ga', gc, gsa, gsb, fa, fb⟩
          · have GA' := Lib.hid ga'
            clear ga'
            refine Last.start_ (S := fun W => W.cell? ⟨wr.heap.size, 0, none⟩ = some (.int .i64 k.op) ∧ W.cell? ⟨wr.heap.size, 1, none⟩ = some (.int .i64 k.i) ∧ W.cell? ⟨wr.heap.size, 2, none⟩ = some (.int .i64 k.keep) ∧ W.cell? ⟨wr.heap.size, 3, none⟩ = some (.int .i64 k.tear) ∧ W.cell? ⟨wr.heap.size, 4, none⟩ = some (.slice Bs mb db)) (ds := []) #[false, false, false, false, false, false, false, false] (by kernel_rfl) (by rfl) (by rfl) ⟨c0, c1, c2, c3, c4⟩ (fun hS => ?_)
            refine Last.take_ (i := 0) (N := some 90) (v := .pointer (some ⟨ga, 0, none⟩)) #[true, false, false, false, false, false, false, false] (by simp only [List.getElem?_toArray, List.getElem?_cons_zero]; rfl) rfl (by kernel_rfl) (by exact fun _ _ _ h => h) (Or.inl ⟨by rfl, fun W hW => by first | rfl | (try dsimp only at hW); go_simp⟩) hS rfl ?_
            simp only [Act.put, List.setIfInBounds_toArray, List.set_cons_zero, List.set_cons_succ]
            refine Last.take_ (i := 1) (N := some 91) (v := .agg #[.int .i64 k.op, .int .i64 k.i, .int .i64 k.keep, .int .i64 k.tear, .slice Bs mb db]) #[true, true, false, false, false, false, false, false] (by simp only [List.getElem?_toArray, List.getElem?_cons_zero, List.getElem?_cons_succ]; rfl) rfl (by kernel_rfl) (by exact fun _ _ _ h => h) (Or.inl ⟨by rfl, fun W hW => by first | rfl | (try dsimp only at hW); go_simp⟩) hS rfl ?_
            simp only [Act.put, List.setIfInBounds_toArray, List.set_cons_zero, List.set_cons_succ]
            refine Last.take_ (i := 3) (N := some 93) (v := .pointer (some ⟨gb, 0, none⟩)) #[true, true, false, true, false, false, false, false] (by simp only [List.getElem?_toArray, List.getElem?_cons_zero, List.getElem?_cons_succ]; rfl) rfl (by kernel_rfl) (by exact fun _ _ _ h => h) (Or.inl ⟨by rfl, fun W hW => by first | rfl | (try dsimp only at hW); go_simp⟩) hS rfl ?_
            simp only [Act.put, List.setIfInBounds_toArray, List.set_cons_zero, List.set_cons_succ]
            refine Last.take_ (i := 4) (N := some 94) (v := .agg #[.int .i64 k.op, .int .i64 k.i, .int .i64 k.keep, .int .i64 k.tear, .slice Bs mb db]) #[true, true, false, true, true, false, false, false] (by simp only [List.getElem?_toArray, List.getElem?_cons_zero, List.getElem?_cons_succ]; rfl) rfl (by kernel_rfl) (by exact fun _ _ _ h => h) (Or.inl ⟨by rfl, fun W hW => by first | rfl | (try dsimp only at hW); go_simp⟩) hS rfl ?_
            simp only [Act.put, List.setIfInBounds_toArray, List.set_cons_zero, List.set_cons_succ]
            refine Last.one_ (i := 2) (N := some 92) #[true, true, true, true, true, false, false, false] (by simp only [List.getElem?_toArray, List.getElem?_cons_zero, List.getElem?_cons_succ]; rfl) rfl (by kernel_rfl) (by decide) (fun K hK => ?_)
            refine Last.goes_ Try.func23 (by kernel_rfl) rfl #[.pointer (some ⟨ga, 0, none⟩), .agg #[.int .i64 k.op, .int .i64 k.i, .int .i64 k.keep, .int .i64 k.tear, .slice Bs mb db]] (by rfl) rfl rfl (by simp [Act.eval]) ?_
            refine (does_go LAK.out (k := k) HVK.out (by have := HBY.out; omega) GA'.out).mono ?_
            rintro e w7 ⟨rfl, hl, he⟩
            have LA7 := Lib.hid hl
            have LB7 := Lib.hid (LBK.out.other he NAB.out)
            have E7 := Lib.hid (EK.out.only_new he HGa.out)
            have c0 := he.cell c0 GLA.out
            have c1 := he.cell c1 GLA.out
            have c2 := he.cell c2 GLA.out
            have c3 := he.cell c3 GLA.out
            have c4 := he.cell c4 GLA.out
            have HV7 := Lib.hid (HVK.out.ext he (fun k hk _ e => by have e1 : k = ga := e; have e2 := hk.2; have e3 := HGa.out; omega))
            clear hl he
            refine ⟨_, rfl, ?_⟩
            refine hK.out _ _ ⟨c0, c1, c2, c3, c4⟩ (fun hS => ?_)
            try simp only [Act.put, List.setIfInBounds_toArray, List.set_cons_zero, List.set_cons_succ]
            refine Last.one_ (i := 5) (N := some 95) #[true, true, true, true, true, true, false, false] (by simp only [List.getElem?_toArray, List.getElem?_cons_zero, List.getElem?_cons_succ]; rfl) rfl (by kernel_rfl) (by decide) (fun K hK => ?_)
            refine Last.goes_ Try.func23 (by kernel_rfl) rfl #[.pointer (some ⟨gb, 0, none⟩), .agg #[.int .i64 k.op, .int .i64 k.i, .int .i64 k.keep, .int .i64 k.tear, .slice Bs mb db]] (by rfl) rfl rfl (by simp [Act.eval]) ?_
            refine (does_go LB7.out (k := k) (HV7.out) (by have := HBY.out; omega) GB'.out).mono ?_
            rintro e w8 ⟨rfl, hl, he⟩
            have LB8 := Lib.hid hl
            have LA8 := Lib.hid (LA7.out.other he NBA.out)
            have E8 := Lib.hid (E7.out.only_new he HGb.out)
            have c0 := he.cell c0 GLB.out
            have c1 := he.cell c1 GLB.out
            have c2 := he.cell c2 GLB.out
            have c3 := he.cell c3 GLB.out
            have c4 := he.cell c4 GLB.out
            clear hl he
            refine ⟨_, rfl, ?_⟩
            refine hK.out _ _ ⟨c0, c1, c2, c3, c4⟩ (fun hS => ?_)
            try simp only [Act.put, List.setIfInBounds_toArray, List.set_cons_zero, List.set_cons_succ]
            refine Last.take_ (i := 6) (N := some 16) (v := .int .i64 0) #[true, true, true, true, true, true, true, false] (by simp only [List.getElem?_toArray, List.getElem?_cons_zero, List.getElem?_cons_succ]; rfl) rfl (by kernel_rfl) (by exact fun _ _ _ h => h) (Or.inl ⟨by rfl, fun W hW => by first | rfl | (try dsimp only at hW); go_simp⟩) hS rfl ?_
            simp only [Act.put, List.setIfInBounds_toArray, List.set_cons_zero, List.set_cons_succ]
            refine Last.take_ (i := 7) (N := some 17) (v := .int .i64 0) #[true, true, true, true, true, true, true, true] (by simp only [List.getElem?_toArray, List.getElem?_cons_zero, List.getElem?_cons_succ]; rfl) rfl (by kernel_rfl) (by exact fun _ _ _ h => h) (Or.inl ⟨by rfl, fun W hW => by first | rfl | (try dsimp only at hW); go_simp⟩) hS rfl ?_
            simp only [Act.put, List.setIfInBounds_toArray, List.set_cons_zero, List.set_cons_succ]
            refine Last.done_ (by kernel_rfl) ?_
            clear c0 c1 c2 c3 c4 hS
            go_wp2_with fail
            go_roundw
            case rel => exact ⟨s + 1, j + 1, by go_num, by go_num, by omega, by omega, by omega, ⟨B', HST'.out, HUP'.out, HBW'.out, by rw [show (1 + (M : Int) - ((s + 1 : Nat) : Int)) = 1 + (M : Int) - (s : Int) - 1 from by omega]; exact LA8.out, LB8.out⟩, E8.out⟩
            case measure => simp [intOf]; omega
          · have GA' := Lib.hid ga'
            have GC := Lib.hid gc
            have GSA := Lib.hid gsa
            have GSB := Lib.hid gsb
            have FA := Lib.hid fa
            have FB := Lib.hid fb
            clear ga' gc gsa gsb fa fb
            refine Last.start_ (S := fun W => W.cell? ⟨wr.heap.size, 0, none⟩ = some (.int .i64 k.op) ∧ W.cell? ⟨wr.heap.size, 1, none⟩ = some (.int .i64 k.i) ∧ W.cell? ⟨wr.heap.size, 2, none⟩ = some (.int .i64 k.keep) ∧ W.cell? ⟨wr.heap.size, 3, none⟩ = some (.int .i64 k.tear) ∧ W.cell? ⟨wr.heap.size, 4, none⟩ = some (.slice Bs mb db)) (ds := []) #[false, false, false, false, false, false, false, false] (by kernel_rfl) (by rfl) (by rfl) ⟨c0, c1, c2, c3, c4⟩ (fun hS => ?_)
            refine Last.take_ (i := 0) (N := some 90) (v := .pointer (some ⟨ga, 0, none⟩)) #[true, false, false, false, false, false, false, false] (by simp only [List.getElem?_toArray, List.getElem?_cons_zero]; rfl) rfl (by kernel_rfl) (by exact fun _ _ _ h => h) (Or.inl ⟨by rfl, fun W hW => by first | rfl | (try dsimp only at hW); go_simp⟩) hS rfl ?_
            simp only [Act.put, List.setIfInBounds_toArray, List.set_cons_zero, List.set_cons_succ]
            refine Last.take_ (i := 1) (N := some 91) (v := .agg #[.int .i64 k.op, .int .i64 k.i, .int .i64 k.keep, .int .i64 k.tear, .slice Bs mb db]) #[true, true, false, false, false, false, false, false] (by simp only [List.getElem?_toArray, List.getElem?_cons_zero, List.getElem?_cons_succ]; rfl) rfl (by kernel_rfl) (by exact fun _ _ _ h => h) (Or.inl ⟨by rfl, fun W hW => by first | rfl | (try dsimp only at hW); go_simp⟩) hS rfl ?_
            simp only [Act.put, List.setIfInBounds_toArray, List.set_cons_zero, List.set_cons_succ]
            refine Last.take_ (i := 3) (N := some 93) (v := .pointer (some ⟨gb, 0, none⟩)) #[true, true, false, true, false, false, false, false] (by simp only [List.getElem?_toArray, List.getElem?_cons_zero, List.getElem?_cons_succ]; rfl) rfl (by kernel_rfl) (by exact fun _ _ _ h => h) (Or.inl ⟨by rfl, fun W hW => by first | rfl | (try dsimp only at hW); go_simp⟩) hS rfl ?_
            simp only [Act.put, List.setIfInBounds_toArray, List.set_cons_zero, List.set_cons_succ]
            refine Last.take_ (i := 4) (N := some 94) (v := .agg #[.int .i64 k.op, .int .i64 k.i, .int .i64 k.keep, .int .i64 k.tear, .slice Bs mb db]) #[true, true, false, true, true, false, false, false] (by simp only [List.getElem?_toArray, List.getElem?_cons_zero, List.getElem?_cons_succ]; rfl) rfl (by kernel_rfl) (by exact fun _ _ _ h => h) (Or.inl ⟨by rfl, fun W hW => by first | rfl | (try dsimp only at hW); go_simp⟩) hS rfl ?_
            simp only [Act.put, List.setIfInBounds_toArray, List.set_cons_zero, List.set_cons_succ]
            refine Last.one_ (i := 2) (N := some 92) #[true, true, true, true, true, false, false, false] (by simp only [List.getElem?_toArray, List.getElem?_cons_zero, List.getElem?_cons_succ]; rfl) rfl (by kernel_rfl) (by decide) (fun K hK => ?_)
            refine Last.goes_ Try.func23 (by kernel_rfl) rfl #[.pointer (some ⟨ga, 0, none⟩), .agg #[.int .i64 k.op, .int .i64 k.i, .int .i64 k.keep, .int .i64 k.tear, .slice Bs mb db]] (by rfl) rfl rfl (by simp [Act.eval]) ?_
            refine (does_go LAK.out (k := k) HVK.out (by have := HBY.out; omega) GA'.out).mono ?_
            rintro e w7 ⟨rfl, hl, he⟩
            have LA7 := Lib.hid hl
            have LB7 := Lib.hid (LBK.out.other he NAB.out)
            have E7 := Lib.hid (EK.out.only_new he HGa.out)
            have c0 := he.cell c0 GLA.out
            have c1 := he.cell c1 GLA.out
            have c2 := he.cell c2 GLA.out
            have c3 := he.cell c3 GLA.out
            have c4 := he.cell c4 GLA.out
            have HV7 := Lib.hid (HVK.out.ext he (fun k hk _ e => by have e1 : k = ga := e; have e2 := hk.2; have e3 := HGa.out; omega))
            clear hl he
            refine ⟨_, rfl, ?_⟩
            refine hK.out _ _ ⟨c0, c1, c2, c3, c4⟩ (fun hS => ?_)
            try simp only [Act.put, List.setIfInBounds_toArray, List.set_cons_zero, List.set_cons_succ]
            refine Last.one_ (i := 5) (N := some 95) #[true, true, true, true, true, true, false, false] (by simp only [List.getElem?_toArray, List.getElem?_cons_zero, List.getElem?_cons_succ]; rfl) rfl (by kernel_rfl) (by decide) (fun K hK => ?_)
            refine Last.goes_ Try.func23 (by kernel_rfl) rfl #[.pointer (some ⟨gb, 0, none⟩), .agg #[.int .i64 k.op, .int .i64 k.i, .int .i64 k.keep, .int .i64 k.tear, .slice Bs mb db]] (by rfl) rfl rfl (by simp [Act.eval]) ?_
            refine (does_go LB7.out (k := k) (HV7.out) (by have := HBY.out; omega) GB'.out).mono ?_
            rintro e w8 ⟨rfl, hl, he⟩
            have LB8 := Lib.hid hl
            have LA8 := Lib.hid (LA7.out.other he NBA.out)
            have E8 := Lib.hid (E7.out.only_new he HGb.out)
            have c0 := he.cell c0 GLB.out
            have c1 := he.cell c1 GLB.out
            have c2 := he.cell c2 GLB.out
            have c3 := he.cell c3 GLB.out
            have c4 := he.cell c4 GLB.out
            clear hl he
            refine ⟨_, rfl, ?_⟩
            refine hK.out _ _ ⟨c0, c1, c2, c3, c4⟩ (fun hS => ?_)
            try simp only [Act.put, List.setIfInBounds_toArray, List.set_cons_zero, List.set_cons_succ]
            refine Last.take_ (i := 6) (N := some 16) (v := .int .i64 30) #[true, true, true, true, true, true, true, false] (by simp only [List.getElem?_toArray, List.getElem?_cons_zero, List.getElem?_cons_succ]; rfl) rfl (by kernel_rfl) (by exact fun _ _ _ h => h) (Or.inl ⟨by rfl, fun W hW => by first | rfl | (try dsimp only at hW); go_simp⟩) hS rfl ?_
            simp only [Act.put, List.setIfInBounds_toArray, List.set_cons_zero, List.set_cons_succ]
            refine Last.take_ (i := 7) (N := some 17) (v := .int .i64 0) #[true, true, true, true, true, true, true, true] (by simp only [List.getElem?_toArray, List.getElem?_cons_zero, List.getElem?_cons_succ]; rfl) rfl (by kernel_rfl) (by exact fun _ _ _ h => h) (Or.inl ⟨by rfl, fun W hW => by first | rfl | (try dsimp only at hW); go_simp⟩) hS rfl ?_
            simp only [Act.put, List.setIfInBounds_toArray, List.set_cons_zero, List.set_cons_succ]
            refine Last.done_ (by kernel_rfl) ?_
            clear c0 c1 c2 c3 c4 hS
            go_wp2_with fail
            refine (crash_go LB8.out GC.out).mono ?_
            rintro e w9 ⟨rfl, hl, he⟩
            have HLb9 := Lib.hid hl
            have E9 := Lib.hid (E8.out.only_new he HGb.out)
            have HLa9 := Lib.hid (LA8.out.other he NBA.out)
            clear hl he
            go_wp2_with fail
            refine (start_go HLa9.out GSA.out).mono ?_
            rintro e w10 ⟨rfl, hl, he⟩
            have HLa10 := Lib.hid hl
            have E10 := Lib.hid (E9.out.only_new he HGa.out)
            have HLb10 := Lib.hid (HLb9.out.other he NAB.out)
            clear hl he
            go_wp2_with fail
            refine (start_go HLb10.out GSB.out).mono ?_
            rintro e w11 ⟨rfl, hl, he⟩
            have HLb11 := Lib.hid hl
            have E11 := Lib.hid (E10.out.only_new he HGb.out)
            have HLa11 := Lib.hid (HLa10.out.other he NBA.out)
            clear hl he
            go_wp2_with fail
            have HGF0a := Lib.hid HLa11.out.lt
            have HGF0b := Lib.hid HLb11.out.lt
            refine (face_go HLa11.out FA.out).mono ?_
            rintro e w12 ⟨A0_0, n0_0, c0_0, A1_0, n1_0, c1_0, A2_0, n2_0, c2_0, rfl, hr, he⟩
            have E12 := Lib.hid (E11.out.trans0 he.out)
            have HLa12 := Lib.hid (HLa11.out.ext he.out)
            have HLb12 := Lib.hid (HLb11.out.ext he.out)
            have hzf := he.out.size
            obtain ⟨VF0, hV⟩ : ∃ V, w12.alloc (.cells #[.slice A0_0 n0_0 c0_0, .slice A1_0 n1_0 c1_0, .slice A2_0 n2_0 c2_0] 31) = V := ⟨_, rfl⟩
            have eV : Ext Non w12 VF0 := by rw [← hV]; exact (Ext.refl Non w12).alloc _
            have BVF0 := Lib.hid (heap_alloc_new w12 (.cells #[.slice A0_0 n0_0 c0_0, .slice A1_0 n1_0 c1_0, .slice A2_0 n2_0 c2_0] 31))
            rw [hV] at BVF0
            have HVF0 := Lib.hid hV
            have EVF0 := Lib.hid eV
            clear hV eV
            have HGLF0a := Lib.hid HLa12.out.lt
            have HGLF0b := Lib.hid HLb12.out.lt
            have P0 := Lib.hid (And.intro (hr.out.1.ext0 EVF0.out) (And.intro (hr.out.2.1.ext0 EVF0.out) (hr.out.2.2.ext0 EVF0.out)))
            clear hr he hzf
            go_wp2_with fail
            rw [HVF0.out]
            have E13 := Lib.hid (E12.out.trans0 EVF0.out)
            have HLa13 := Lib.hid (HLa12.out.ext EVF0.out)
            have HLb13 := Lib.hid (HLb12.out.ext EVF0.out)
            have XF0_13 : Hid (Ext (Four ga gb ga gb) VF0 VF0) := Ext.refl _ _
            have HGF1a := Lib.hid HLa13.out.lt
            have HGF1b := Lib.hid HLb13.out.lt
            refine (face_go HLb13.out FB.out).mono ?_
            rintro e w14 ⟨A0_1, n0_1, c0_1, A1_1, n1_1, c1_1, A2_1, n2_1, c2_1, rfl, hr, he⟩
            have E14 := Lib.hid (E13.out.trans0 he.out)
            have HLa14 := Lib.hid (HLa13.out.ext he.out)
            have HLb14 := Lib.hid (HLb13.out.ext he.out)
            have XF0_14 := Lib.hid (XF0_13.out.trans0 he.out)
            have hzf := he.out.size
            obtain ⟨VF1, hV⟩ : ∃ V, w14.alloc (.cells #[.slice A0_1 n0_1 c0_1, .slice A1_1 n1_1 c1_1, .slice A2_1 n2_1 c2_1] 31) = V := ⟨_, rfl⟩
            have eV : Ext Non w14 VF1 := by rw [← hV]; exact (Ext.refl Non w14).alloc _
            have BVF1 := Lib.hid (heap_alloc_new w14 (.cells #[.slice A0_1 n0_1 c0_1, .slice A1_1 n1_1 c1_1, .slice A2_1 n2_1 c2_1] 31))
            rw [hV] at BVF1
            have HVF1 := Lib.hid hV
            have EVF1 := Lib.hid eV
            clear hV eV
            have HGLF1a := Lib.hid HLa14.out.lt
            have HGLF1b := Lib.hid HLb14.out.lt
            have P1 := Lib.hid (And.intro (hr.out.1.ext0 EVF1.out) (And.intro (hr.out.2.1.ext0 EVF1.out) (hr.out.2.2.ext0 EVF1.out)))
            clear hr he hzf
            have bF0 := XF0_14.out.obj BVF0.out (fun e => by have e1 : w12.heap.size = ga ∨ w12.heap.size = gb ∨ w12.heap.size = ga ∨ w12.heap.size = gb := e; have := HGLF0a.out; have := HGLF0b.out; omega)
            have fF0_0 : w14.cell? ⟨w12.heap.size, 0, none⟩ = some (.slice A0_0 n0_0 c0_0) := blk_cell bF0 0
            have fF0_1 : w14.cell? ⟨w12.heap.size, 1, none⟩ = some (.slice A1_0 n1_0 c1_0) := blk_cell bF0 1
            have fF0_2 : w14.cell? ⟨w12.heap.size, 2, none⟩ = some (.slice A2_0 n2_0 c2_0) := blk_cell bF0 2
            have hltF0 := blk_lt bF0
            clear bF0
            go_wp2_with fail
            rw [HVF1.out]
            have E15 := Lib.hid (E14.out.trans0 EVF1.out)
            have HLa15 := Lib.hid (HLa14.out.ext EVF1.out)
            have HLb15 := Lib.hid (HLb14.out.ext EVF1.out)
            have XF0_15 := Lib.hid (XF0_14.out.trans0 EVF1.out)
            have XF1_15 : Hid (Ext (Four ga gb ga gb) VF1 VF1) := Ext.refl _ _
            clear fF0_0 fF0_1 fF0_2 hltF0
            refine (same_calls (p := P) (q := P) ⟨P0.out.1.ext XF0_15.out (fun k hk _ e => by have e1 : k = ga ∨ k = gb ∨ k = ga ∨ k = gb := e; have := HGF0a.out; have := HGF0b.out; have e3 := hk.1; omega), P0.out.2.1.ext XF0_15.out (fun k hk _ e => by have e1 : k = ga ∨ k = gb ∨ k = ga ∨ k = gb := e; have := HGF0a.out; have := HGF0b.out; have e3 := hk.1; omega), P0.out.2.2.ext XF0_15.out (fun k hk _ e => by have e1 : k = ga ∨ k = gb ∨ k = ga ∨ k = gb := e; have := HGF0a.out; have := HGF0b.out; have e3 := hk.1; omega)⟩ ⟨P1.out.1.ext XF1_15.out (fun k hk _ e => by have e1 : k = ga ∨ k = gb ∨ k = ga ∨ k = gb := e; have := HGF1a.out; have := HGF1b.out; have e3 := hk.1; omega), P1.out.2.1.ext XF1_15.out (fun k hk _ e => by have e1 : k = ga ∨ k = gb ∨ k = ga ∨ k = gb := e; have := HGF1a.out; have := HGF1b.out; have e3 := hk.1; omega), P1.out.2.2.ext XF1_15.out (fun k hk _ e => by have e1 : k = ga ∨ k = gb ∨ k = ga ∨ k = gb := e; have := HGF1a.out; have := HGF1b.out; have e3 := hk.1; omega)⟩).mono ?_
            rintro e w16 ⟨rfl, he⟩
            rw [Plate.same_self]
            have E16 := Lib.hid (E15.out.trans0 he)
            have HLa16 := Lib.hid (HLa15.out.ext he)
            have HLb16 := Lib.hid (HLb15.out.ext he)
            have XF0_16 := Lib.hid (XF0_15.out.trans0 he)
            have XF1_16 := Lib.hid (XF1_15.out.trans0 he)
            clear he
            go_wp2_with fail
            refine (awake_calls _).mono ?_
            rintro e w17 ⟨rfl, he⟩
            have E17 := Lib.hid (E16.out.trans0 he)
            have HLa17 := Lib.hid (HLa16.out.ext he)
            have HLb17 := Lib.hid (HLb16.out.ext he)
            have XF0_17 := Lib.hid (XF0_16.out.trans0 he)
            have XF1_17 := Lib.hid (XF1_16.out.trans0 he)
            clear he
            go_wp2_with fail
            go_ret
            exact ⟨rfl, E17.out⟩
end Go.Proofs.Ytpmncppfopbaaaa
