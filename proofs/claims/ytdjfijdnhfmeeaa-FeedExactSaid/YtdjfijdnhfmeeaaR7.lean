/- The law's example. -/
import Derived.Test.YtdjfijdnhfmeeaaR6
import Derived.Test.YtdjfijdnhfmeeaaM7
namespace Go.Proofs.Ytdjfijdnhfmeeaa
open Go.RowKit Go.TM
def qA : Flt := .mk 0 ⟨#[]⟩ ⟨#[]⟩ []
def evC (c : UInt8) (p : Int) : Ev := ⟨p, ⟨#[c]⟩, false, ⟨#[]⟩, false, ⟨#[]⟩⟩
def aw1 : Fdr := ⟨[], [⟨1, 0, 0, qA, false⟩], 2, 0⟩
def aw2 : Fdr := ⟨[evC 97 5, evC 98 5], [⟨1, 0, 0, qA, false⟩], 2, 5⟩
def aw3 : Fdr := ⟨[evC 97 5, evC 98 5], [⟨1, 0, 0, qA, false⟩], 2, 6⟩
def aw4 : Fdr := ⟨[evC 97 5, evC 98 5, evC 99 7], [⟨1, 0, 0, qA, false⟩], 2, 7⟩
def aw5 : Fdr := ⟨[evC 99 7], [⟨1, 0, 6, qA, false⟩], 2, 7⟩
set_option maxRecDepth 100000 in
theorem aw_add : addR 0 newD qA = ((1, 0), aw1) := by kernel_rfl
set_option maxRecDepth 100000 in
theorem aw_n1 : noteR aw1 5 [evC 97 0, evC 98 0] = (0, aw2) := by kernel_rfl
set_option maxRecDepth 100000 in
theorem aw_n2 : noteR aw2 6 [] = (0, aw3) := by kernel_rfl
set_option maxRecDepth 100000 in
theorem aw_n3 : noteR aw3 7 [evC 99 0] = (0, aw4) := by kernel_rfl
set_option maxRecDepth 100000 in
theorem aw_r1 : readR 0 aw4 1 0 1 = ([evC 97 5, evC 98 5], 5, 0) := by kernel_rfl
set_option maxRecDepth 100000 in
theorem aw_r2 : readR 0 aw4 1 5 9 = ([evC 99 7], 7, 0) := by kernel_rfl
set_option maxRecDepth 100000 in
theorem aw_a1 : ackR aw4 1 6 = (0, aw5) := by kernel_rfl
set_option maxRecDepth 100000 in
theorem aw_a2 : ackR aw5 1 5 = (82, aw5) := by kernel_rfl
theorem okf_qA : okF 1 qA := ⟨by unfold inI; decide, by decide, by decide, by decide, fun k hk => by cases hk⟩
theorem okk_qA : okK 1 qA := ⟨by decide, fun k hk => by cases hk⟩
theorem aw_ok {D : Fdr} (h : D.subs = [⟨1, 0, 0, qA, false⟩]) : ∀ s ∈ D.subs, okF (0 + 1) s.q := by
  intro s hs
  rw [h, List.mem_singleton] at hs
  subst hs
  exact okf_qA
set_option maxRecDepth 100000 in
set_option maxHeartbeats 8000000 in
theorem awake_calls (w : World) : Calls Try.prog 13 #[] w fun e w' => e = .returned (.bool true) ∧ Ext Non w w' := by
  obtain ⟨g, hg⟩ : ∃ g, w.heap.size = g := ⟨_, rfl⟩
  obtain ⟨ok, hok⟩ : ∃ ok : Nat → Prop, ok = fun k => g < k := ⟨_, rfl⟩
  have FR : Hid (∀ w1 : World, g < w1.heap.size → Fresh ok w1) := fun w1 h k hk => by rw [hok]; show g < k; omega
  have HNO : Hid (¬ ok g) := by rw [hok]; exact Nat.lt_irrefl _
  have HKO : Hid (∀ k, g < k → ok k) := fun k h => by rw [hok]; exact h
  clear hok
  go_enter Try.func13, Try.ntmps13
  go_wp2_with fail
  refine (New_calls (n := 0) (ok := ok) (by rw [hg]; exact HNO.out)).mono ?_
  rintro e w1 ⟨rfl, hf1, he1⟩
  rw [hg] at hf1 ⊢
  have F1 := Lib.hid hf1
  have E1 := Lib.hid he1
  have hl1 : g < w1.heap.size := by
    obtain ⟨se, ss, hb⟩ := hf1.blk
    exact blk_lt hb
  clear hf1 he1
  go_wp2_with fail
  refine (Add_calls (n := 0) (okX := fun _ => False) (f := qA) F1.out (by decide) (by decide) (FR.out _ hl1) ⟨_, rfl, Rd.nil _ _ _⟩ okf_qA okk_qA).mono ?_
  rintro e w2 ⟨rfl, hf2, he2⟩
  rw [aw_add] at hf2 ⊢
  have F2 : Hid (Fd 0 ok w2 g aw1) := hf2
  have E2 : Hid (Ext (Only g) w w2) := E1.out.of0.trans he2 (fun _ _ h => h)
  have hl2 := Nat.lt_of_lt_of_le hl1 he2.size
  clear hf2 he2
  go_wp2_with fail
  have R2 : Rd evK (w2.alloc (.cells ([evC 97 0, evC 98 0].flatMap Ev.cells).toArray 43)) ok (.slice (some ⟨w2.heap.size, 0, none⟩) 2 2) [evC 97 0, evC 98 0] :=
    (Own.lit (d := evK) (e := 43) (base := 0) (w := w2) (ok := ok) (Reps.flat [evC 97 0, evC 98 0]) (Nat.zero_le _) (by decide) (HKO.out _ hl2)).rd
  refine (Note_calls (n := 0) (l := [evC 97 0, evC 98 0]) (F2.out.ext0 ((Ext.refl Non w2).alloc _)) (by decide) (by decide) (by decide) (FR.out _ (by simp; omega)) R2 HNO.out (by decide) 5).mono ?_
  rintro e w3 ⟨rfl, hf3, he3⟩
  rw [aw_n1] at hf3 ⊢
  have F3 : Hid (Fd 0 ok w3 g aw2) := hf3
  have E3 : Hid (Ext (Only g) w w3) := E2.out.trans (((Ext.refl (Only g) w2).alloc _).trans he3 (fun _ _ h => h)) (fun _ _ h => h)
  have hl3 : g < w3.heap.size := Nat.lt_of_lt_of_le (by simp; omega) he3.size
  clear hf3 he3 R2
  go_wp2_with fail
  refine (Note_calls (n := 0) (l := []) (okA := fun _ => False) F3.out (by decide) (by decide) (by decide) (FR.out _ hl3) (Rd.nil _ _ _) (fun h => h) (by decide) 6).mono ?_
  rintro e w4 ⟨rfl, hf4, he4⟩
  rw [aw_n2] at hf4 ⊢
  have F4 : Hid (Fd 0 ok w4 g aw3) := hf4
  have E4 : Hid (Ext (Only g) w w4) := E3.out.trans he4 (fun _ _ h => h)
  have hl4 : g < w4.heap.size := Nat.lt_of_lt_of_le hl3 he4.size
  clear hf4 he4
  go_wp2_with fail
  have R4 : Rd evK (w4.alloc (.cells ([evC 99 0].flatMap Ev.cells).toArray 43)) ok (.slice (some ⟨w4.heap.size, 0, none⟩) 1 1) [evC 99 0] :=
    (Own.lit (d := evK) (e := 43) (base := 0) (w := w4) (ok := ok) (Reps.flat [evC 99 0]) (Nat.zero_le _) (by decide) (HKO.out _ hl4)).rd
  refine (Note_calls (n := 0) (l := [evC 99 0]) (F4.out.ext0 ((Ext.refl Non w4).alloc _)) (by decide) (by decide) (by decide) (FR.out _ (by simp; omega)) R4 HNO.out (by decide) 7).mono ?_
  rintro e w5 ⟨rfl, hf5, he5⟩
  rw [aw_n3] at hf5 ⊢
  have F5 : Hid (Fd 0 ok w5 g aw4) := hf5
  have E5 : Hid (Ext (Only g) w w5) := E4.out.trans (((Ext.refl (Only g) w4).alloc _).trans he5 (fun _ _ h => h)) (fun _ _ h => h)
  have hl5 : g < w5.heap.size := Nat.lt_of_lt_of_le (by simp; omega) he5.size
  clear hf5 he5 R4
  go_wp2_with fail
  refine (Read_calls (n := 0) F5.out (by decide) (by decide) (by decide) (aw_ok rfl) 1 0 1).mono ?_
  rintro e w6 ⟨B6, m6, d6, rfl, ho6, he6⟩
  rw [aw_r1] at ho6 ⊢
  have hm6 : m6 = 2 := by
    obtain ⟨_, _, hs, _, _⟩ := ho6.slice
    simp only [Value.slice.injEq] at hs
    exact hs.2.1
  subst hm6
  have F6 : Hid (Fd 0 ok w6 g aw4) := F5.out.ext0 he6
  have E6 : Hid (Ext (Only g) w w6) := E5.out.trans0 he6
  have hl6 : g < w6.heap.size := Nat.lt_of_lt_of_le hl5 he6.size
  clear ho6 he6
  go_wp2_with fail
  refine (Read_calls (n := 0) F6.out (by decide) (by decide) (by decide) (aw_ok rfl) 1 5 9).mono ?_
  rintro e w7 ⟨B7, m7, d7, rfl, ho7, he7⟩
  rw [aw_r2] at ho7 ⊢
  have hm7 : m7 = 1 := by
    obtain ⟨_, _, hs, _, _⟩ := ho7.slice
    simp only [Value.slice.injEq] at hs
    exact hs.2.1
  subst hm7
  obtain ⟨ga, offa, rfl, hga, hgla, d0, d1, d2, d3, d4, d5⟩ := ev_at ho7.rd (j := 0) (e := evC 99 7) rfl
  have F7 : Hid (Fd 0 ok w7 g aw4) := F6.out.ext0 he7
  have E7 : Hid (Ext (Only g) w w7) := E6.out.trans0 he7
  have hl7 : g < w7.heap.size := Nat.lt_of_lt_of_le hl6 he7.size
  have a0 : w7.cell? ⟨ga, offa, none⟩ = some (.int .i64 7) := by simpa [evC] using d0
  have a1 : w7.cell? ⟨ga, offa + 1, none⟩ = some (.string ⟨#[99]⟩) := by simpa [evC] using d1
  have a2 : w7.cell? ⟨ga, offa + 2, none⟩ = some (.bool false) := by simpa [evC] using d2
  have a3 : w7.cell? ⟨ga, offa + 3, none⟩ = some (.string ⟨#[]⟩) := by simpa [evC] using d3
  have a4 : w7.cell? ⟨ga, offa + 4, none⟩ = some (.bool false) := by simpa [evC] using d4
  have a5 : w7.cell? ⟨ga, offa + 5, none⟩ = some (.string ⟨#[]⟩) := by simpa [evC] using d5
  clear ho7 he7 hga d0 d1 d2 d3 d4 d5
  go_wp2_with fail
  refine (Ack_calls F7.out (by decide) (by decide) (by decide) (FR.out _ hl7) 1 6).mono ?_
  rintro e w8 ⟨rfl, hf8, he8⟩
  rw [aw_a1] at hf8 ⊢
  have F8 : Hid (Fd 0 ok w8 g aw5) := hf8
  have E8 : Hid (Ext (Only g) w w8) := E7.out.trans he8 (fun _ _ h => h)
  have hl8 : g < w8.heap.size := Nat.lt_of_lt_of_le hl7 he8.size
  clear hf8 he8 a0 a1 a2 a3 a4 a5
  go_wp2_with fail
  refine (Kept_calls F8.out (by decide) (by decide) (FR.out _ hl8)).mono ?_
  rintro e w9 ⟨B9, m9, d9, rfl, ho9, he9⟩
  have hm9 : m9 = 1 := by
    obtain ⟨_, _, hs, _, _⟩ := ho9.slice
    simp only [Value.slice.injEq] at hs
    exact hs.2.1
  subst hm9
  have F9 : Hid (Fd 0 ok w9 g aw5) := F8.out.ext0 he9
  have E9 : Hid (Ext (Only g) w w9) := E8.out.trans0 he9
  have hl9 : g < w9.heap.size := Nat.lt_of_lt_of_le hl8 he9.size
  clear ho9 he9
  go_wp2_with fail
  refine (Ack_calls F9.out (by decide) (by decide) (by decide) (FR.out _ hl9) 1 5).mono ?_
  rintro e w10 ⟨rfl, hf10, he10⟩
  rw [aw_a2] at hf10 ⊢
  have E10 : Hid (Ext Non w w10) := (E9.out.trans he10 (fun _ _ h => h)).mono (fun i hi h => by have h' : i = g := h; omega)
  clear hf10 he10
  go_wp2_with fail
  go_ret
  exact ⟨rfl, E10.out⟩
end Go.Proofs.Ytdjfijdnhfmeeaa
