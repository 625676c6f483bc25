/- The document's Number. -/
import Derived.Test.YtiebnjkjgobklaaD2
namespace Go.Proofs.Ytiebnjkjgobklaa
open Go.RowKit Go.TM

theorem be_step {m n : Nat} {l : List UInt8} (h : be m = be n ++ l) (hn : 0 < n) : be m = be (n / 256) ++ (UInt8.ofNat (n % 256) :: l) := by
  rw [h, be_pos hn, List.append_assoc]
  rfl

set_option maxHeartbeats 1000000 in
theorem NumberR_nn {w : World} {ok : Nat → Prop} {A : Option Addr} {n c : Nat} {bs : List UInt8} (H : Rd Kd.u8 w ok (.slice A n c) bs) (m : Nat) (h1 : m ≤ 9223372036854775807) (hbl : bs.length ≤ 1099511627776) (hf : ∀ k, w.heap.size ≤ k → ok k) :
    Calls Try.prog 46 #[.slice A n c, .int .i64 (m : Int)] w (NumPost ok (bs ++ numB m) w) := by
  have HH := Lib.hid H
  have HF := Lib.hid hf
  have h8 := be_le8 h1
  clear H hf
  have hm0 : ¬ (m : Int) < 0 := by omega
  go_enter Try.func46, Try.ntmps46
  go_wp2_with fail
  go_loopw [1, 5] (fun v s wr => ∃ (k : Nat) (l : List UInt8) (A1 : Option Addr) (n1 c1 : Nat), v = .int .i64 (k : Int) ∧ k ≤ m ∧ s = .slice A1 n1 c1 ∧ Hid (be m = be k ++ l) ∧ Hid (n1 = l.length) ∧ Hid (Own Kd.u8 5 wr w.heap.size ok (.slice A1 n1 c1) l) ∧ Hid (Ext Non w wr)) (fun v _ _ => (intOf v).toNat)
  case atStart => exact ⟨m, [], none, 0, 0, by simp, Nat.le_refl _, rfl, by simp [Hid], rfl, Own.nil _ _ _ _ _, Ext.refl _ _⟩
  case round =>
    obtain ⟨k, l, A1, n1, c1, rfl, hk, rfl, HB, HN, HO, HE⟩ := hrel
    have hll : l.length ≤ 8 := by
      have := congrArg List.length HB.out
      rw [List.length_append] at this
      omega
    by_cases hk0 : 0 < k
    · have p0 : (0 : Int) < (k : Int) := by omega
      have hx : ((UInt8.ofNat (k % 256)).toNat : Int) = (k : Int) % 256 := by
        have : (UInt8.ofNat (k % 256)).toNat = k % 256 % 256 := by simp
        omega
      have HX := Lib.hid hx
      have S := HE.out.size
      have HB2 := Lib.hid (be_step HB.out hk0)
      clear hx
      go_wp2_with (at_builtin; refine app8 (w0 := w) (v := .slice (some ⟨wr.heap.size, 0, none⟩) 1 1) (vx := .slice A1 n1 c1) (ok := ok) (okY := fun i => ok i ∧ i < wr.heap.size) (xs := [UInt8.ofNat (k % 256)]) (ys := l) rfl _ _ rfl (by simp [Act.eval]) rfl (Own.lits [UInt8.ofNat (k % 256)] _ (by rw [List.map_cons, HX.out]; rfl) S (HF.out _ S) (by simp)) (HE.out.alloc _) (HO.out.rd.bound.ext0 ((Ext.refl Non wr).alloc _)) (fun i hi _ => ⟨hi.1, fun e => by simp [Value.ownBlock] at e; omega⟩) HF.out (by simp; omega) ?_; intro A2 n2 c2 w2 hn2 O2 E2 z2 _)
      exact ⟨⟨k / 256, UInt8.ofNat (k % 256) :: l, A2, n2, c2, by simp, by omega, rfl, HB2.out, hn2, O2.out, E2.out⟩, by simp [intOf]; omega⟩
    · obtain rfl : k = 0 := by omega
      have hl : l = be m := by have := HB.out; rw [be_zero, List.nil_append] at this; exact this.symm
      have S := HE.out.size
      have hx : ((UInt8.ofNat l.length).toNat : Int) = (l.length : Int) := by
        have : (UInt8.ofNat l.length).toNat = l.length % 256 := by simp
        omega
      have HX := Lib.hid hx
      have HL := Lib.hid hl
      have hn8 : (n1 : Int) % 256 = (l.length : Int) := by rw [HN.out]; omega
      have HF2 : Hid (∀ i, wr.heap.size ≤ i → ok i) := fun i hi => HF.out i (by omega)
      clear hx hl
      go_wp2_with (first
        | (at_builtin
           refine app_old (w0 := wr) (v := .slice (some ⟨wr.heap.size, 0, none⟩) 0 0) (vx := .slice A n c) (xs := []) (ys := bs) rfl _ _ rfl (by simp [Act.eval]) rfl (lit0 (Ext.refl _ _) HF2.out) ((Ext.refl Non wr).alloc _) (HH.out.ext0 HE.out) HF2.out (by simp; omega) ?_
           intro A2 n2 c2 w2 hn2 O2 E2 z2)
        | (at_builtin
           refine app_lit (w0 := wr) (v := .slice A2 n2 c2) [UInt8.ofNat l.length] #[.int .u8 (l.length : Int)] rfl (by rw [List.map_cons, HX.out]; rfl) rfl _ _ rfl rfl rfl O2.out E2.out HF2.out (by simp; omega) ?_
           intro A3 n3 c3 w3 hn3 O3 E3 z3)
        | (at_builtin
           refine app_old (w0 := wr) (v := .slice A3 n3 c3) (vx := .slice A1 n1 c1) (ys := l) rfl _ _ rfl rfl rfl O3.out E3.out HO.out.rd HF2.out (by simp; omega) ?_
           intro A4 n4 c4 w4 hn4 O4 E4 z4)
        | fail)
      go_ret
      have e : bs ++ numB m = [] ++ bs ++ [UInt8.ofNat l.length] ++ l := by
        unfold numB
        rw [← HL.out]
        simp
      exact ⟨_, rfl, by rw [e]; exact O4.out.lower S, HE.out.trans0 E4.out⟩

theorem NumberR_neg {w : World} {ok : Nat → Prop} {A : Option Addr} {n c : Nat} {bs : List UInt8} (H : Rd Kd.u8 w ok (.slice A n c) bs) (m : Int) (h0 : m < 0) (hbl : bs.length ≤ 1099511627776) (hf : ∀ k, w.heap.size ≤ k → ok k) :
    Calls Try.prog 46 #[.slice A n c, .int .i64 m] w (NumPost ok (bs ++ numB 0) w) := by
  have HH := Lib.hid H
  have HF := Lib.hid hf
  clear H hf
  have hm0 : ¬ 0 ≤ m := by omega
  go_enter Try.func46, Try.ntmps46
  go_wp2_with fail
  go_loopw [1, 5] (fun v s wr => v = .int .i64 0 ∧ s = .slice none 0 0 ∧ wr = w) (fun _ _ _ => 0)
  case atStart => exact ⟨rfl, rfl, rfl⟩
  case round =>
    obtain ⟨rfl, rfl, rfl⟩ := hrel
    go_wp2_with (first
      | (at_builtin
         refine app_old (w0 := wr) (v := .slice (some ⟨wr.heap.size, 0, none⟩) 0 0) (vx := .slice A n c) (xs := []) (ys := bs) rfl _ _ rfl (by simp [Act.eval]) rfl (lit0 (Ext.refl _ _) HF.out) ((Ext.refl Non wr).alloc _) HH.out HF.out (by simp; omega) ?_
         intro A2 n2 c2 w2 hn2 O2 E2 z2)
      | (at_builtin
         refine app_lit (w0 := wr) (v := .slice A2 n2 c2) [0] #[.int .u8 0] rfl rfl rfl _ _ rfl rfl rfl O2.out E2.out HF.out (by simp; omega) ?_
         intro A3 n3 c3 w3 hn3 O3 E3 z3)
      | (at_builtin
         refine app_old (w0 := wr) (v := .slice A3 n3 c3) (vx := .slice none 0 0) (ys := []) rfl _ _ rfl rfl rfl O3.out E3.out (Rd.nil _ _ _) HF.out (by simp; omega) ?_
         intro A4 n4 c4 w4 hn4 O4 E4 z4)
      | fail)
    go_ret
    have e : bs ++ numB 0 = [] ++ bs ++ [0] ++ [] := by
      unfold numB
      rw [be_zero]
      simp
    exact ⟨_, rfl, by rw [e]; exact O4.out, E4.out⟩

theorem NumberR_calls {w : World} {ok : Nat → Prop} {A : Option Addr} {n c : Nat} {bs : List UInt8} (H : Rd Kd.u8 w ok (.slice A n c) bs) (m : Int) (h0 : -9223372036854775808 ≤ m) (h1 : m ≤ 9223372036854775807) (hbl : bs.length ≤ 1099511627776) (hf : ∀ k, w.heap.size ≤ k → ok k) :
    Calls Try.prog 46 #[.slice A n c, .int .i64 m] w (NumPost ok (bs ++ numB m.toNat) w) := by
  by_cases h : m < 0
  · rw [show m.toNat = 0 from by omega]
    exact NumberR_neg H m h hbl hf
  · obtain ⟨k, rfl⟩ : ∃ k : Nat, m = (k : Int) := ⟨m.toNat, by omega⟩
    exact NumberR_nn H k (by omega) hbl hf
end Go.Proofs.Ytiebnjkjgobklaa
