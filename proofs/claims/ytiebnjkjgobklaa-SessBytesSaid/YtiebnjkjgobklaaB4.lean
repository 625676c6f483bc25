/- wire.Number of a number below 0. -/
import Derived.Test.YtiebnjkjgobklaaB3
namespace Go.Proofs.Ytiebnjkjgobklaa
open Go.RowKit Go.TM

set_option maxHeartbeats 2000000 in
theorem Number_neg {w : World} {ok : Nat → Prop} {A : Option Addr} {c : Nat} {bs : List UInt8} (H : Rd Kd.u8 w ok (.slice A bs.length c) bs) (n : Int) (h0 : n < 0) (h1 : -9223372036854775808 ≤ n) (hbl : bs.length ≤ 1099511627776) (hf : ∀ k, w.heap.size ≤ k → ok k) :
    Calls Try.prog 49 #[.slice A bs.length c, .int .i64 n] w (NumPost ok (bs ++ numB 0) w) := by
  have HH := Lib.hid H
  have HF := Lib.hid hf
  clear H hf
  have hm0 : ¬ 0 ≤ n := by omega
  have q5 : wrap64 ((bs.length : Int) + 1) = (bs.length : Int) + 1 := by unfold wrap64; omega
  have q6 : wrap64 (bs.length : Int) = (bs.length : Int) := by unfold wrap64; omega
  go_enter Try.func49, Try.ntmps49
  go_wp2_with fail
  go_loopw [5] (fun i wr => i = .int .i64 0 ∧ wr = w) (fun _ _ => 0)
  case atStart => exact ⟨rfl, rfl⟩
  case round =>
    obtain ⟨rfl, rfl⟩ := hrel
    obtain ⟨w0, hw0⟩ : ∃ w0, w0 = wr := ⟨_, rfl⟩
    subst hw0
    go_wp2_with (first
      | (refine wpList_make Kd.u8 (ok := ok) w0.heap.size rfl _ _ 52 5 _ 1 .i64 .i64 (bs.length + 1) rfl Try.underlying52 info5 rfl (by simp [Act.eval]) ?_ ?_ ?_ ?_ ?_
         · omega
         · omega
         · exact Nat.le_refl _
         · exact HF.out _ (Nat.le_refl _)
         intro w2 hown hext
         have O2 := Lib.hid hown
         have E2 := Lib.hid hext
         have z2 := hext.size
         clear hown hext)
      | (at_builtin
         refine wpList_app Kd.u8 (v := .slice (some ⟨w0.heap.size, 0, none⟩) 0 (bs.length + 1)) (vx := .slice A bs.length c) (ok := ok) (xs := ([] : List UInt8)) (ys := bs) w0.heap.size rfl _ _ 52 5 _ 1 rfl Try.underlying52 info5 rfl (by decide) rfl rfl O2.out ?_ ?_ ?_ ?_ ?_ ?_
         · refine (HH.out.bound.ext0 E2.out).mono (fun i hi => ⟨hi.1, fun e => ?_⟩)
           simp [Value.ownBlock] at e
           omega
         · exact fun i hi => HF.out i (by omega)
         · simp; omega
         · simp; omega
         · exact z2
         intro v3 w3 hown hext hblk
         obtain ⟨A3, c3, rfl, hc3, hm3⟩ := hown.slice
         have O3 : Hid (Own Kd.u8 5 w3 w0.heap.size ok (.slice A3 ([] ++ bs).length c3) bs) := hown
         have E3 : Hid (Ext Non w0 w3) := E2.out.trans hext (fun i hi e => by simp [Value.ownBlock] at e; omega)
         have z3 := E3.out.size
         have hA3 : Hid (∀ k, some k = (Value.slice A3 ([] ++ bs).length c3).ownBlock → w0.heap.size ≤ k ∧ k < w3.heap.size) := fun k hk => O3.out.base_le k hk.symm
         clear hown hext hblk hc3 hm3)
      | (at_builtin
         refine wpList_app Kd.u8 (v := .slice A3 ([] ++ bs).length c3) (vx := .slice (some ⟨w3.heap.size, 0, none⟩) 1 1) (ok := ok) (xs := bs) (ys := [0]) w0.heap.size rfl _ _ 52 5 _ 1 rfl Try.underlying52 info5 rfl (by decide) (by simp [Act.eval]) rfl (O3.out.ext0 ((Ext.refl Non w3).alloc _)) ?_ ?_ ?_ ?_ ?_ ?_
         · refine Rd.lit_at (cs := [.int .u8 0]) (e := 5) (fr := (0, 0)) (heap_alloc_new w3 _) rfl ⟨HF.out _ (by omega), fun e => ?_⟩
           have := (hA3.out _ e).2
           omega
         · exact fun i hi => HF.out i (by simp at hi; omega)
         · simp; omega
         · simp; omega
         · simp; omega
         intro v4 w4 hown hext hblk
         obtain ⟨A4, c4, rfl, hc4, hm4⟩ := hown.slice
         have O4 := Lib.hid hown
         have E4 : Hid (Ext Non w0 w4) := ((E3.out.alloc _).trans hext (fun i hi e => by have := (hA3.out _ e).1; omega))
         clear hown hext hblk hc4 hm4)
      | fail)
    go_loopw [6, 7] (fun v i wq => v = .slice A4 (bs.length + 1) c4 ∧ i = .int .i64 (-1) ∧ wq = w4) (fun _ _ _ => 0)
    case atStart => exact ⟨by simp, rfl, rfl⟩
    case round =>
      obtain ⟨rfl, rfl, rfl⟩ := hrel
      go_wp2_with fail
      go_ret
      have R := O4.out
      have e : bs ++ numB 0 = bs ++ [0] := by
        unfold numB
        rw [be_zero]
        rfl
      exact ⟨_, rfl, by rw [e]; simpa using R, E4.out⟩

theorem Number_calls {w : World} {ok : Nat → Prop} {A : Option Addr} {c : Nat} {bs : List UInt8} (H : Rd Kd.u8 w ok (.slice A bs.length c) bs) (n : Int) (h0 : -9223372036854775808 ≤ n) (h1 : n ≤ 9223372036854775807) (hbl : bs.length ≤ 1099511627776) (hf : ∀ k, w.heap.size ≤ k → ok k) :
    Calls Try.prog 49 #[.slice A bs.length c, .int .i64 n] w (NumPost ok (bs ++ numB n.toNat) w) := by
  by_cases h : n < 0
  · rw [show n.toNat = 0 from by omega]
    exact Number_neg H n h h0 hbl hf
  · obtain ⟨m, rfl⟩ : ∃ m : Nat, n = (m : Int) := ⟨n.toNat, by omega⟩
    exact Number_nn H m h1 hbl hf
end Go.Proofs.Ytiebnjkjgobklaa
