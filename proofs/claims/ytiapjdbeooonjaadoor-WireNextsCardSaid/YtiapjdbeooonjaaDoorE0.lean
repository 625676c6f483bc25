/- wire.Frame and the document's. -/
import Derived.Test.YtiapjdbeooonjaaDoorD1
import Derived.Test.YtiapjdbeooonjaaDoorD3
namespace Go.Proofs.YtiapjdbeooonjaaDoor
open Go.RowKit Go.TM

theorem Own.abs8 {w : World} {base : Nat} {ok : Nat → Prop} {v : Value} {xs : List UInt8} (h : Own Kd.u8 5 w base ok v xs) : ∃ A n c, v = .slice A n c ∧ n = xs.length := by
  obtain ⟨A, c, h1, _, _⟩ := h.slice
  exact ⟨A, _, c, h1, rfl⟩
theorem Rd.abs8 {w : World} {ok : Nat → Prop} {v : Value} {xs : List UInt8} (h : Rd Kd.u8 w ok v xs) : ∃ A n c, v = .slice A n c ∧ n = xs.length := by
  obtain ⟨A, c, h1, _, _⟩ := h.slice
  exact ⟨A, _, c, h1, rfl⟩
def sum4 (s : Nat) : List UInt8 := [UInt8.ofNat s, UInt8.ofNat (s / 256), UInt8.ofNat (s / 65536), UInt8.ofNat (s / 16777216)]
def frameB (p : List UInt8) : List UInt8 := numB p.length ++ p ++ sum4 (Crc.sum (numB p.length ++ p))

def FramePost (ok : Nat → Prop) (p : List UInt8) (w : World) (e : Ending) (w' : World) : Prop :=
  ∃ v, e = .returned (.tuple #[v, .int .i64 0]) ∧ Own Kd.u8 5 w' w.heap.size ok v (frameB p) ∧ Ext Non w w'

theorem ofn (n : Nat) : ((UInt8.ofNat n).toNat : Int) = (n : Int) % 256 := by
  have : (UInt8.ofNat n).toNat = n % 256 := by simp
  omega

theorem sum4_cs {C : Nat} (h : C < 2 ^ 32) : #[Value.int .u8 ((C : Int) % 256), .int .u8 ((C : Int) / 256 % 256), .int .u8 ((C : Int) / 65536 % 256), .int .u8 ((C : Int) / 16777216)] = ((sum4 C).map (fun y => Value.int .u8 y.toNat)).toArray := by
  have e1 := ofn C
  have e2 : ((UInt8.ofNat (C / 256)).toNat : Int) = (C : Int) / 256 % 256 := by rw [ofn]; omega
  have e3 : ((UInt8.ofNat (C / 65536)).toNat : Int) = (C : Int) / 65536 % 256 := by rw [ofn]; omega
  have e4 : ((UInt8.ofNat (C / 16777216)).toNat : Int) = (C : Int) / 16777216 := by rw [ofn]; omega
  simp only [sum4, List.map_cons, List.map_nil]
  rw [e1, e2, e3, e4]
theorem Frame_long {w : World} {A : Option Addr} {n c : Nat} (hbig : 32768 < n) :
    Calls Tryd.prog 14 #[.slice A n c] w fun e w' => e = .returned (.tuple #[.slice none 0 0, .int .i64 4]) ∧ w = w' := by
  have q : (32768 : Int) < (n : Int) := by omega
  go_enter Tryd.func14, Tryd.ntmps14
  go_wp2_with fail
  go_ret2
  exact ⟨rfl, rfl⟩
theorem FrameR_long {w : World} {A : Option Addr} {n c : Nat} (hbig : 32768 < n) :
    Calls Tryd.prog 17 #[.slice A n c] w fun e w' => e = .returned (.tuple #[.slice none 0 0, .int .i64 4]) ∧ w = w' := by
  have q : (32768 : Int) < (n : Int) := by omega
  go_enter Tryd.func17, Tryd.ntmps17
  go_wp2_with fail
  go_ret2
  exact ⟨rfl, rfl⟩

theorem numB_le {m : Nat} (h : m ≤ 9223372036854775807) : (numB m).length ≤ 9 := by
  have := numI_le (n := (m : Int)) (by omega)
  unfold numI at this
  rwa [show (m : Int).toNat = m from by omega] at this

theorem Sum_at {w : World} {ok : Nat → Prop} {A : Option Addr} {n c : Nat} {bs : List UInt8} (H : Rd Kd.u8 w ok (.slice A n c) bs) (HL : Laid w) :
    Calls Tryd.prog 18 #[.slice A n c] w fun e w' => e = .returned (.int .u32 (Crc.sum bs : Int)) ∧ w = w' := by
  obtain ⟨A', c', he, _, _⟩ := H.slice
  simp only [Value.slice.injEq] at he
  obtain ⟨rfl, rfl, rfl⟩ := he
  exact (Sum_calls H HL).mono (fun e w' h => ⟨h.1, h.2.symm⟩)
theorem SumR_at {w : World} {ok : Nat → Prop} {A : Option Addr} {n c : Nat} {bs : List UInt8} (H : Rd Kd.u8 w ok (.slice A n c) bs) :
    Calls Tryd.prog 19 #[.slice A n c] w fun e w' => e = .returned (.int .u32 (Crc.sum bs : Int)) ∧ w = w' := by
  obtain ⟨A', c', he, _, _⟩ := H.slice
  simp only [Value.slice.injEq] at he
  obtain ⟨rfl, rfl, rfl⟩ := he
  exact (SumR_calls H).mono (fun e w' h => ⟨h.1, h.2.symm⟩)

theorem Frame_fits {w : World} {ok : Nat → Prop} {A : Option Addr} {n c : Nat} {p : List UInt8} (H : Rd Kd.u8 w ok (.slice A n c) p) (HL : Laid w) (hf : ∀ k, w.heap.size ≤ k → ok k) (hp : p.length ≤ 32768) :
    Calls Tryd.prog 14 #[.slice A n c] w (FramePost ok p w) := by
  obtain ⟨A', c', he, hc', hm⟩ := H.slice
  simp only [Value.slice.injEq] at he
  obtain ⟨rfl, rfl, rfl⟩ := he
  have HH := Lib.hid H
  have HF := Lib.hid hf
  have HT := Lib.hid HL
  clear H hf HL
  have q : ¬ (32768 : Int) < (p.length : Int) := by omega
  go_enter Tryd.func14, Tryd.ntmps14
  go_wp2_with fail
  refine (Number_calls (w := w) (ok := ok) (A := none) (c := 0) (bs := []) (Rd.nil _ _ _) (p.length : Int) (by omega) (by omega) (by simp) HF.out).mono ?_
  rintro e w1 ⟨v1, rfl, ho, he⟩
  obtain ⟨A1, N1, c1, rfl, hn1⟩ := (Own.abs8 ho)
  rw [show (p.length : Int).toNat = p.length from by omega, List.nil_append] at ho
  have O1 := Lib.hid ho
  have E1 := Lib.hid he
  have hnl := numB_le (m := p.length) (by omega)
  clear ho he hn1
  go_wp2_with (first
    | (at_builtin
       refine app_old (w0 := w) (v := .slice A1 N1 c1) (vx := .slice A p.length c) (ys := p) rfl _ _ rfl rfl rfl O1.out E1.out HH.out HF.out (by omega) ?_
       intro A2 n2 c2 w2 hn2 O2 E2 z2
       have hlen : Hid (n2 = (numB p.length ++ p).length) := hn2)
    | fail)
  refine (Sum_at O2.out.rd (HT.out.ext E2.out)).mono ?_
  rintro e w3 ⟨rfl, rfl⟩
  obtain ⟨C, hC⟩ : ∃ C, C = Crc.sum (numB p.length ++ p) := ⟨_, rfl⟩
  rw [← hC]
  have hC32 : C < 2 ^ 32 := by rw [hC]; exact Crc.sum_lt _
  have HC := Lib.hid hC
  have HCS := Lib.hid (sum4_cs hC32)
  clear hC
  go_wp2_with (first
    | (at_builtin
       refine app_lit (w0 := w) (v := .slice A2 n2 c2) (sum4 C) #[.int .u8 ((C : Int) % 256), .int .u8 ((C : Int) / 256 % 256), .int .u8 ((C : Int) / 65536 % 256), .int .u8 ((C : Int) / 16777216)] rfl HCS.out rfl _ _ rfl rfl rfl O2.out E2.out HF.out (by simp [sum4]; omega) ?_
       intro A3 n3 c3 w3 hn3 O3 E3 z3)
    | fail)
  go_ret2
  exact ⟨_, rfl, by unfold frameB; rw [← HC.out]; exact O3.out, E3.out⟩

theorem sum4_take (C : Nat) : ∀ k, k < 4 → (sum4 C).take (k + 1) = (sum4 C).take k ++ [UInt8.ofNat (C / 256 ^ k)] := by
  intro k hk
  rcases k with _ | _ | _ | _ | k
  · simp [sum4]
  · simp [sum4]
  · simp [sum4]
  · simp [sum4]
  · omega

theorem FrameR_fits {w : World} {ok : Nat → Prop} {A : Option Addr} {n c : Nat} {p : List UInt8} (H : Rd Kd.u8 w ok (.slice A n c) p) (hf : ∀ k, w.heap.size ≤ k → ok k) (hp : p.length ≤ 32768) :
    Calls Tryd.prog 17 #[.slice A n c] w (FramePost ok p w) := by
  obtain ⟨A', c', he, hc', hm⟩ := H.slice
  simp only [Value.slice.injEq] at he
  obtain ⟨rfl, rfl, rfl⟩ := he
  have HH := Lib.hid H
  have HF := Lib.hid hf
  clear H hf
  have q : ¬ (32768 : Int) < (p.length : Int) := by omega
  go_enter Tryd.func17, Tryd.ntmps17
  go_wp2_with fail
  refine (NumberR_calls (w := w) (ok := ok) (A := none) (c := 0) (n := 0) (bs := []) (Rd.nil _ _ _) (p.length : Int) (by omega) (by omega) (by simp) HF.out).mono ?_
  rintro e w1 ⟨v1, rfl, ho, he⟩
  obtain ⟨A1, N1, c1, rfl, hn1⟩ := (Own.abs8 ho)
  rw [show (p.length : Int).toNat = p.length from by omega, List.nil_append] at ho
  have O1 := Lib.hid ho
  have E1 := Lib.hid he
  have hnl := numB_le (m := p.length) (by omega)
  clear ho he hn1
  go_wp2_with (first
    | (at_builtin
       refine app_old (w0 := w) (v := .slice A1 N1 c1) (vx := .slice A p.length c) (ys := p) rfl _ _ rfl rfl rfl O1.out E1.out HH.out HF.out (by omega) ?_
       intro A2 n2 c2 w2 hn2 O2 E2 z2
       have hlen : Hid (n2 = (numB p.length ++ p).length) := hn2)
    | fail)
  refine (SumR_at O2.out.rd).mono ?_
  rintro e w3 ⟨rfl, rfl⟩
  obtain ⟨C, hC⟩ : ∃ C, C = Crc.sum (numB p.length ++ p) := ⟨_, rfl⟩
  rw [← hC]
  have hC32 : C < 2 ^ 32 := by rw [hC]; exact Crc.sum_lt _
  have HC := Lib.hid hC
  have hQ : Hid ((numB p.length ++ p).length ≤ 40000) := by show _ ≤ _; rw [List.length_append]; omega
  generalize hQe : numB p.length ++ p = Q at *
  have HQE := Lib.hid hQe
  clear hC hQe
  go_wp2_with fail
  go_loopw [4, 5, 16] (fun v d i wr => ∃ (k : Nat) (A4 : Option Addr) (n4 c4 : Nat) (D : Nat), k ≤ 4 ∧ i = .int .i64 (k : Int) ∧ D < 2 ^ 32 ∧ d = .int .u32 (D : Int) ∧ v = .slice A4 n4 c4 ∧ Hid (D = C / 256 ^ k) ∧ Hid (Own Kd.u8 5 wr w.heap.size ok (.slice A4 n4 c4) (Q ++ (sum4 C).take k)) ∧ Hid (Ext Non w wr)) (fun _ _ i _ => (4 - intOf i).toNat)
  case atStart => exact ⟨0, A2, n2, c2, C, by omega, rfl, hC32, rfl, rfl, by simp [Hid], by simpa [Hid] using O2.out, E2.out⟩
  case round =>
    obtain ⟨k, A4, n4, c4, D, hk, rfl, hD, rfl, rfl, HD, HO, HE⟩ := hrel
    by_cases hk4 : k < 4
    · have p0 : (k : Int) < 4 := by omega
      have p1 : (0 : Int) ≤ (k : Int) := by omega
      have HT := Lib.hid (sum4_take C k hk4)
      have HX := Lib.hid (ofn D)
      go_wp2_with (first
        | (at_builtin
           refine app_lit (w0 := w) (v := .slice A4 n4 c4) [UInt8.ofNat D] #[.int .u8 ((D : Int) % 256)] rfl (by rw [List.map_cons, HX.out]; rfl) rfl _ _ rfl rfl rfl HO.out HE.out HF.out (by have := hQ.out; rw [List.length_append, List.length_take]; simp [sum4]; omega) ?_
           intro A3 n3 c3 w3 hn3 O3 E3 z3)
        | fail)
      refine ⟨⟨k + 1, A3, n3, c3, D / 256, by omega, by simp, by omega, by simp, rfl, ?_, ?_, E3.out⟩, by simp [intOf]; omega⟩
      · show _ = _
        rw [HD.out, Nat.div_div_eq_div_mul, ← Nat.pow_succ]
      · show Own _ _ _ _ _ _ _
        rw [HT.out, ← List.append_assoc, ← HD.out]
        exact O3.out
    · obtain rfl : k = 4 := by omega
      go_wp2_with fail
      go_ret2
      refine ⟨_, rfl, ?_, HE.out⟩
      have e : frameB p = Q ++ (sum4 C).take 4 := by
        unfold frameB
        rw [HQE.out, ← HC.out]
        simp [sum4]
      rw [e]
      exact HO.out
end Go.Proofs.YtiapjdbeooonjaaDoor
