/- wire.Read and wire.Next. -/
import Derived.Test.YtiapjdbeooonjaaDoorE0
import Derived.Test.YtiapjdbeooonjaaDoorC1
namespace Go.Proofs.YtiapjdbeooonjaaDoor
open Go.RowKit Go.TM

theorem Own.tight {w : World} {base : Nat} {ok : Nat → Prop} {v : Value} {xs : List UInt8} (h : Own Kd.u8 5 w base ok v xs) : Own Kd.u8 5 w base (fun k => base ≤ k ∧ k < w.heap.size) v xs := by
  have hb := h.base_le
  obtain ⟨_, inner, ho, hr⟩ := h
  exact ⟨hb, inner, ho, hr.1, fun j x hj => hr.2 j x hj⟩
theorem Rd.any {w : World} {ok : Nat → Prop} {v : Value} {xs : List UInt8} (h : Rd Kd.u8 w ok v xs) : Rd Kd.u8 w (fun _ => True) v xs := h.mono (fun _ _ => trivial)

def ReadPost (bs : List UInt8) (w : World) (e : Ending) (w' : World) : Prop :=
  ∃ g, e = .returned (.pointer (some ⟨g, 0, none⟩)) ∧ w.heap.size ≤ g ∧ g < w'.heap.size ∧ RdrAt w' (fun k => w.heap.size ≤ k ∧ k < g) g bs 0 0 ∧ Ext Non w w'

theorem Read_calls {w : World} {ok : Nat → Prop} {A : Option Addr} {n c : Nat} {bs : List UInt8} (H : Rd Kd.u8 w ok (.slice A n c) bs) (hbl : bs.length ≤ 140737488355328) :
    Calls Tryd.prog 21 #[.slice A n c] w (ReadPost bs w) := by
  have HH := Lib.hid (Rd.any H)
  clear H
  go_enter Tryd.func21, Tryd.ntmps21
  go_wp2_with (first
    | (at_builtin
       refine app_old (w0 := w) (ok := fun _ => True) (v := .slice (some ⟨w.heap.size, 0, none⟩) 0 0) (vx := .slice A n c) (xs := []) (ys := bs) rfl _ _ rfl (by simp [Act.eval]) rfl (lit0 (Ext.refl _ _) (fun _ _ => trivial)) ((Ext.refl Non w).alloc _) HH.out (fun _ _ => trivial) (by simp; omega) ?_
       intro A2 n2 c2 w2 hn2 O2 E2 z2)
    | fail)
  go_ret
  refine ⟨_, rfl, E2.out.size, by simp, ⟨_, heap_alloc_new w2 _, ?_⟩, E2.out.alloc _⟩
  exact ((Own.tight O2.out).rd.ext0 ((Ext.refl Non w2).alloc _))

/-- The frame at the beginning. -/
def nextR (bs : List UInt8) : List UInt8 × Nat × Int :=
  if (numR bs).2.2 ≠ 0 then ([], 0, (numR bs).2.2) else if 32768 < (numR bs).1 then ([], 0, 4) else if bs.length - (numR bs).2.1 < (numR bs).1 + 4 then ([], 0, 2) else
    if (bs.drop ((numR bs).2.1 + (numR bs).1)).take 4 = sum4 (Crc.sum (bs.take ((numR bs).2.1 + (numR bs).1))) then ((bs.drop (numR bs).2.1).take (numR bs).1, (numR bs).2.1 + (numR bs).1 + 4, 0) else ([], 0, 10)

def NextPost (r : List UInt8 × Nat × Int) (w : World) (e : Ending) (w' : World) : Prop :=
  ∃ v, e = .returned (.tuple #[v, .int .i64 (r.2.1 : Int), .int .i64 r.2.2]) ∧ Own Kd.u8 5 w' w.heap.size (fun _ => True) v r.1 ∧ Ext Non w w'

theorem rNum_bad {bs : List UInt8} {n k : Nat} {e : Int} (h : numR bs = (n, k, e)) (he : e ≠ 0) : rNum bs 0 0 = (0, 0, e) := by
  rw [rNum_of (r := (n, k, e)) (by simpa using h)]
  simp [he]
theorem rNum_good {bs : List UInt8} {n k : Nat} (h : numR bs = (n, k, 0)) : rNum bs 0 0 = ((n : Int), k, 0) := by
  rw [rNum_of (r := (n, k, 0)) (by simpa using h)]
  simp

theorem Next_bad {w : World} {ok : Nat → Prop} {A : Option Addr} {n c : Nat} {bs : List UInt8} (H : Rd Kd.u8 w ok (.slice A n c) bs) (hbl : bs.length ≤ 140737488355328) {m k : Nat} {e0 : Int} (hr : numR bs = (m, k, e0)) (he : e0 ≠ 0) :
    Calls Tryd.prog 16 #[.slice A n c] w (NextPost ([], 0, e0) w) := by
  have HH := Lib.hid H
  have HR := Lib.hid hr
  have HE0 := Lib.hid he
  have q : (e0 != 0) = true := by simpa using he
  clear H hr he
  go_enter Tryd.func16, Tryd.ntmps16
  go_wp2_with fail
  refine (Read_calls HH.out hbl).mono ?_
  rintro e w1 ⟨g, rfl, hg0, hg1, h1, h2⟩
  have R1 := Lib.hid h1
  have E1 := Lib.hid h2
  clear h1 h2
  go_wp2_with fail
  refine (RNumber_calls R1.out (by omega) (Nat.zero_le _)).mono ?_
  rw [rNum_bad HR.out HE0.out]
  rintro e w2 ⟨rfl, h1, h2⟩
  have R2 := Lib.hid h1
  have E2 : Hid (Ext Non w w2) := E1.out.trans h2 (fun i hi e => by have e' : i = g := e; omega)
  clear h1 h2
  go_wp2_with fail
  refine (Left_calls R2.out (Nat.zero_le _)).mono ?_
  rintro e w3 ⟨rfl, h1⟩
  have R3 := Lib.hid (R2.out.ext h1)
  have E3 := Lib.hid (E2.out.trans0 h1)
  clear h1
  go_wp2_with fail
  refine (Err_calls R3.out).mono ?_
  rintro e w4 ⟨rfl, rfl⟩
  go_wp2_with fail
  refine (Err_calls R3.out).mono ?_
  rintro e w4 ⟨rfl, rfl⟩
  go_wp2_with fail
  go_ret3
  exact ⟨_, rfl, Own.nil _ _ _ _ _, E3.out⟩

theorem Next_long {w : World} {ok : Nat → Prop} {A : Option Addr} {n c : Nat} {bs : List UInt8} (H : Rd Kd.u8 w ok (.slice A n c) bs) (hbl : bs.length ≤ 140737488355328) {m k : Nat} (hr : numR bs = (m, k, 0)) (hl : 32768 < m) :
    Calls Tryd.prog 16 #[.slice A n c] w (NextPost ([], 0, 4) w) := by
  obtain ⟨A', c', he, hc', hm⟩ := H.slice
  simp only [Value.slice.injEq] at he
  obtain ⟨rfl, rfl, rfl⟩ := he
  obtain ⟨hk0, hkl, _, hmm⟩ := numR_ok hr
  have HH := Lib.hid H
  have HR := Lib.hid hr
  obtain ⟨L, hL⟩ : ∃ L, L = bs.length - k := ⟨_, rfl⟩
  have hL1 : (bs.length : Int) - (L : Int) = (k : Int) := by omega
  have HLL := Lib.hid hL
  clear H hr hL
  go_enter Tryd.func16, Tryd.ntmps16
  go_wp2_with fail
  refine (Read_calls HH.out hbl).mono ?_
  rintro e w1 ⟨g, rfl, hg0, hg1, h1, h2⟩
  have R1 := Lib.hid h1
  have E1 := Lib.hid h2
  clear h1 h2
  go_wp2_with fail
  refine (RNumber_calls R1.out (by omega) (Nat.zero_le _)).mono ?_
  rw [rNum_good HR.out]
  rintro e w2 ⟨rfl, h1, h2⟩
  have R2 := Lib.hid h1
  have E2 : Hid (Ext Non w w2) := E1.out.trans h2 (fun i hi e => by have e' : i = g := e; omega)
  clear h1 h2
  go_wp2_with fail
  refine (Left_calls R2.out hkl).mono ?_
  rw [← HLL.out]
  rintro e w3 ⟨rfl, h1⟩
  have R3 := Lib.hid (R2.out.ext h1)
  have E3 := Lib.hid (E2.out.trans0 h1)
  clear h1
  go_wp2_with fail
  refine (Err_calls R3.out).mono ?_
  rintro e w4 ⟨rfl, rfl⟩
  have q1 : (32768 : Int) < (m : Int) := by omega
  go_wp2_with fail
  go_ret3
  exact ⟨_, rfl, Own.nil _ _ _ _ _, E3.out⟩

theorem Next_short {w : World} {ok : Nat → Prop} {A : Option Addr} {n c : Nat} {bs : List UInt8} (H : Rd Kd.u8 w ok (.slice A n c) bs) (hbl : bs.length ≤ 140737488355328) {m k : Nat} (hr : numR bs = (m, k, 0)) (hl : m ≤ 32768) (hs : bs.length - k < m + 4) :
    Calls Tryd.prog 16 #[.slice A n c] w (NextPost ([], 0, 2) w) := by
  obtain ⟨A', c', he, hc', hm⟩ := H.slice
  simp only [Value.slice.injEq] at he
  obtain ⟨rfl, rfl, rfl⟩ := he
  obtain ⟨hk0, hkl, _, hmm⟩ := numR_ok hr
  have HH := Lib.hid H
  have HR := Lib.hid hr
  obtain ⟨L, hL⟩ : ∃ L, L = bs.length - k := ⟨_, rfl⟩
  have hL1 : (bs.length : Int) - (L : Int) = (k : Int) := by omega
  have HLL := Lib.hid hL
  clear H hr hL
  go_enter Tryd.func16, Tryd.ntmps16
  go_wp2_with fail
  refine (Read_calls HH.out hbl).mono ?_
  rintro e w1 ⟨g, rfl, hg0, hg1, h1, h2⟩
  have R1 := Lib.hid h1
  have E1 := Lib.hid h2
  clear h1 h2
  go_wp2_with fail
  refine (RNumber_calls R1.out (by omega) (Nat.zero_le _)).mono ?_
  rw [rNum_good HR.out]
  rintro e w2 ⟨rfl, h1, h2⟩
  have R2 := Lib.hid h1
  have E2 : Hid (Ext Non w w2) := E1.out.trans h2 (fun i hi e => by have e' : i = g := e; omega)
  clear h1 h2
  go_wp2_with fail
  refine (Left_calls R2.out hkl).mono ?_
  rw [← HLL.out]
  rintro e w3 ⟨rfl, h1⟩
  have R3 := Lib.hid (R2.out.ext h1)
  have E3 := Lib.hid (E2.out.trans0 h1)
  clear h1
  go_wp2_with fail
  refine (Err_calls R3.out).mono ?_
  rintro e w4 ⟨rfl, rfl⟩
  have q1 : ¬ (32768 : Int) < (m : Int) := by omega
  go_wp2_with fail
  refine (Left_calls R3.out hkl).mono ?_
  rw [← HLL.out]
  rintro e w4 ⟨rfl, h1⟩
  have R4 := Lib.hid (R3.out.ext h1)
  have E4 := Lib.hid (E3.out.trans0 h1)
  clear h1
  have q2 : (L : Int) < (m : Int) + 4 := by have := HLL.out; omega
  go_wp2_with fail
  go_ret3
  exact ⟨_, rfl, Own.nil _ _ _ _ _, E4.out⟩

theorem bits_or_u32 (a b : Nat) (ha : a < 2 ^ 32) (hb : b < 2 ^ 32) : bits .or .u32 (a : Int) (b : Int) = ((a ||| b : Nat) : Int) :=
  (bits_nat .u32 32 (by decide) (fun n h0 h1 => by rw [IntKind.wrap_u32]; omega) a b ha hb).2
def le4 (b0 b1 b2 b3 : UInt8) : Nat := b0.toNat + 256 * b1.toNat + 65536 * b2.toNat + 16777216 * b3.toNat
theorem le4_lt (b0 b1 b2 b3 : UInt8) : le4 b0 b1 b2 b3 < 2 ^ 32 := by
  have := b0.toNat_lt
  have := b1.toNat_lt
  have := b2.toNat_lt
  have := b3.toNat_lt
  unfold le4
  omega
theorem or_high (i lo hi : Nat) (h : lo < 2 ^ i) : lo ||| 2 ^ i * hi = lo + 2 ^ i * hi := by
  rw [Nat.or_comm, ← Nat.two_pow_add_eq_or_of_lt h hi, Nat.add_comm]
theorem le4_bits (b0 b1 b2 b3 : UInt8) : bits .or .u32 (bits .or .u32 (bits .or .u32 ((b0.toNat : Int) % 4294967296) ((b1.toNat : Int) % 4294967296 * 256 % 4294967296)) ((b2.toNat : Int) % 4294967296 * 65536 % 4294967296)) ((b3.toNat : Int) % 4294967296 * 16777216 % 4294967296) = ((le4 b0 b1 b2 b3 : Nat) : Int) := by
  have h0 := b0.toNat_lt
  have h1 := b1.toNat_lt
  have h2 := b2.toNat_lt
  have h3 := b3.toNat_lt
  rw [show (b0.toNat : Int) % 4294967296 = ((b0.toNat : Nat) : Int) from by omega, show (b1.toNat : Int) % 4294967296 * 256 % 4294967296 = ((2 ^ 8 * b1.toNat : Nat) : Int) from by omega,
    show (b2.toNat : Int) % 4294967296 * 65536 % 4294967296 = ((2 ^ 16 * b2.toNat : Nat) : Int) from by omega, show (b3.toNat : Int) % 4294967296 * 16777216 % 4294967296 = ((2 ^ 24 * b3.toNat : Nat) : Int) from by omega]
  rw [bits_or_u32 _ _ (by omega) (by omega), or_high 8 _ _ (by omega), bits_or_u32 _ _ (by omega) (by omega), or_high 16 _ _ (by omega), bits_or_u32 _ _ (by omega) (by omega), or_high 24 _ _ (by omega)]
  unfold le4
  omega
theorem sum4_le4 {S : Nat} (hS : S < 2 ^ 32) (b0 b1 b2 b3 : UInt8) : [b0, b1, b2, b3] = sum4 S ↔ le4 b0 b1 b2 b3 = S := by
  have h0 := b0.toNat_lt
  have h1 := b1.toNat_lt
  have h2 := b2.toNat_lt
  have h3 := b3.toNat_lt
  have e0 : ∀ (b : UInt8) (n : Nat), b = UInt8.ofNat n ↔ b.toNat = n % 256 := by
    intro b n
    rw [← UInt8.toNat_inj]
    simp
  unfold sum4 le4
  simp only [List.cons.injEq, and_true, e0]
  omega
theorem take4 {l : List UInt8} {E : Nat} {b0 b1 b2 b3 : UInt8} (h0 : l[E]? = some b0) (h1 : l[E + 1]? = some b1) (h2 : l[E + 2]? = some b2) (h3 : l[E + 3]? = some b3) : (l.drop E).take 4 = [b0, b1, b2, b3] := by
  apply List.ext_getElem?
  intro i
  rw [List.getElem?_take, List.getElem?_drop]
  rcases i with _ | _ | _ | _ | i
  · simpa using h0
  · simpa using h1
  · simpa using h2
  · simpa using h3
  · simp
    omega

theorem Next_full {w : World} {ok : Nat → Prop} {A : Option Addr} {n c : Nat} {bs : List UInt8} (H : Rd Kd.u8 w ok (.slice A n c) bs) (hbl : bs.length ≤ 140737488355328) {m k : Nat} (hr : numR bs = (m, k, 0)) (hl : m ≤ 32768) (hs : m + 4 ≤ bs.length - k) (HL : Laid w) :
    Calls Tryd.prog 16 #[.slice A n c] w (NextPost (nextR bs) w) := by
  have HLD := Lib.hid HL
  obtain ⟨A', c', he, hc', hm⟩ := H.slice
  simp only [Value.slice.injEq] at he
  obtain ⟨rfl, rfl, rfl⟩ := he
  obtain ⟨hk0, hkl, _, hmm⟩ := numR_ok hr
  have HH := Lib.hid H
  have HR := Lib.hid hr
  obtain ⟨L, hL⟩ : ∃ L, L = bs.length - k := ⟨_, rfl⟩
  have hL1 : (bs.length : Int) - (L : Int) = (k : Int) := by omega
  have HLL := Lib.hid hL
  clear H hr hL
  go_enter Tryd.func16, Tryd.ntmps16
  go_wp2_with fail
  refine (Read_calls HH.out hbl).mono ?_
  rintro e w1 ⟨g, rfl, hg0, hg1, h1, h2⟩
  have R1 := Lib.hid h1
  have E1 := Lib.hid h2
  clear h1 h2
  go_wp2_with fail
  refine (RNumber_calls R1.out (by omega) (Nat.zero_le _)).mono ?_
  rw [rNum_good HR.out]
  rintro e w2 ⟨rfl, h1, h2⟩
  have R2 := Lib.hid h1
  have E2 : Hid (Ext Non w w2) := E1.out.trans h2 (fun i hi e => by have e' : i = g := e; omega)
  clear h1 h2
  go_wp2_with fail
  refine (Left_calls R2.out hkl).mono ?_
  rw [← HLL.out]
  rintro e w3 ⟨rfl, h1⟩
  have R3 := Lib.hid (R2.out.ext h1)
  have E3 := Lib.hid (E2.out.trans0 h1)
  clear h1
  go_wp2_with fail
  refine (Err_calls R3.out).mono ?_
  rintro e w4 ⟨rfl, rfl⟩
  have q1 : ¬ (32768 : Int) < (m : Int) := by omega
  go_wp2_with fail
  refine (Left_calls R3.out hkl).mono ?_
  rw [← HLL.out]
  rintro e w4 ⟨rfl, h1⟩
  have R4 := Lib.hid (R3.out.ext h1)
  have E4 := Lib.hid (E3.out.trans0 h1)
  clear h1
  have q2 : ¬ (L : Int) < (m : Int) + 4 := by have := HLL.out; omega
  obtain ⟨E, hE⟩ : ∃ E, E = k + m := ⟨_, rfl⟩
  have q3 : (k : Int) + (m : Int) = (E : Int) := by omega
  have hEl : E + 4 ≤ bs.length := by omega
  have HE := Lib.hid hE
  clear hE
  obtain ⟨b0, hb0⟩ : ∃ b, bs[E]? = some b := ⟨_, List.getElem?_eq_getElem (by omega)⟩
  obtain ⟨b1, hb1⟩ : ∃ b, bs[E + 1]? = some b := ⟨_, List.getElem?_eq_getElem (by omega)⟩
  obtain ⟨b2, hb2⟩ : ∃ b, bs[E + 2]? = some b := ⟨_, List.getElem?_eq_getElem (by omega)⟩
  obtain ⟨b3, hb3⟩ : ∃ b, bs[E + 3]? = some b := ⟨_, List.getElem?_eq_getElem (by omega)⟩
  have R5 := HH.out.ext0 E4.out
  obtain ⟨gs, off, rfl, _, _, hc0⟩ := R5.flat_at hb0
  obtain ⟨gs1, off1, hg1e, _, _, hc1⟩ := R5.flat_at hb1
  obtain ⟨gs2, off2, hg2e, _, _, hc2⟩ := R5.flat_at hb2
  obtain ⟨gs3, off3, hg3e, _, _, hc3⟩ := R5.flat_at hb3
  simp only [Option.some.injEq, Addr.mk.injEq, and_true] at hg1e hg2e hg3e
  obtain ⟨rfl, rfl⟩ := hg1e
  obtain ⟨rfl, rfl⟩ := hg2e
  obtain ⟨rfl, rfl⟩ := hg3e
  have d0 := hc0 0 _ rfl
  have d1 := hc1 0 _ rfl
  have d2 := hc2 0 _ rfl
  have d3 := hc3 0 _ rfl
  simp only [Nat.add_zero, Nat.mul_one] at d0 d1 d2 d3
  have R5' := Lib.hid R5
  have HB0 := Lib.hid hb0
  have HB1 := Lib.hid hb1
  have HB2 := Lib.hid hb2
  have HB3 := Lib.hid hb3
  have p0 : (0 : Int) ≤ (E : Int) := by omega
  have p1 : (E : Int) < (bs.length : Int) := by omega
  have p2 : (E : Int) + 1 < (bs.length : Int) := by omega
  have p3 : (E : Int) + 2 < (bs.length : Int) := by omega
  have p4 : (E : Int) + 3 < (bs.length : Int) := by omega
  have p5 : (0 : Int) ≤ (E : Int) + 1 := by omega
  have p6 : (0 : Int) ≤ (E : Int) + 2 := by omega
  have p7 : (0 : Int) ≤ (E : Int) + 3 := by omega
  clear hc0 hc1 hc2 hc3 hb0 hb1 hb2 hb3 R5
  go_wp2_with fail
  go_region
  go_wp2_with fail
  rw [le4_bits]
  refine (Sum_at ((R5'.out.ext0 (Ext.refl Non w4).drew).take (k := E) (by omega)) (HLD.out.ext (E4.out.drew))).mono ?_
  rintro e w5 ⟨rfl, rfl⟩
  obtain ⟨C, hC⟩ : ∃ C, C = Crc.sum (bs.take E) := ⟨_, rfl⟩
  rw [← hC]
  have hC32 : C < 2 ^ 32 := by rw [hC]; exact Crc.sum_lt _
  have hV32 := le4_lt b0 b1 b2 b3
  have hnext : nextR bs = if le4 b0 b1 b2 b3 = C then ((bs.drop k).take m, E + 4, 0) else ([], 0, 10) := by
    unfold nextR
    rw [HR.out]
    simp only []
    rw [if_neg (by simp), if_neg (by omega), if_neg (by omega), ← HE.out, ← hC, take4 HB0.out HB1.out HB2.out HB3.out]
    by_cases h : le4 b0 b1 b2 b3 = C
    · rw [if_pos h, if_pos ((sum4_le4 hC32 _ _ _ _).2 h)]
    · rw [if_neg h, if_neg (fun e => h ((sum4_le4 hC32 _ _ _ _).1 e))]
  have HN := Lib.hid hnext
  clear hnext hC
  generalize le4 b0 b1 b2 b3 = V at HN hV32 ⊢
  have E5 : Hid (Ext Non w w4.drew) := E4.out.drew
  have R6 := Lib.hid (Rd.any (R5'.out.ext0 (Ext.refl Non w4).drew))
  have hck : ¬ c = k := by omega
  have hkE : (k : Int) ≤ (E : Int) := by have := HE.out; omega
  have hk0' : (0 : Int) ≤ (k : Int) := by omega
  by_cases hVC : V = C
  · have q5 : ((V : Int) != (C : Int)) = false := by simp; omega
    have HN2 : Hid (nextR bs = ((bs.drop k).take m, E + 4, 0)) := by show _ = _; rw [HN.out, if_pos hVC]
    clear HN hVC
    generalize w4.drew = w5 at E5 R6 ⊢
    have r1 := (R6.out.take (k := E) (by omega)).drop (k := k) (by rw [List.length_take]; have := HE.out; omega)
    have e1 : (bs.take E).drop k = (bs.drop k).take m := by rw [List.drop_take]; congr 1; have := HE.out; omega
    rw [e1, if_neg hck, show k * Kd.u8.sz = k from Nat.mul_one k] at r1
    have RR := Lib.hid r1
    have hml : ((bs.drop k).take m).length ≤ 32768 := by rw [List.length_take]; omega
    clear r1 e1
    go_wp2_with (first
      | (at_builtin
         refine app_old (w0 := w5) (ok := fun _ => True) (v := .slice (some ⟨w5.heap.size, 0, none⟩) 0 0) (vx := .slice (some ⟨gs, off + k, none⟩) (E - k) (c - k)) (xs := []) (ys := (bs.drop k).take m) rfl _ _ rfl (by simp [Act.eval]) rfl (lit0 (Ext.refl _ _) (fun _ _ => trivial)) ((Ext.refl Non w5).alloc _) RR.out (fun _ _ => trivial) (by simp only [List.length_nil]; omega) ?_
         intro A6 n6 c6 w6 hn6 O6 E6 z6)
      | fail)
    go_ret3
    rw [HN2.out]
    exact ⟨_, rfl, O6.out.lower E5.out.size, E5.out.trans0 E6.out⟩
  · have q5 : ((V : Int) != (C : Int)) = true := by simp; omega
    have HN2 : Hid (nextR bs = ([], 0, 10)) := by show _ = _; rw [HN.out, if_neg hVC]
    clear HN hVC
    go_wp2_with fail
    go_ret3
    rw [HN2.out]
    exact ⟨_, rfl, Own.nil _ _ _ _ _, E5.out⟩

theorem Next_calls {w : World} {ok : Nat → Prop} {A : Option Addr} {n c : Nat} {bs : List UInt8} (H : Rd Kd.u8 w ok (.slice A n c) bs) (hbl : bs.length ≤ 140737488355328) (HL : Laid w) :
    Calls Tryd.prog 16 #[.slice A n c] w (NextPost (nextR bs) w) := by
  obtain ⟨⟨m, k, e⟩, hr⟩ : ∃ r, numR bs = r := ⟨_, rfl⟩
  by_cases he : e = 0
  · subst he
    by_cases hl : 32768 < m
    · have : nextR bs = ([], 0, 4) := by unfold nextR; rw [hr]; simp [hl]
      rw [this]
      exact Next_long H hbl hr hl
    · by_cases hs : bs.length - k < m + 4
      · have : nextR bs = ([], 0, 2) := by unfold nextR; rw [hr]; simp [hl, hs]
        rw [this]
        exact Next_short H hbl hr (by omega) hs
      · exact Next_full H hbl hr (by omega) (by omega) HL
  · have : nextR bs = ([], 0, e) := by unfold nextR; rw [hr]; simp [he]
    rw [this]
    exact Next_bad H hbl hr he
end Go.Proofs.YtiapjdbeooonjaaDoor
