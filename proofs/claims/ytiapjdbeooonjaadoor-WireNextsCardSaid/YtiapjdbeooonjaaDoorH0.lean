/- Rows of bytes; the frames with which bytes begin; the document's Next. -/
import Derived.Test.YtiapjdbeooonjaaDoorE2
import Derived.Test.YtiapjdbeooonjaaDoorC5
namespace Go.TM
theorem Rd.move' {α : Type} {d : Kd α} {w w1 : World} {ok : Nat → Prop} {v : Value} {xs : List α} (h : Rd d w ok v xs) (hm : ∀ k, ok k → w1.heap[k]? = w.heap[k]?) : Rd d w1 ok v xs := by
  obtain ⟨A, c, rfl, hc, hm', hr⟩ := h
  refine ⟨A, c, rfl, hc, hm', fun h0 => ?_⟩
  obtain ⟨g, off, rfl, hg, hlt, hx⟩ := hr h0
  have hlt1 : g < w1.heap.size := by
    have h1 := hm g hg
    rw [Array.getElem?_eq_getElem hlt] at h1
    exact (Array.getElem?_eq_some_iff.1 h1).1
  refine ⟨g, off, rfl, hg, hlt1, fun j x hj => let ⟨cs, hk, hcs⟩ := hx j x hj; ⟨cs, d.move hm hk, fun i u hu => ?_⟩⟩
  exact (World.cell?_of_block (w := w) (a := ⟨g, off + (j * d.sz + i), none⟩) (hm g hg)).trans (hcs i u hu)
/-- Slices of bytes. -/
def Kd.bytes : Kd (List UInt8) where
  sz := 1
  K := fun w ok x cs => ∃ v, cs = [v] ∧ Rd Kd.u8 w ok v x
  len := fun ⟨_, h, _⟩ => by rw [h]; rfl
  one := fun ⟨v, h, hr⟩ u hu => by
    rw [h] at hu
    obtain ⟨A, c, rfl, _⟩ := hr.slice
    simp at hu
    rw [hu]
    rfl
  mono := fun hok ⟨v, h, hr⟩ => ⟨v, h, hr.mono hok⟩
  bound := fun ⟨v, h, hr⟩ => ⟨v, h, hr.bound⟩
  move := fun hm ⟨v, h, hr⟩ => ⟨v, h, hr.move' hm⟩
theorem bytes_at {w : World} {ok : Nat → Prop} {A : Option Addr} {n c : Nat} {xs : List (List UInt8)} (h : Rd Kd.bytes w ok (.slice A n c) xs) {j : Nat} {x : List UInt8} (hx : xs[j]? = some x) :
    ∃ g off v, A = some ⟨g, off, none⟩ ∧ w.cell? ⟨g, off + j, none⟩ = some v ∧ Rd Kd.u8 w ok v x := by
  obtain ⟨A', c', he, hc, hm, hr⟩ := h
  simp only [Value.slice.injEq] at he
  obtain ⟨rfl, _, rfl⟩ := he
  have hlt := (List.getElem?_eq_some_iff.1 hx).1
  obtain ⟨g, off, rfl, hg, hgl, hx'⟩ := hr (by omega)
  obtain ⟨cs, ⟨v, rfl, hv⟩, hcs⟩ := hx' _ _ hx
  have := hcs 0 v rfl
  have e : off + (j * Kd.bytes.sz + 0) = off + j := by
    show off + (j * 1 + 0) = off + j
    omega
  rw [e] at this
  exact ⟨g, off, v, rfl, this, hv⟩
end Go.TM
namespace Go.Proofs.YtiapjdbeooonjaaDoor
open Go.RowKit Go.TM

theorem info22 : (Tryd.prog.info? 22).map (fun i => (i.zero, i.size, i.bytes)) = some (some (.slice none 0 0), Kd.bytes.sz, 24) := by kernel_rfl

/-! ### All frames, in order -/
def stepA (bs : List UInt8) (s : Nat × List (List UInt8)) : Option (Nat × List (List UInt8)) :=
  if (nextR (bs.drop s.1)).2.2 = 0 then some (s.1 + (nextR (bs.drop s.1)).2.1, s.2 ++ [(nextR (bs.drop s.1)).1]) else none
def iterA (bs : List UInt8) : Nat → Option (Nat × List (List UInt8))
  | 0 => some (0, [])
  | k + 1 => (iterA bs k).bind (stepA bs)
def StopA (bs : List UInt8) (s : Nat × List (List UInt8)) : Prop := ∃ k, iterA bs k = some s ∧ stepA bs s = none
theorem iterA_none {bs : List UInt8} {k : Nat} (h : iterA bs k = none) : ∀ m, iterA bs (k + m) = none
  | 0 => h
  | m + 1 => by
    show (iterA bs (k + m)).bind (stepA bs) = none
    rw [iterA_none h m]
    rfl
theorem StopA.det {bs : List UInt8} {s t : Nat × List (List UInt8)} (hs : StopA bs s) (ht : StopA bs t) : s = t := by
  obtain ⟨k, h1, h2⟩ := hs
  obtain ⟨m, h3, h4⟩ := ht
  rcases Nat.lt_trichotomy k m with h | h | h
  · have hn : iterA bs (k + 1) = none := by
      show (iterA bs k).bind (stepA bs) = none
      rw [h1]
      exact h2
    have := iterA_none hn (m - (k + 1))
    rw [show k + 1 + (m - (k + 1)) = m from by omega, h3] at this
    cases this
  · subst h
    rw [h1] at h3
    exact Option.some.inj h3
  · have hn : iterA bs (m + 1) = none := by
      show (iterA bs m).bind (stepA bs) = none
      rw [h3]
      exact h4
    have := iterA_none hn (k - (m + 1))
    rw [show m + 1 + (k - (m + 1)) = k from by omega, h1] at this
    cases this
theorem nextR_at {bs : List UInt8} (h : (nextR bs).2.2 = 0) : 5 ≤ (nextR bs).2.1 ∧ (nextR bs).2.1 ≤ bs.length ∧ (nextR bs).1.length ≤ 32768 := by
  obtain ⟨⟨m, j, e⟩, hr⟩ : ∃ r, numR bs = r := ⟨_, rfl⟩
  unfold nextR at h ⊢
  rw [hr] at h ⊢
  simp only [] at h ⊢
  by_cases he : e = 0
  · subst he
    obtain ⟨h0, hjl, hnum, _⟩ := numR_ok hr
    rw [if_neg (by simp)] at h ⊢
    by_cases hm : 32768 < m
    · rw [if_pos hm] at h; simp at h
    · rw [if_neg hm] at h ⊢
      by_cases hs : bs.length - j < m + 4
      · rw [if_pos hs] at h; simp at h
      · rw [if_neg hs] at h ⊢
        by_cases hc : (bs.drop (j + m)).take 4 = sum4 (Crc.sum (bs.take (j + m)))
        · rw [if_pos hc]
          simp only [List.length_take]
          omega
        · rw [if_neg hc] at h; simp at h
  · rw [if_pos he] at h
    exact absurd h he
theorem iterA_step {bs : List UInt8} {j a : Nat} {out : List (List UInt8)} (h : iterA bs j = some (a, out)) (he : (nextR (bs.drop a)).2.2 = 0) : iterA bs (j + 1) = some (a + (nextR (bs.drop a)).2.1, out ++ [(nextR (bs.drop a)).1]) := by
  show (iterA bs j).bind (stepA bs) = _
  rw [h]
  show stepA bs (a, out) = _
  unfold stepA
  rw [if_pos he]
theorem stopA_of {bs : List UInt8} {j a : Nat} {out : List (List UInt8)} (h : iterA bs j = some (a, out)) (he : (nextR (bs.drop a)).2.2 ≠ 0) : StopA bs (a, out) := by
  refine ⟨j, h, ?_⟩
  unfold stepA
  rw [if_neg he]

set_option maxHeartbeats 1000000 in
theorem EqualF_calls {w : World} {ok ok2 : Nat → Prop} {A B : Option Addr} {n m c d : Nat} {xs : List (List UInt8)} (H : Rd Kd.bytes w ok (.slice A n c) xs) (K : Rd Kd.bytes w ok2 (.slice B m d) xs) :
    Calls Tryd.prog 39 #[.slice A n c, .slice B m d, .func (.func 20) #[] #[]] w fun e w' => e = .returned (.bool true) ∧ w = w' := by
  have hn : n = xs.length := by
    obtain ⟨_, _, he, _, _⟩ := H.slice
    simp only [Value.slice.injEq] at he
    exact he.2.1
  have hm : m = xs.length := by
    obtain ⟨_, _, he, _, _⟩ := K.slice
    simp only [Value.slice.injEq] at he
    exact he.2.1
  have hmax : xs.length ≤ 9223372036854775807 := by
    obtain ⟨_, _, _, _, h⟩ := H.slice
    exact h
  subst hn hm
  have HH := Lib.hid H
  have HK := Lib.hid K
  clear H K
  go_enter Tryd.func39, Tryd.ntmps39
  go_wp2_with fail
  go_loopw [17] (fun i wr => ∃ j : Nat, i = .int .i64 (j : Int) ∧ j ≤ xs.length ∧ wr = w) (fun i _ => xs.length - (intOf i).toNat)
  case atStart => exact ⟨0, rfl, by omega, rfl⟩
  case round =>
    obtain ⟨j, rfl, hj, rfl⟩ := hrel
    by_cases hlt : j < xs.length
    · obtain ⟨x, hx⟩ : ∃ x, xs[j]? = some x := ⟨_, List.getElem?_eq_getElem hlt⟩
      obtain ⟨g1, o1, v1, rfl, d1, r1⟩ := bytes_at HH.out hx
      obtain ⟨g2, o2, v2, rfl, d2, r2⟩ := bytes_at HK.out hx
      obtain ⟨A1, _, c1, rfl, rfl⟩ := Rd.abs8 r1
      obtain ⟨A2, _, c2, rfl, rfl⟩ := Rd.abs8 r2
      have q0 : (j : Int) < (xs.length : Int) := by omega
      have q1 : (0 : Int) ≤ (j : Int) := by omega
      have R1 := Lib.hid r1
      have R2 := Lib.hid r2
      clear r1 r2 hx
      go_wp2_with fail
      refine (Equal_calls R1.out R2.out).mono ?_
      rintro e w2 ⟨rfl, rfl⟩
      rw [beq_self_eq_true]
      go_wp2_with fail
      go_roundw
      case rel => exact ⟨j + 1, by simp, by omega, trivial⟩
      case measure => simp [intOf]; omega
    · obtain rfl : j = xs.length := by omega
      go_wp2_with fail
      go_ret
      exact ⟨rfl, rfl⟩

end Go.Proofs.YtiapjdbeooonjaaDoor
