/- What no act touched stays; bytes.HasPrefix. -/
import Derived.Test.YtpmncppfopbaaaaD1
namespace Go.Proofs.Ytpmncppfopbaaaa
open Go.RowKit Go.TM

/-- Acts since a Sync, and what they touched. -/
structure Lasting (P : Plate) (t0 t1 t2 : Bool) (d : Dk) : Prop where
  good : d.Good
  off : d.off = false
  left : d.left = 0
  kept : d.kept = P
  all : ∀ a ∈ d.wait, (a.kind = 0 → t0 = true) ∧ (a.kind = 1 → t1 = true) ∧ (a.kind = 3 → t2 = true)
structure Stays (P : Plate) (t0 t1 t2 : Bool) (N : Plate) : Prop where
  s0 : t0 = false → N.s0 = P.s0
  s1 : t1 = false → N.s1 = P.s1
  tape : t2 = false → P.tape <+: N.tape
theorem Stays.does {P N : Plate} {t0 t1 t2 : Bool} {a : DAct} (h : Stays P t0 t1 t2 N) (hk : 0 ≤ a.kind ∧ a.kind ≤ 3) (ha : (a.kind = 0 → t0 = true) ∧ (a.kind = 1 → t1 = true) ∧ (a.kind = 3 → t2 = true)) : Stays P t0 t1 t2 (N.does a) := by
  unfold Plate.does
  split
  · exact ⟨h.s0, h.s1, fun e => (h.tape e).trans (List.prefix_append _ _)⟩
  · split
    · rename_i h3
      exact ⟨h.s0, h.s1, fun e => (by rw [ha.2.2 h3] at e; cases e)⟩
    · split
      · rename_i h0
        exact ⟨fun e => (by rw [ha.1 h0] at e; cases e), h.s1, h.tape⟩
      · rename_i h2 h3 h0
        exact ⟨h.s0, fun e => (by rw [ha.2.1 (by omega)] at e; cases e), h.tape⟩
theorem Stays.all {P : Plate} {t0 t1 t2 : Bool} : ∀ (l : List DAct) {N : Plate}, Stays P t0 t1 t2 N → (∀ a ∈ l, 0 ≤ a.kind ∧ a.kind ≤ 3) → (∀ a ∈ l, (a.kind = 0 → t0 = true) ∧ (a.kind = 1 → t1 = true) ∧ (a.kind = 3 → t2 = true)) → Stays P t0 t1 t2 (N.all l)
  | [], _, h, _, _ => h
  | a :: l, _, h, hk, ha => Stays.all l (h.does (hk a (List.mem_cons_self ..)) (ha a (List.mem_cons_self ..))) (fun x hx => hk x (List.mem_cons_of_mem _ hx)) (fun x hx => ha x (List.mem_cons_of_mem _ hx))
theorem Lasting.fell {P : Plate} {t0 t1 t2 : Bool} {d : Dk} (h : Lasting P t0 t1 t2 d) (keep tear : Int) : Stays P t0 t1 t2 (d.fell keep tear) := by
  have h0 : Stays P t0 t1 t2 (d.kept.all (d.wait.take (d.upto keep))) :=
    Stays.all _ (by rw [h.kept]; exact ⟨fun _ => rfl, fun _ => rfl, fun _ => List.prefix_refl _⟩) (fun a ha => h.good.kinds a (List.mem_of_mem_take ha)) (fun a ha => h.all a (List.mem_of_mem_take ha))
  unfold Dk.fell
  cases hx : d.wait[d.upto keep]? with
  | none => exact h0
  | some a =>
    have hm := List.mem_of_getElem? hx
    show Stays P t0 t1 t2 ((d.kept.all (d.wait.take (d.upto keep))).torn a tear)
    unfold Plate.torn
    split
    · exact h0
    · exact h0.does (a := a.cut tear) (h.good.kinds a hm) (h.all a hm)
theorem Lasting.acted {P : Plate} {t0 t1 t2 u0 u1 u2 : Bool} {d : Dk} (h : Lasting P t0 t1 t2 d) {a : DAct} (hg : (d.acted a).Good) (m0 : t0 = true → u0 = true) (m1 : t1 = true → u1 = true) (m2 : t2 = true → u2 = true)
    (ha : (a.kind = 0 → u0 = true) ∧ (a.kind = 1 → u1 = true) ∧ (a.kind = 3 → u2 = true)) : Lasting P u0 u1 u2 (d.acted a) :=
  ⟨hg, h.off, h.left, h.kept, fun x hx => by
    rcases List.mem_append.1 hx with hx | hx
    · have := h.all x hx
      exact ⟨fun e => m0 (this.1 e), fun e => m1 (this.2.1 e), fun e => m2 (this.2.2 e)⟩
    · rw [List.mem_singleton.1 hx]; exact ha⟩
theorem Lasting.mono {P : Plate} {t0 t1 t2 u0 u1 u2 : Bool} {d : Dk} (h : Lasting P t0 t1 t2 d) (m0 : t0 = true → u0 = true) (m1 : t1 = true → u1 = true) (m2 : t2 = true → u2 = true) : Lasting P u0 u1 u2 d :=
  ⟨h.good, h.off, h.left, h.kept, fun x hx => by
    have := h.all x hx
    exact ⟨fun e => m0 (this.1 e), fun e => m1 (this.2.1 e), fun e => m2 (this.2.2 e)⟩⟩
/-- A call that acts, or changes nothing. -/
theorem Lasting.call {P : Plate} {t0 t1 t2 u0 u1 u2 : Bool} {d : Dk} (h : Lasting P t0 t1 t2 d) {k : TM.Call} (hk : k.Ok) (m0 : t0 = true → u0 = true) (m1 : t1 = true → u1 = true) (m2 : t2 = true → u2 = true)
    (hkind : k.kind = 0 ∨ k.kind = 1 ∨ k.kind = 2 ∨ k.kind = 3 ∨ k.kind = 4) (hs : k.kind = 2 ∨ k.kind = 3 → (k.i = 0 → u0 = true) ∧ (k.i = 1 → u1 = true)) (hc : k.kind = 4 → u2 = true) : Lasting P u0 u1 u2 (d.call k).2 := by
  have hab := able_on (good_room h.good) h.off
  have hgood := h.good.call hk
  have hsame : Lasting P u0 u1 u2 d := h.mono m0 m1 m2
  have hact : ∀ a, (d.act a).2 = d.acted a := fun a => by rw [act_left0 h.left]
  revert hgood
  unfold Dk.call
  by_cases h1 : k.kind = 2 ∨ k.kind = 3
  · rw [if_pos h1]
    unfold Dk.slot
    rw [if_neg (by simp [hab])]
    split
    · exact fun _ => hsame
    · rename_i hi
      split
      · rw [hact]
        intro hg
        refine h.acted hg m0 m1 m2 ⟨(hs h1).1, (hs h1).2, fun e => ?_⟩
        have e' : k.i = 3 := e
        omega
      · exact fun _ => hsame
  · rw [if_neg h1]
    by_cases h4 : k.kind = 4
    · rw [if_pos h4]
      unfold Dk.clear
      rw [if_neg (by simp [hab]), hact]
      exact fun hg => h.acted hg m0 m1 m2 ⟨by simp, by simp, fun _ => hc h4⟩
    · rw [if_neg h4, if_neg (by omega), if_neg (by omega), if_neg (by omega), if_neg (by omega)]
      unfold Dk.append
      rw [if_neg (by simp [hab])]
      split
      · rw [hact]
        exact fun hg => h.acted hg m0 m1 m2 ⟨by simp, by simp, by simp⟩
      · exact fun _ => hsame
theorem pre_iff (ys xs : List UInt8) : (ys <+: xs) ↔ ys.length ≤ xs.length ∧ xs.take ys.length = ys := by
  constructor
  · intro h
    exact ⟨h.length_le, (List.prefix_iff_eq_take.1 h).symm⟩
  · intro h
    exact List.prefix_iff_eq_take.2 h.2.symm
theorem HasPrefix_yes {w : World} {ok ok2 : Nat → Prop} {A B : Option Addr} {n m c d : Nat} {xs ys : List UInt8} (H : Rd Kd.u8 w ok (.slice A n c) xs) (K : Rd Kd.u8 w ok2 (.slice B m d) ys) (hp : ys <+: xs) :
    Calls Try.prog 28 #[.slice A n c, .slice B m d] w fun e w' => e = .returned (.bool true) ∧ w = w' := by
  obtain ⟨h1, h2⟩ := (pre_iff _ _).1 hp
  obtain ⟨A', c', he, hc, hm⟩ := H.slice
  simp only [Value.slice.injEq] at he
  obtain ⟨rfl, hn, rfl⟩ := he
  obtain ⟨hmm, -⟩ := rd_len K
  have R := Lib.hid (H.take h1)
  rw [h2] at R
  rw [← hmm] at R
  have HK := Lib.hid K
  have q1 : m ≤ n := by omega
  have q2 : (m : Int) ≤ (n : Int) := by omega
  have q3 : (0 : Int) ≤ (m : Int) := by omega
  have q4 : (m : Int) ≤ (c : Int) := by omega
  have q5 : max (m : Int) 0 = (m : Int) := by omega
  clear H K hp h1 h2 hn hc hm hmm
  go_enter Try.func28, Try.ntmps28
  go_wp2_with fail
  refine (Equal_calls R.out HK.out).mono ?_
  rintro e w1 ⟨rfl, rfl⟩
  rw [beq_self_eq_true]
  go_wp2_with fail
  go_ret
  exact ⟨rfl, rfl⟩
end Go.Proofs.Ytpmncppfopbaaaa
