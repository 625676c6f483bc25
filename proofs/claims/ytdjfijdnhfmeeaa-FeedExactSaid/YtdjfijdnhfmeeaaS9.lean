/- Three rows of one's own side by side: a feed and two lists; calls that leave the law's subscriber alone. -/
import Derived.Test.YtdjfijdnhfmeeaaS8
import Derived.Test.YtdjfijdnhfmeeaaS2
import Derived.Laws.BitsLemmas
namespace Go.Proofs.Ytdjfijdnhfmeeaa
open Go.RowKit Go.TM
def okF3 (g : Nat) (v u : Value) : Nat → Prop := fun j => j ≠ g ∧ some j ≠ v.ownBlock ∧ some j ≠ u.ownBlock
def okO (g : Nat) (v : Value) : Nat → Prop := fun j => some j ≠ v.ownBlock ∧ j ≠ g
theorem keep3 {n g b : Nat} {w w' : World} {v v' u : Value} {us : List Ev} {D : Fdr} (hF : Fd n (okF3 g v u) w g D) (hU : Own evK 43 w b (okO g v) u us) (hext : Ext (fun k => some k = v.ownBlock) w w') (hvg : v.ownBlock ≠ some g)
    (hblk : v'.ownBlock = v.ownBlock ∨ ∃ b, v'.ownBlock = some b ∧ w.heap.size ≤ b) : Fd n (okF3 g v' u) w' g D ∧ Own evK 43 w' b (okO g v') u us := by
  have hne : ∀ j, j < w.heap.size → some j ≠ v.ownBlock → some j ≠ v'.ownBlock := fun j hj h1 h2 => by
    rcases hblk with e | ⟨b, e, hb⟩
    · exact h1 (h2.trans e)
    · rw [e] at h2
      cases h2
      omega
  refine ⟨?_, ?_⟩
  · have h1 : Fd n (fun j => okF3 g v u j ∧ j < w.heap.size) w g D := hF.re (fun k hk hl => ⟨hk, hl⟩) (fun h => h.1.1 rfl)
    have h2 := h1.ext hext (fun k hk h => hk.1.2.1 h) (fun h => hvg h.symm)
    exact h2.re (fun k hk _ => ⟨hk.1.1, hne k hk.2 hk.1.2.1, hk.1.2.2⟩) (fun h => h.1 rfl)
  · exact (hU.bound.ext hext (fun k hk _ h => hk.1.1 h)).mono (fun k hk => ⟨hne k hk.2 hk.1.1, hk.1.2⟩)
theorem Fd.swap3 {n g : Nat} {w : World} {v u : Value} {D : Fdr} (h : Fd n (okF3 g v u) w g D) : Fd n (okF3 g u v) w g D := h.re (fun _ hk _ => ⟨hk.1, hk.2.2, hk.2.1⟩) (fun h => h.1 rfl)
theorem own_ne {b g : Nat} {w : World} {v u : Value} {us : List Ev} (h : Own evK 43 w b (okO g v) u us) : u.ownBlock ≠ some g := fun e => (h.1 g e).2 rfl
theorem and7 (n : Int) : bits .and .i64 n 7 = n % 8 := by
  have h7 : (BitVec.ofInt 64 7).toNat = 2 ^ 3 - 1 := by decide
  have key : (BitVec.ofInt 64 n &&& BitVec.ofInt 64 7).toNat = (n % ((2 ^ 64 : Nat) : Int)).toNat % 2 ^ 3 := by
    rw [BitVec.toNat_and, BitVec.toNat_ofInt, h7, Nat.and_two_pow_sub_one_eq_mod]
  show IntKind.i64.wrap ((BitVec.ofInt 64 n &&& BitVec.ofInt 64 7).toNat : Nat) = n % 8
  rw [key, IntKind.wrap_i64]
  omega
theorem opc_in (k : Dc) : 0 ≤ opc k ∧ opc k ≤ 7 := by
  unfold opc
  rw [and7]
  omega
/-- A call that is no Note, no Ack and does not drop the law's subscriber. -/
theorem ex_step {n : Nat} {q : Flt} {D : Fdr} {want got : List Ev} {a : Int} {k : Dc} (h4 : ¬ opc k < 4) (h6 : opc k ≠ 6) (h5 : opc k ≠ 5 ∨ k.id ≠ 1) (he : Ex q D want) (h : Rdg n q D want got a) :
    Ex q (stepR n D k).2 want ∧ Rdg n q (stepR n D k).2 want got a := by
  have hb := opc_in k
  unfold stepR
  by_cases c4 : opc k = 4
  · rw [if_pos c4]
    exact ⟨ex_add he k.q, rdg_add h he k.q⟩
  · rw [if_neg c4]
    by_cases c5 : opc k = 5
    · rw [if_pos c5]
      have hid : k.id ≠ 1 := h5.resolve_left (fun h => h c5)
      exact ⟨ex_drop he hid, rdg_drop h he hid⟩
    · rw [if_neg c5, if_neg h6, if_pos (by omega)]
      exact ⟨he, h⟩
theorem ex_live {n : Nat} {q : Flt} {D : Fdr} {want : List Ev} {a most : Int} {o : List Ev} {t : Int} (he : Ex q D want) (h : readR n D 1 a most = (o, t, 0)) : ∀ s rest, D.subs = s :: rest → s.gone = false := fun s rest h1 => by
  obtain ⟨s0, rest0, h2, h3, _⟩ := he.first
  rw [h2] at h1
  cases h1
  have hf := findR_first h2 h3
  cases hg : s.gone with
  | false => rfl
  | true =>
    unfold readR at h
    rw [hf, hg] at h
    simp at h
theorem ex_done {n : Nat} {q : Flt} {D : Fdr} {want got : List Ev} (he : Ex q D want) (h : Rdg n q D want got D.top) (hl : ∀ s rest, D.subs = s :: rest → s.gone = false) : got = passQ n q want := by
  obtain ⟨s, rest, h1, _⟩ := he.first
  obtain ⟨_, _, h3⟩ := h.live s rest h1 (hl s rest h1)
  rw [h3, show upTo D.top want = want from List.filter_eq_self.2 fun e hm => by simpa using (he.wtop e hm).1]
theorem int_at {w : World} {ok : Nat → Prop} {A : Option Addr} {n c : Nat} {xs : List Int} (h : Rd Kd.i64 w ok (.slice A n c) xs) {j : Nat} {x : Int} (hs : xs[j]? = some x) :
    ∃ g off, A = some ⟨g, off, none⟩ ∧ ok g ∧ g < w.heap.size ∧ w.cell? ⟨g, off + j, none⟩ = some (.int .i64 x) := by
  obtain ⟨g, off, rfl, hg, hgl, hc⟩ := h.flat_at hs
  exact ⟨g, off, rfl, hg, hgl, by simpa using hc 0 _ rfl⟩
theorem tmod_le {x a : Int} (ha : 0 ≤ a) : x.tmod (a + 1) ≤ a := by
  have := Int.tmod_lt_of_pos x (show 0 < a + 1 by omega)
  omega
theorem ack_good {n : Nat} {D : Fdr} {id pos : Int} (h : Good n D) : Good n (ackR D id pos).2 := by
  unfold ackR
  split
  · exact h
  · split
    · exact h
    · split
      · exact h
      · refine Good.trim ⟨h.next, h.top, h.evs, by show (setAt _ _ _).length ≤ 4; rw [setAt_len]; exact h.subs, h.now, fun s hs => ?_⟩
        rcases setAt_mem hs with hs | ⟨y, hy, rfl⟩
        · exact h.q s hs
        · exact h.q y hy
end Go.Proofs.Ytdjfijdnhfmeeaa
