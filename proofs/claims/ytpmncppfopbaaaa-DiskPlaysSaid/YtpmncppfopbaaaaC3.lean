/- short, made. -/
import Derived.Test.YtpmncppfopbaaaaC2
namespace Go.Proofs.Ytpmncppfopbaaaa
open Go.RowKit Go.TM

def ShortPost (l : List TM.Call) (w : World) (e : Ending) (w' : World) : Prop :=
  ∃ b, e = .returned (.bool b) ∧ w = w' ∧ (b = true → l.length ≤ 200 ∧ ∀ k ∈ l, k.b.length ≤ 32768)
def ShortInv (l : List TM.Call) (j m : Nat) : Prop := ∀ k ∈ l.take j, min k.b.length 32769 ≤ m
theorem call_at {w : World} {ok : Nat → Prop} {A : Option Addr} {n c : Nat} {l : List TM.Call} (h : Rd callK w ok (.slice A n c) l) {j : Nat} {k : TM.Call} (hx : l[j]? = some k) :
    ∃ g off B m d, A = some ⟨g, off, none⟩ ∧ g < w.heap.size ∧ w.cell? ⟨g, off + j * 5, none⟩ = some (.int .i64 k.op) ∧ w.cell? ⟨g, off + j * 5 + 1, none⟩ = some (.int .i64 k.i) ∧ w.cell? ⟨g, off + j * 5 + 2, none⟩ = some (.int .i64 k.keep) ∧
      w.cell? ⟨g, off + j * 5 + 3, none⟩ = some (.int .i64 k.tear) ∧ w.cell? ⟨g, off + j * 5 + 4, none⟩ = some (.slice B m d) ∧ Rd Kd.u8 w ok (.slice B m d) k.b := by
  obtain ⟨g, off, cs, rfl, hg, hgl, hk, hcs⟩ := h.at_ hx
  obtain ⟨v, rfl, hv⟩ := hk
  obtain ⟨B, m, d, rfl, -⟩ := rd_abs hv
  exact ⟨g, off, B, m, d, rfl, hgl, hcs 0 _ rfl, hcs 1 _ rfl, hcs 2 _ rfl, hcs 3 _ rfl, hcs 4 _ rfl, hv⟩
theorem rd_len {α : Type} {d : Kd α} {w : World} {ok : Nat → Prop} {A : Option Addr} {n c : Nat} {xs : List α} (h : Rd d w ok (.slice A n c) xs) : n = xs.length ∧ xs.length ≤ 9223372036854775807 := by
  obtain ⟨A', c', he, hc, hm⟩ := h.slice
  simp only [Value.slice.injEq] at he
  exact ⟨he.2.1, hm⟩
set_option maxHeartbeats 1000000 in
theorem short_calls {w : World} {ok : Nat → Prop} {A : Option Addr} {n c : Nat} {l : List TM.Call} (R : Rd callK w ok (.slice A n c) l) :
    Calls Try.prog 12 #[.slice A n c] w (ShortPost l w) := by
  have HR := Lib.hid R
  obtain ⟨hn, hm⟩ := rd_len R
  have HN := Lib.hid hn
  have q0 : (n : Int) ≤ 9223372036854775807 := by omega
  clear R hn hm
  go_enter Try.func12, Try.ntmps12
  go_wp2_with fail
  go_loop [3, 4] (fun t i => ∃ j m : Nat, t = .int .i64 m ∧ i = .int .i64 j ∧ j ≤ n ∧ m ≤ 65537 ∧ ShortInv l j m) (fun _ i => n - (intOf i).toNat)
  case atStart => exact ⟨0, 0, rfl, rfl, by omega, by omega, fun k hk => by simp at hk⟩
  case round =>
    obtain ⟨j, m, rfl, rfl, hj, hm, HI⟩ := hrel
    have HI := Lib.hid HI
    by_cases hlt : j < n
    · by_cases h2 : j ≤ 200
      · by_cases h3 : m ≤ 32768
        · obtain ⟨k, hx⟩ : ∃ k, l[j]? = some k := ⟨_, List.getElem?_eq_getElem (by have := HN.out; omega)⟩
          obtain ⟨g, off, B, mb, d, rfl, hgl, -, -, -, -, e4, hv⟩ := call_at HR.out hx
          obtain ⟨hmb, hmm⟩ := rd_len hv
          have HX := Lib.hid hx
          have p2 : (j : Int) ≤ 200 := by omega
          have p3 : (m : Int) ≤ 32768 := by omega
          have hnext : ShortInv l (j + 1) (m + min mb 32769) := by
            intro y hy
            rw [List.take_add_one, List.mem_append] at hy
            rcases hy with hy | hy
            · have := HI.out y hy
              omega
            · rw [hx] at hy
              simp at hy
              subst hy
              omega
          have HNX := Lib.hid hnext
          have HMB := Lib.hid hmb
          clear hx hv hmb hmm h2 h3 hnext
          by_cases hb : (mb : Int) ≤ 32769
          · have HB := Lib.hid hb
            go_wp2_with fail
            all_goals
              go_round
              case rel => exact ⟨j + 1, m + min mb 32769, by go_num, by go_num, by omega, by omega, HNX.out⟩
              case measure => simp [intOf]; omega
          · have HB := Lib.hid hb
            go_wp2_with fail
            all_goals
              go_round
              case rel => exact ⟨j + 1, m + min mb 32769, by have := HB.out; go_num, by go_num, by omega, by omega, HNX.out⟩
              case measure => simp [intOf]; omega
        · have p2 : (j : Int) ≤ 200 := by omega
          have p3 : ¬ (m : Int) ≤ 32768 := by omega
          clear h2 h3
          go_wp2_with fail
          all_goals
            go_ret
            exact ⟨_, rfl, rfl, fun h => by simp at h⟩
      · have p2 : ¬ (j : Int) ≤ 200 := by omega
        have p3 : ¬ (n : Int) ≤ 200 := by omega
        clear h2
        go_wp2_with fail
        go_ret
        exact ⟨_, rfl, rfl, fun h => by simp at h⟩
    · obtain rfl : j = n := by omega
      have HJ : Hid (∀ k ∈ l, min k.b.length 32769 ≤ m) := by
        have h := HI.out
        unfold ShortInv at h
        rw [List.take_of_length_le (by have := HN.out; omega)] at h
        exact h
      by_cases h2 : j ≤ 200
      · have p2 : (j : Int) ≤ 200 := by omega
        by_cases h3 : m ≤ 32768
        · have p3 : (m : Int) ≤ 32768 := by omega
          clear h3
          go_wp2_with fail
          go_ret
          exact ⟨_, rfl, rfl, fun _ => ⟨by have := HN.out; omega, fun k hk => by have := HJ.out k hk; omega⟩⟩
        · have p3 : ¬ (m : Int) ≤ 32768 := by omega
          clear h3
          go_wp2_with fail
          go_ret
          exact ⟨_, rfl, rfl, fun h => by simp at h⟩
      · have p2 : ¬ (j : Int) ≤ 200 := by omega
        clear h2
        go_wp2_with fail
        go_ret
        exact ⟨_, rfl, rfl, fun h => by simp at h⟩
end Go.Proofs.Ytpmncppfopbaaaa
