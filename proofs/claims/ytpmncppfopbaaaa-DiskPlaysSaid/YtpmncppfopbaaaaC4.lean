/- made. -/
import Derived.Test.YtpmncppfopbaaaaC3
namespace Go.Proofs.Ytpmncppfopbaaaa
open Go.RowKit Go.TM

/-- Calls that may be gone through. -/
structure Fine (l : List TM.Call) : Prop where
  n : l.length ≤ 1000
  b : ∀ k ∈ l, k.b.length ≤ 140737488355328
  ok : ∀ k ∈ l, k.Ok
def MadePost (d : Dk) (w : World) (e : Ending) (w' : World) : Prop :=
  ∃ g, e = .returned (.pointer (some ⟨g, 0, none⟩)) ∧ w.heap.size ≤ g ∧ g < w'.heap.size ∧ Live w' (Mine w.heap.size g) g d ∧ Ext Non w w'
theorem run_take {d : Dk} {l : List TM.Call} {j : Nat} {k : TM.Call} (h : l[j]? = some k) : d.run (l.take (j + 1)) = ((d.run (l.take j)).call k).2 := by
  rw [List.take_add_one, h]
  unfold Dk.run
  rw [List.foldl_append]
  rfl
theorem _root_.Go.TM.Ext.only_new {w w1 w2 : World} {g : Nat} (h : Ext Non w w1) (he : Ext (Only g) w1 w2) (hg : w.heap.size ≤ g) : Ext Non w w2 := h.trans he (fun i hi e => by
  have e' : i = g := e
  omega)
theorem Live.lt {w : World} {ok : Nat → Prop} {g : Nat} {d : Dk} (h : Live w ok g d) : g < w.heap.size := h.at_.cells.2.2.2.2.2.2
set_option maxHeartbeats 1000000 in
theorem made_calls {w : World} {ok : Nat → Prop} {A : Option Addr} {n c : Nat} {l : List TM.Call} (R : Rd callK w ok (.slice A n c) l) (hl : Fine l) (room : Int) (h1 : 1 ≤ room) (h2 : room ≤ 16777216) :
    Calls Try.prog 14 #[.int .i64 room, .slice A n c] w (MadePost ((Dk.new room).run l) w) := by
  have HR := Lib.hid R
  obtain ⟨hn, hm⟩ := rd_len R
  have HN := Lib.hid hn
  have HL := Lib.hid hl
  have hn1 := hl.n
  have q0 : (n : Int) ≤ 1000 := by omega
  have HG0 := Lib.hid (Dk.Good.new h1 h2)
  clear R hn hm hl hn1
  go_enter Try.func14, Try.ntmps14
  go_wp2_with fail
  refine (New_calls w room h1 h2).mono ?_
  rintro e w1 ⟨rfl, hl1, he1, hz1⟩
  have HL1 := Lib.hid hl1
  have E1 := Lib.hid he1
  clear hl1 he1
  go_wp2_with fail
  go_loopw [16] (fun i wr => ∃ j : Nat, i = .int .i64 j ∧ j ≤ n ∧ Hid (Live wr (Mine w.heap.size w.heap.size) w.heap.size ((Dk.new room).run (l.take j))) ∧ Hid (Ext Non w wr)) (fun i _ => n - (intOf i).toNat)
  case atStart => exact ⟨0, rfl, by omega, HL1.out, E1.out⟩
  case round =>
    obtain ⟨j, rfl, hj, HLr, HEr⟩ := hrel
    by_cases hlt : j < n
    · obtain ⟨k, hx⟩ : ∃ k, l[j]? = some k := ⟨_, List.getElem?_eq_getElem (by have := HN.out; omega)⟩
      obtain ⟨g, off, B, mb, d, rfl, hgl, e0, e1, e2, e3, e4, hv⟩ := call_at (HR.out.ext0 HEr.out) hx
      have HX := Lib.hid hx
      have HV := Lib.hid hv
      have HB := Lib.hid (HL.out.b k (List.mem_of_getElem? hx))
      have HK := Lib.hid (HL.out.ok k (List.mem_of_getElem? hx))
      have HRT := Lib.hid (run_take (d := Dk.new room) hx)
      have eA : Ext Non wr (wr.alloc (.cells #[.int .i64 k.op, .int .i64 k.i, .int .i64 k.keep, .int .i64 k.tear, .slice B mb d] 43)) := (Ext.refl Non wr).alloc _
      have HL2 := Lib.hid (HLr.out.ext eA)
      have HV2 := Lib.hid (hv.ext0 eA)
      have E2 := Lib.hid (HEr.out.trans0 eA)
      clear hx hv eA
      go_wp2_with fail
      refine (does_calls HL2.out k HV2.out HB.out).mono ?_
      rintro e w3 ⟨rfl, hd, he⟩
      have hwl : ((Dk.new room).run (l.take (j + 1))).wait.length ≤ 100000000 := by
        have h1 := Dk.run_wait (Dk.new room) (l.take (j + 1))
        have h2 : (Dk.new room).wait.length = 0 := rfl
        have h3 : (l.take (j + 1)).length ≤ l.length := by rw [List.length_take]; omega
        have h4 := HL.out.n
        omega
      have hl3 : Live w3 (Mine w.heap.size w.heap.size) w.heap.size ((Dk.new room).run (l.take (j + 1))) := by
        refine HL2.out.next ?_ he ?_ hwl
        · rw [HRT.out]; exact hd
        · rw [HRT.out]; exact HL2.out.good.call HK.out
      have HL3 := Lib.hid hl3
      have E3 := Lib.hid (E2.out.only_new he (Nat.le_refl _))
      clear hd he hwl hl3
      go_wp2_with fail
      go_roundw
      case rel => exact ⟨j + 1, by go_num, by omega, HL3.out, E3.out⟩
      case measure => simp [intOf]; omega
    · obtain rfl : j = n := by omega
      have HLF : Hid (Live wr (Mine w.heap.size w.heap.size) w.heap.size ((Dk.new room).run l)) := by
        have := HLr.out
        rw [List.take_of_length_le (by have := HN.out; omega)] at this
        exact this
      go_wp2_with fail
      go_ret
      exact ⟨_, rfl, Nat.le_refl _, HLF.out.lt, HLF.out, HEr.out⟩
end Go.Proofs.Ytpmncppfopbaaaa
