/- FilterPuts: the law holds of every filter. -/
import Derived.Test.YtooafilbmjnfmaaK0
import Derived.Test.YtooafilbmjnfmaaW1
namespace Go.Proofs.Ytooafilbmjnfmaa
open Go.RowKit Go.TM
set_option maxRecDepth 100000 in
set_option maxHeartbeats 8000000 in
theorem puts_calls {n : Nat} {f : Flt} {w : World} {ok : Nat → Prop} {x : Value} (hx : FV n w ok x f) (hok : okF (n + 1) f) : Calls Try.prog 7 #[x] w fun e w' => e = .returned (.bool true) ∧ Ext Non w w' := by
  obtain ⟨b, hb⟩ : ∃ b, lightF (n + 1) f = b := ⟨_, rfl⟩
  have HLO : Hid (b = true → okL (n + 1) f) := fun h => light_ok hok (hb.trans h)
  have HX := Lib.hid hx
  have HOK := Lib.hid hok
  have HB := Lib.hid hb
  clear hb hok
  obtain ⟨v, rfl, hr⟩ := hx
  obtain ⟨op, key, val, kids⟩ := f
  obtain ⟨A, n, c, rfl, hlen⟩ := rd_abs hr
  clear hr hlen
  dsimp only [Flt.op, Flt.key, Flt.val] at HX ⊢
  go_enter Try.func7, Try.ntmps7
  go_wp2_with fail
  have E0 : Hid (Ext Non w (w.alloc (.cells #[.int .i64 op, .string key, .string val, .slice A n c] 24))) := (Ext.refl _ _).alloc _
  have BX : Hid ((w.alloc (.cells #[.int .i64 op, .string key, .string val, .slice A n c] 24)).heap[w.heap.size]? = some (.cells #[.int .i64 op, .string key, .string val, .slice A n c] 24)) := blk_new _ _
  obtain ⟨w0, hw0⟩ : ∃ w0, w.alloc (.cells #[.int .i64 op, .string key, .string val, .slice A n c] 24) = w0 := ⟨_, rfl⟩
  rw [hw0] at E0 BX ⊢
  have VX := Lib.hid (HX.out.ext0 E0.out)
  clear hw0
  refine (light_calls VX.out HOK.out).mono ?_
  rw [HB.out]
  rintro e w1 ⟨rfl, he⟩
  have E1 := Lib.hid (E0.out.trans0 he)
  have V1 := Lib.hid (VX.out.ext0 he)
  have B1 := Lib.hid (he.obj BX.out (fun h => h))
  have y0 : w1.cell? ⟨w.heap.size, 0, none⟩ = some (.int .i64 op) := blk_cell B1.out 0
  have y1 : w1.cell? ⟨w.heap.size, 1, none⟩ = some (.string key) := blk_cell B1.out 1
  have y2 : w1.cell? ⟨w.heap.size, 2, none⟩ = some (.string val) := blk_cell B1.out 2
  have y3 : w1.cell? ⟨w.heap.size, 3, none⟩ = some (.slice A n c) := blk_cell B1.out 3
  clear he
  cases b with
  | false =>
    clear HLO
    go_wp2_with fail
    refine (awake_calls _).mono ?_
    rintro e w2 ⟨rfl, he⟩
    have E2 := Lib.hid (E1.out.trans0 he)
    clear he
    go_wp2_with fail
    go_ret
    exact ⟨rfl, E2.out⟩
  | true =>
    have HLK := Lib.hid (HLO.out rfl)
    clear HLO
    go_wp2_with fail
    refine (Put_calls V1.out HLK.out).mono ?_
    rintro e w2 ⟨A2, n2, c2, rfl, ho, he⟩
    have O2 := Lib.hid ho.rd
    have E2 := Lib.hid (E1.out.trans0 he)
    have V2 := Lib.hid (V1.out.ext0 he)
    have B2 := Lib.hid (he.obj B1.out (fun h => h))
    have y0 : w2.cell? ⟨w.heap.size, 0, none⟩ = some (.int .i64 op) := blk_cell B2.out 0
    have y1 : w2.cell? ⟨w.heap.size, 1, none⟩ = some (.string key) := blk_cell B2.out 1
    have y2 : w2.cell? ⟨w.heap.size, 2, none⟩ = some (.string val) := blk_cell B2.out 2
    have y3 : w2.cell? ⟨w.heap.size, 3, none⟩ = some (.slice A n c) := blk_cell B2.out 3
    clear he ho
    go_wp2_with fail
    refine (RPut_calls V2.out HLK.out).mono ?_
    rintro e w3 ⟨A3, n3, c3, rfl, ho, he⟩
    have O3 := Lib.hid ho.rd
    have P3 := Lib.hid (O2.out.ext0 he)
    have E3 := Lib.hid (E2.out.trans0 he)
    clear he ho
    go_wp2_with fail
    refine (Equal_calls P3.out O3.out).mono ?_
    rw [beq_self_eq_true]
    rintro e w4 ⟨rfl, rfl⟩
    go_wp2_with fail
    refine (awake_calls _).mono ?_
    rintro e w5 ⟨rfl, he⟩
    have E5 := Lib.hid (E3.out.trans0 he)
    clear he
    go_wp2_with fail
    go_ret
    exact ⟨rfl, E5.out⟩
end Go.Proofs.Ytooafilbmjnfmaa
