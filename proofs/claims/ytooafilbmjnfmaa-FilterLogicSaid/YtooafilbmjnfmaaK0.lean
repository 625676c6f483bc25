/- The verifier's examples. -/
import Derived.Test.YtooafilbmjnfmaaJ5
import Derived.Test.YtooafilbmjnfmaaHB
namespace Go.Proofs.Ytooafilbmjnfmaa
open Go.RowKit Go.TM
def exF : Flt := .mk 5 ⟨#[]⟩ ⟨#[]⟩ [.mk 1 ⟨#[]⟩ ⟨#[97]⟩ [], .mk 3 ⟨#[]⟩ ⟨#[]⟩ []]
def exG : Flt := .mk 4 ⟨#[]⟩ ⟨#[]⟩ []
def exE : Ev := ⟨0, ⟨#[97, 98]⟩, false, ⟨#[]⟩, true, ⟨#[]⟩⟩
def exE2 : Ev := ⟨0, ⟨#[97, 98]⟩, true, ⟨#[]⟩, false, ⟨#[]⟩⟩
theorem inI_small {n : Int} (h0 : 0 ≤ n) (h1 : n ≤ 1000) : inI n := ⟨by omega, by omega⟩
theorem ex_ok : okL 2 exF := by
  refine ⟨inI_small (by decide) (by decide), by decide, by decide, by decide, fun k hk => ?_⟩
  simp only [exF, Flt.kids, List.mem_cons, List.not_mem_nil, or_false] at hk
  rcases hk with rfl | rfl
  · exact ⟨inI_small (by decide) (by decide), by decide, by decide, by decide, fun k hk => by cases hk⟩
  · exact ⟨inI_small (by decide) (by decide), by decide, by decide, by decide, fun k hk => by cases hk⟩
theorem exG_ok : okL 1 exG := ⟨inI_small (by decide) (by decide), by decide, by decide, by decide, fun k hk => by cases hk⟩
theorem ex_no : noEq 2 exF := by
  refine ⟨by decide, fun k hk => ?_⟩
  simp only [exF, Flt.kids, List.mem_cons, List.not_mem_nil, or_false] at hk
  rcases hk with rfl | rfl
  · exact ⟨by decide, fun k hk => by cases hk⟩
  · exact ⟨by decide, fun k hk => by cases hk⟩
theorem ex_check : checkE 2 exF = 0 := by kernel_rfl
theorem exG_check : checkE 1 exG = 50 := by kernel_rfl
def noFp : FieldFn := fun _ _ => (⟨#[]⟩, false)
theorem ex_holds : holdsP noFp 2 exF exE = true := by kernel_rfl
theorem ex_holds2 : holdsP noFp 2 exF exE2 = false := by kernel_rfl
theorem ex_fv {w : World} {g : Nat} (h : w.heap[g]? = some (.cells #[.int .i64 1, .string ⟨#[]⟩, .string ⟨#[97]⟩, .slice none 0 0, .int .i64 3, .string ⟨#[]⟩, .string ⟨#[]⟩, .slice none 0 0] 24)) :
    FV 1 w (fun k => k < w.heap.size) (.agg #[.int .i64 5, .string ⟨#[]⟩, .string ⟨#[]⟩, .slice (some ⟨g, 0, none⟩) 2 2]) exF := by
  refine ⟨_, rfl, ?_⟩
  have h1 : Reps (fltK 1) w (fun k => k < w.heap.size) [.mk 1 ⟨#[]⟩ ⟨#[97]⟩ []] [.int .i64 1, .string ⟨#[]⟩, .string ⟨#[97]⟩, .slice none 0 0] := Reps.single ⟨_, rfl, Rd.nil _ _ _⟩
  have h2 : Reps (fltK 1) w (fun k => k < w.heap.size) [.mk 3 ⟨#[]⟩ ⟨#[]⟩ []] [.int .i64 3, .string ⟨#[]⟩, .string ⟨#[]⟩, .slice none 0 0] := Reps.single ⟨_, rfl, Rd.nil _ _ _⟩
  exact Rd.of_inner (h1.append h2) (blk_lt h) (blk_lt h) (Nat.le_refl _) (by decide) (fun j u hu => by rw [Nat.zero_add, blk_cell h]; simpa using hu)
set_option maxRecDepth 100000 in
set_option maxHeartbeats 8000000 in
theorem awake_calls (w : World) : Calls Try.prog 16 #[] w fun e w' => e = .returned (.bool true) ∧ Ext Non w w' := by
  go_enter Try.func16, Try.ntmps16
  go_wp2_with fail
  refine (kind_calls _ 3 none 0 0).mono ?_
  rintro e w1 ⟨rfl, he⟩
  have E1 := Lib.hid he
  clear he
  go_wp2_with fail
  refine (kind_calls _ 5 _ 2 2).mono ?_
  rintro e w3 ⟨rfl, he⟩
  have hB3 := he.obj (blk_new w1 _) (fun h => h)
  have E3 := Lib.hid (E1.out.trans0 (((Ext.refl _ _).alloc _).trans0 he))
  obtain ⟨g, hg⟩ : ∃ g, w1.heap.size = g := ⟨_, rfl⟩
  rw [hg] at hB3 ⊢
  have V3 := Lib.hid (ex_fv hB3)
  clear he hB3 hg
  obtain ⟨w4, hw4⟩ : ∃ w4, w3.alloc (.cells #[.int .i64 5, .string ⟨#[]⟩, .string ⟨#[]⟩, .slice (some ⟨g, 0, none⟩) 2 2] 24) = w4 := ⟨_, rfl⟩
  obtain ⟨q, hq⟩ : ∃ q, w3.heap.size = q := ⟨_, rfl⟩
  have hB4 : w4.heap[q]? = some (.cells #[.int .i64 5, .string ⟨#[]⟩, .string ⟨#[]⟩, .slice (some ⟨g, 0, none⟩) 2 2] 24) := by rw [← hw4, ← hq]; exact blk_new _ _
  have hE4 : Ext Non w3 w4 := by rw [← hw4]; exact (Ext.refl _ _).alloc _
  have V4 := Lib.hid (V3.out.ext0 hE4)
  have E4 := Lib.hid (E3.out.trans0 hE4)
  have B4 := Lib.hid hB4
  clear hB4 hE4
  have y0 : w4.cell? ⟨q, 0, none⟩ = some (.int .i64 5) := blk_cell B4.out 0
  have y1 : w4.cell? ⟨q, 1, none⟩ = some (.string ⟨#[]⟩) := blk_cell B4.out 1
  have y2 : w4.cell? ⟨q, 2, none⟩ = some (.string ⟨#[]⟩) := blk_cell B4.out 2
  have y3 : w4.cell? ⟨q, 3, none⟩ = some (.slice (some ⟨g, 0, none⟩) 2 2) := blk_cell B4.out 3
  go_wp2_with fail
  have HW4 := Lib.hid hw4
  have HQ := Lib.hid hq
  clear hw4 hq
  refine (Put_calls V4.out ex_ok).mono ?_
  rintro e w5 ⟨A, m, c, rfl, ho, he⟩
  rw [ex_check]
  rw [show putOut 2 exF = encF 2 exF from if_pos ex_check] at ho
  have O5 := Lib.hid ho.rd
  have V5 := Lib.hid (V4.out.ext0 he)
  have E5 := Lib.hid (E4.out.trans0 he)
  have B5 := Lib.hid (he.obj B4.out (fun h => h))
  clear he ho y0 y1 y2 y3
  go_wp2_with fail
  refine (Get_calls O5.out (by have := enc_small ex_ok ex_check; omega)).mono ?_
  rintro e w6 ⟨x, rfl, hf, he⟩
  obtain ⟨-, hgf, hge⟩ := gt_put ex_ok ex_check
  rw [hgf] at hf
  rw [hge]
  obtain ⟨v, rfl, hr⟩ := hf
  obtain ⟨A6, n6, c6, rfl, hn6⟩ := rd_abs hr
  dsimp only [exF, Flt.op, Flt.key, Flt.val]
  have V6 : Hid (FV 6 w6 (fun j => w5.heap.size ≤ j) (.agg #[.int .i64 5, .string ⟨#[]⟩, .string ⟨#[]⟩, .slice A6 n6 c6]) exF) := ⟨_, rfl, hr⟩
  have W6 := Lib.hid (V5.out.ext0 he)
  have E6 := Lib.hid (E5.out.trans0 he)
  have B6 := Lib.hid (he.obj B5.out (fun h => h))
  have y0 : w6.cell? ⟨q, 0, none⟩ = some (.int .i64 5) := blk_cell B6.out 0
  have y1 : w6.cell? ⟨q, 1, none⟩ = some (.string ⟨#[]⟩) := blk_cell B6.out 1
  have y2 : w6.cell? ⟨q, 2, none⟩ = some (.string ⟨#[]⟩) := blk_cell B6.out 2
  have y3 : w6.cell? ⟨q, 3, none⟩ = some (.slice (some ⟨g, 0, none⟩) 2 2) := blk_cell B6.out 3
  have hlq := blk_lt B6.out
  clear hr he hgf hge hn6
  go_wp2_with fail
  refine (Same_calls (f := exF) (W6.out.ext0 ((Ext.refl _ _).alloc _)) (V6.out.ext0 ((Ext.refl _ _).alloc _)) ex_ok).mono ?_
  rintro e w7 ⟨rfl, he⟩
  have W7 := Lib.hid ((W6.out.ext0 ((Ext.refl _ _).alloc _)).ext0 he)
  have E7 := Lib.hid ((E6.out.alloc _).trans0 he)
  have B7 := Lib.hid (he.obj (blk_alloc B6.out _) (fun h => h))
  have y0 : w7.cell? ⟨q, 0, none⟩ = some (.int .i64 5) := blk_cell B7.out 0
  have y1 : w7.cell? ⟨q, 1, none⟩ = some (.string ⟨#[]⟩) := blk_cell B7.out 1
  have y2 : w7.cell? ⟨q, 2, none⟩ = some (.string ⟨#[]⟩) := blk_cell B7.out 2
  have y3 : w7.cell? ⟨q, 3, none⟩ = some (.slice (some ⟨g, 0, none⟩) 2 2) := blk_cell B7.out 3
  clear he
  go_wp2_with fail
  refine (Holds_calls (fp := noFp) (f := exF) (e := exE) W7.out (okF_of ex_ok) (.inl ex_no) (by decide)).mono ?_
  rw [ex_holds]
  rintro e w8 ⟨rfl, he⟩
  have W8 := Lib.hid (W7.out.ext0 he)
  have E8 := Lib.hid (E7.out.trans0 he)
  have B8 := Lib.hid (he.obj B7.out (fun h => h))
  have y0 : w8.cell? ⟨q, 0, none⟩ = some (.int .i64 5) := blk_cell B8.out 0
  have y1 : w8.cell? ⟨q, 1, none⟩ = some (.string ⟨#[]⟩) := blk_cell B8.out 1
  have y2 : w8.cell? ⟨q, 2, none⟩ = some (.string ⟨#[]⟩) := blk_cell B8.out 2
  have y3 : w8.cell? ⟨q, 3, none⟩ = some (.slice (some ⟨g, 0, none⟩) 2 2) := blk_cell B8.out 3
  clear he
  go_wp2_with fail
  refine (Holds_calls (fp := noFp) (f := exF) (e := exE2) W8.out (okF_of ex_ok) (.inl ex_no) (by decide)).mono ?_
  rw [ex_holds2]
  rintro e w9 ⟨rfl, he⟩
  have E9 := Lib.hid (E8.out.trans0 he)
  clear he
  go_wp2_with fail
  refine (kind_calls _ 4 none 0 0).mono ?_
  rintro e w10 ⟨rfl, he⟩
  have E10 := Lib.hid (E9.out.trans0 he)
  clear he
  go_wp2_with fail
  refine (Check_calls (n := 0) (f := exG) (ok := fun _ => True) ⟨.slice none 0 0, rfl, Rd.nil _ _ _⟩ (okF_of exG_ok)).mono ?_
  rw [exG_check]
  rintro e w11 ⟨rfl, he⟩
  have E11 := Lib.hid (E10.out.trans0 he)
  clear he
  go_wp2_with fail
  go_ret
  exact ⟨rfl, E11.out⟩
end Go.Proofs.Ytooafilbmjnfmaa
