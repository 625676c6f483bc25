/- FeedRefused: a call that has an error changes nothing: for all lists of calls and calls within the law's bounds. -/
import Derived.Test.YtdjfijdnhfmeeaaS3
import Derived.Test.YtdjfijdnhfmeeaaS2
import Derived.Laws.BitsLemmas
namespace Go.Proofs.Ytdjfijdnhfmeeaa
open Go.RowKit Go.TM
theorem i64_and7 (n : Int) : bits .and .i64 n 7 = n % 8 := by
  have h7 : (BitVec.ofInt 64 7).toNat = 2 ^ 3 - 1 := by decide
  have key : (BitVec.ofInt 64 n &&& BitVec.ofInt 64 7).toNat = (n % ((2 ^ 64 : Nat) : Int)).toNat % 2 ^ 3 := by
    rw [BitVec.toNat_and, BitVec.toNat_ofInt, h7, Nat.and_two_pow_sub_one_eq_mod]
  show IntKind.i64.wrap ((BitVec.ofInt 64 n &&& BitVec.ofInt 64 7).toNat : Nat) = n % 8
  rw [key, IntKind.wrap_i64]
  omega
theorem opc_bound (k : Dc) : 0 ≤ opc k ∧ opc k ≤ 7 := by
  unfold opc
  rw [i64_and7]
  omega
/-- A call that has an error, and a Read, leave what is there. -/
theorem step_err {n : Nat} {D : Fdr} {k : Dc} (h : (stepR n D k).1 ≠ 0 ∨ ¬ opc k < 7) : (stepR n D k).2 = D := by
  have hb := opc_bound k
  unfold stepR at h ⊢
  by_cases h4 : opc k = 4
  · simp only [if_pos h4] at h ⊢
    unfold addR at h ⊢
    by_cases c1 : checkE (n + 1) k.q ≠ 0
    · simp only [if_pos c1]
    · simp only [if_neg c1] at h ⊢
      by_cases c2 : 4 ≤ D.subs.length
      · simp only [if_pos c2]
      · simp only [if_neg c2] at h ⊢
        by_cases c3 : 1099511627776 ≤ D.next
        · simp only [if_pos c3]
        · simp only [if_neg c3] at h
          rcases h with h | h
          · exact absurd rfl h
          · omega
  · simp only [if_neg h4] at h ⊢
    by_cases h5 : opc k = 5
    · simp only [if_pos h5] at h ⊢
      unfold dropR at h ⊢
      by_cases c1 : (findR D.subs k.id).2 = 80
      · simp only [if_pos c1]
      · simp only [if_neg c1] at h
        rcases h with h | h
        · exact absurd rfl h
        · omega
    · simp only [if_neg h5] at h ⊢
      by_cases h6 : opc k = 6
      · simp only [if_pos h6] at h ⊢
        unfold ackR at h ⊢
        by_cases c1 : (findR D.subs k.id).2 ≠ 0
        · simp only [if_pos c1]
        · simp only [if_neg c1] at h ⊢
          by_cases c2 : k.pos < atOf D.subs (findR D.subs k.id).1.toNat
          · simp only [if_pos c2]
          · simp only [if_neg c2] at h ⊢
            by_cases c3 : D.top < k.pos
            · simp only [if_pos c3]
            · simp only [if_neg c3] at h
              rcases h with h | h
              · exact absurd rfl h
              · omega
      · simp only [if_neg h6] at h ⊢
        by_cases h7 : opc k = 7
        · simp only [if_pos h7]
        · simp only [if_neg h7] at h ⊢
          unfold noteR at h ⊢
          by_cases c1 : nextP D k ≤ D.top
          · simp only [if_pos c1]
          · simp only [if_neg c1] at h ⊢
            by_cases c2 : 1099511627776 < nextP D k
            · simp only [if_pos c2]
            · simp only [if_neg c2] at h
              rcases h with h | h
              · exact absurd rfl h
              · omega
set_option maxRecDepth 100000 in
set_option maxHeartbeats 16000000 in
theorem refused_calls {w : World} {n0 n1 : Nat} {x : Value} {k : Dc} {A : Option Addr} {c : Nat} {l : List Dc} (hr0 : Rd (doK n0) w (fun k => k < w.heap.size) (.slice A l.length c) l) (hv0 : ∀ k ∈ l, DcV n0 k) (hlen : l.length * 128 ≤ reachBytes) (hx0 : DV n1 w (fun k => k < w.heap.size) x k) (hk0 : DcV n1 k) :
    Calls Try.prog 8 #[.slice A l.length c, x] w fun e w' => e = .returned (.bool true) ∧ Ext Non w w' := by
  obtain ⟨n, hn⟩ : ∃ n, max n0 n1 = n := ⟨_, rfl⟩
  have hr := dos_up (m := n) (by omega) hr0
  have hv : ∀ k ∈ l, DcV n k := fun k hk => (hv0 k hk).up (by omega)
  have hx := hx0.up (m := n) (by omega)
  have hk := hk0.up (m := n) (by omega)
  clear hr0 hv0 hx0 hk0 hn
  obtain ⟨u, v, rfl, hu, hq⟩ := hx
  obtain ⟨B, bl, bd, rfl, -⟩ := rd_abs hu
  obtain ⟨C, cl, cd, rfl, -⟩ := rd_abs hq
  have hbig : l.length * 128 ≤ 140737488351232 := hlen
  have hlm : (l.length : Int) ≤ 9223372036854775807 := by omega
  have HR := Lib.hid hr
  have HV := Lib.hid hv
  have HU := Lib.hid hu
  have HQ := Lib.hid hq
  have HK := Lib.hid hk
  obtain ⟨q, hq'⟩ : ∃ q, w.heap.size = q := ⟨_, rfl⟩
  obtain ⟨w1, hw1⟩ : ∃ w1, w.alloc (.cells #[.int .i64 k.op, .int .i64 k.step, .int .i64 k.id, .int .i64 k.pos, .int .i64 k.most, .slice B bl bd, .int .i64 k.q.op, .string k.q.key, .string k.q.val, .slice C cl cd] 36) = w1 := ⟨_, rfl⟩
  have E1 : Hid (Ext Non w w1) := by rw [← hw1]; exact (Ext.refl _ _).alloc _
  have BQ : Hid (w1.heap[q]? = some (.cells #[.int .i64 k.op, .int .i64 k.step, .int .i64 k.id, .int .i64 k.pos, .int .i64 k.most, .slice B bl bd, .int .i64 k.q.op, .string k.q.key, .string k.q.val, .slice C cl cd] 36 (0, 0))) := by rw [← hw1, ← hq']; exact blk_new w _
  obtain ⟨t0, t1, t2, t3, t4, t5, t6, t7, t8, t9⟩ := doS BQ.out
  have hql := blk_lt BQ.out
  have hwq : w.heap.size ≤ w1.heap.size := E1.out.size
  have OW : Hid (Own (doK n) 36 (w1.alloc (.cells #[.int .i64 k.op, .int .i64 k.step, .int .i64 k.id, .int .i64 k.pos, .int .i64 k.most, .slice B bl bd, .int .i64 k.q.op, .string k.q.key, .string k.q.val, .slice C cl cd] 36)) w1.heap.size (fun j => j < w.heap.size ∨ w1.heap.size ≤ j) (.slice (some ⟨w1.heap.size, 0, none⟩) 1 1) [k]) := by
    have hk1 : (doK n).K w1 (fun j => j < w.heap.size ∨ w1.heap.size ≤ j) k [.int .i64 k.op, .int .i64 k.step, .int .i64 k.id, .int .i64 k.pos, .int .i64 k.most, .slice B bl bd, .int .i64 k.q.op, .string k.q.key, .string k.q.val, .slice C cl cd] :=
      ⟨_, _, rfl, (HU.out.ext0 E1.out).mono (fun _ h => .inl h), (HQ.out.ext0 E1.out).mono (fun _ h => .inl h)⟩
    exact Own.lit (xs := [k]) (Reps.single hk1) (Nat.le_refl _) (by show 1 ≤ _; decide) (.inr (Nat.le_refl _))
  have EA : Hid (Ext Non w (w1.alloc (.cells #[.int .i64 k.op, .int .i64 k.step, .int .i64 k.id, .int .i64 k.pos, .int .i64 k.most, .slice B bl bd, .int .i64 k.q.op, .string k.q.key, .string k.q.val, .slice C cl cd] 36))) := E1.out.alloc _
  have HFRS : Hid (∀ j, (w1.alloc (.cells #[.int .i64 k.op, .int .i64 k.step, .int .i64 k.id, .int .i64 k.pos, .int .i64 k.most, .slice B bl bd, .int .i64 k.q.op, .string k.q.key, .string k.q.val, .slice C cl cd] 36)).heap.size ≤ j → j < w.heap.size ∨ w1.heap.size ≤ j) := by
    intro j hj
    have h2 : w1.heap.size + 1 ≤ j := by simpa using hj
    exact .inr (by omega)
  clear hr hv hu hq hk
  go_enter Try.func8, Try.ntmps8
  go_wp2_with (first
    | (at_builtin
       refine wpList_app (doK n) (ok := fun j => j < w.heap.size ∨ w1.heap.size ≤ j) (v := .slice (some ⟨w1.heap.size, 0, none⟩) 1 1) (vx := .slice A l.length c) (xs := [k]) (ys := l) w1.heap.size rfl _ _ 25 36 _ 128 rfl Try.underlying25 (info36 n) rfl (by show 0 < 10; decide) (by simp [Act.eval]) (by simp [Act.eval]) OW.out ((HR.out.ext0 EA.out).mono (fun j hj => ⟨.inl hj, fun h => by simp [Value.ownBlock] at h; omega⟩)) HFRS.out (by simp only [List.length_singleton]; omega) (by simp only [List.length_singleton]; omega) (by simp) ?_
       intro v' w' hown hext hblk)
    | fail)
  obtain ⟨A4, n4, c4, rfl⟩ : ∃ A n c, v' = .slice A n c := by obtain ⟨A4, c4, h4, _, _⟩ := hown.slice; exact ⟨_, _, _, h4⟩
  have E4 : Hid (Ext Non w w') := EA.out.trans hext (fun i hi h => by simp [Value.ownBlock] at h; omega)
  have BQ4 : Hid (w'.heap[q]? = some (.cells #[.int .i64 k.op, .int .i64 k.step, .int .i64 k.id, .int .i64 k.pos, .int .i64 k.most, .slice B bl bd, .int .i64 k.q.op, .string k.q.key, .string k.q.val, .slice C cl cd] 36 (0, 0))) := hext.obj (blk_alloc BQ.out _) (fun h => by simp [Value.ownBlock] at h; omega)
  refine (short_calls (n := n) (l := [k] ++ l) hown.rd (fun y hy => by
    rcases List.mem_append.1 hy with h | h
    · rw [List.mem_singleton] at h; rw [h]; exact HK.out
    · exact HV.out y h)).mono ?_
  rintro e w5 ⟨b, rfl, he5, hsh⟩
  have E5 : Hid (Ext Non w w5) := E4.out.trans0 he5
  have BQ5 : Hid (w5.heap[q]? = some _) := he5.obj BQ4.out (fun e => e)
  have HSH := Lib.hid hsh
  have AWW : Hid (∀ w4, Ext Non w w4 → (Calls Try.prog 13 #[] w4 fun e w' => e = .returned (.bool true) ∧ Ext Non w w')) := fun w4 h4 => (awake_calls w4).mono (fun _ _ h => ⟨h.1, h4.trans0 h.2⟩)
  clear hown hext hblk he5 hsh t0 t1 t2 t3 t4 t5 t6 t7 t8 t9
  cases b with
  | false =>
    go_wp2_with fail
    refine (AWW.out _ E5.out).mono ?_
    rintro e w6 ⟨rfl, he⟩
    have E6 := Lib.hid he
    clear he
    go_wp2_with fail
    go_ret
    exact ⟨rfl, E6.out⟩
  | true =>
    have HC : Hid (∀ y ∈ [k] ++ l, EvsS y ∧ LitS n y) := (HSH.out rfl).2
    have HCO : Hid (∀ y ∈ l, CallOk n y) := fun y hy => callOk (HV.out y hy) (HC.out y (List.mem_append.2 (.inr hy))).1 (HC.out y (List.mem_append.2 (.inr hy))).2
    have HCK : Hid (CallOk n k) := callOk HK.out (HC.out k (List.mem_append.2 (.inl (List.mem_singleton.2 rfl)))).1 (HC.out k (List.mem_append.2 (.inl (List.mem_singleton.2 rfl)))).2
    have HGD : Hid (Good n (madeD n l)) := madeD_good HCO.out
    obtain ⟨g, hg⟩ : ∃ g, w5.heap.size = g := ⟨_, rfl⟩
    have hwg : w.heap.size ≤ g := by have := E5.out.size; omega
    have hqg : q < g := by have := blk_lt BQ5.out; omega
    go_wp2_with fail
    refine (made_calls (n := n) (ok := fun j => j ≠ g) (by rw [hg]; exact fun h => h rfl) (fun j hj => by show j ≠ g; omega) (HR.out.ext0 E5.out) HCO.out).mono ?_
    rintro e w6 ⟨rfl, hf6, he6⟩
    rw [hg] at hf6 ⊢
    have F6 := Lib.hid hf6
    have X6 := Lib.hid he6
    have E6 : Hid (Ext Non w w6) := E5.out.trans0 he6
    obtain ⟨g2, hg2⟩ : ∃ g2, w6.heap.size = g2 := ⟨_, rfl⟩
    have hgg : g < g2 := by
      obtain ⟨se, ss, hb⟩ := hf6.blk
      have := blk_lt hb
      omega
    clear hf6 he6
    go_wp2_with fail
    refine (made_calls (n := n) (ok := fun j => j ≠ g ∧ j ≠ g2) (by rw [hg2]; exact fun h => h.2 rfl) (fun j hj => ⟨by omega, by omega⟩) (HR.out.ext0 E6.out) HCO.out).mono ?_
    rintro e w7 ⟨rfl, hf7, he7⟩
    rw [hg2] at hf7 ⊢
    have F7b : Hid (Fd n (fun j => j ≠ g ∧ j ≠ g2) w7 g2 (madeD n l)) := hf7
    have F7a : Hid (Fd n (fun j => j ≠ g ∧ j ≠ g2) w7 g (madeD n l)) := (F6.out.re (ok' := fun j => j ≠ g ∧ j ≠ g2) (fun j hj hl => ⟨hj, by omega⟩) (fun h => h.1 rfl)).ext0 he7
    have E7 : Hid (Ext Non w w7) := E6.out.trans0 he7
    have hs7 : g2 < w7.heap.size := by
      obtain ⟨se, ss, hb⟩ := hf7.blk
      exact blk_lt hb
    have BQ7 : Hid (w7.heap[q]? = some _) := he7.obj (X6.out.obj BQ5.out (fun e => e)) (fun e => e)
    obtain ⟨t0, t1, t2, t3, t4, t5, t6, t7, t8, t9⟩ := doS BQ7.out
    have hql7 := blk_lt BQ7.out
    have hdef : bits BinOp.and IntKind.i64 k.op 7 = opc k := rfl
    have HFR : Hid (∀ w8, w7.heap.size ≤ w8.heap.size → Fresh (fun j => j ≠ g ∧ j ≠ g2) w8) := fun w8 h j hj => ⟨by omega, by omega⟩
    clear hf7 he7
    go_wp2_with fail
    refine (does_calls (n := n) (k := k) F7a.out HGD.out (HFR.out _ (Nat.le_refl _)) ⟨_, _, rfl, HU.out.ext0 E7.out, HQ.out.ext0 E7.out⟩ (fun h => by have h' : g < w.heap.size := h; omega) HCK.out).mono ?_
    rintro e w8 ⟨rfl, hf8, he8⟩
    have F8a : Hid (Fd n (fun j => j ≠ g ∧ j ≠ g2) w8 g (stepR n (madeD n l) k).2) := hf8
    have F8b : Hid (Fd n (fun j => j ≠ g ∧ j ≠ g2) w8 g2 (madeD n l)) := F7b.out.ext he8 (fun j hj h => hj.1 h) (fun h => by have h' : g2 = g := h; omega)
    have E8 : Hid (Ext Non w w8) := E7.out.trans he8 (fun i hi h => by have h' : i = g := h; omega)
    have hs8 := he8.size
    have BQ8 : Hid (w8.heap[q]? = some _) := he8.obj BQ7.out (fun h => by have h' : q = g := h; omega)
    clear hf8 he8 t0 t1 t2 t3 t4 t5 t6 t7 t8 t9
    obtain ⟨t0, t1, t2, t3, t4, t5, t6, t7, t8, t9⟩ := doS BQ8.out
    have hql8 := blk_lt BQ8.out
    obtain ⟨ev, hev⟩ : ∃ ev, (stepR n (madeD n l) k).1 = ev := ⟨_, rfl⟩
    have HEV := Lib.hid hev
    rw [hev]
    clear hev
    have hfin : Hid ((ev ≠ 0 ∨ ¬ opc k < 7) → (Calls Try.prog 41 #[.pointer (some ⟨g, 0, none⟩), .pointer (some ⟨g2, 0, none⟩)] w8 fun e w' => e = .returned (.bool true) ∧ Ext Non w w')) := fun h => by
      have hD := step_err (n := n) (D := madeD n l) (k := k) (by rw [HEV.out]; exact h)
      refine (same_calls (by have := F8a.out; rw [hD] at this; exact this) F8b.out HGD.out (HFR.out _ hs8) (HFR.out _ hs8)).mono (fun e w9 h9 => ⟨h9.1, E8.out.trans0 h9.2⟩)
    by_cases h0 : ev = 0
    · subst h0
      by_cases h7 : opc k < 7
      · go_wp2_with fail
        refine (AWW.out _ E8.out).mono ?_
        rintro e w9 ⟨rfl, he⟩
        have E9 := Lib.hid he
        clear he
        go_wp2_with fail
        go_ret
        exact ⟨rfl, E9.out⟩
      · have HS := hfin.out (.inr h7)
        have HSS := Lib.hid HS
        clear HS
        go_wp2_with fail
        refine HSS.out.mono ?_
        rintro e w9 ⟨rfl, he⟩
        have E9 := Lib.hid he
        clear he
        go_wp2_with fail
        refine (AWW.out _ E9.out).mono ?_
        rintro e w10 ⟨rfl, he⟩
        have E10 := Lib.hid he
        clear he
        go_wp2_with fail
        go_ret
        exact ⟨rfl, E10.out⟩
    · have hb0 : (ev == 0) = false := beq_eq_false_iff_ne.2 h0
      have HS := hfin.out (.inl h0)
      have HSS := Lib.hid HS
      clear HS
      go_wp2_with fail
      refine HSS.out.mono ?_
      rintro e w9 ⟨rfl, he⟩
      have E9 := Lib.hid he
      clear he
      go_wp2_with fail
      refine (AWW.out _ E9.out).mono ?_
      rintro e w10 ⟨rfl, he⟩
      have E10 := Lib.hid he
      clear he
      go_wp2_with fail
      go_ret
      exact ⟨rfl, E10.out⟩
end Go.Proofs.Ytdjfijdnhfmeeaa
