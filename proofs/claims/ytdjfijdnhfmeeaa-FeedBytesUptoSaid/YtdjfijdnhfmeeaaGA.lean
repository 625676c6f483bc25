/- The verifier's weighing of a filter. The verifier's light; what a light filter is. -/
import Derived.Test.YtdjfijdnhfmeeaaFE
namespace Go.Proofs.Ytdjfijdnhfmeeaa
open Go.RowKit Go.TM

theorem kid_at {w : World} {ok : Nat → Prop} {n : Nat} {A : Option Addr} {len c : Nat} {xs : List Flt} (h : Rd (fltK n) w ok (.slice A len c) xs) {k : Nat} {f : Flt} (hs : xs[k]? = some f) :
    ∃ g off v m, n = m + 1 ∧ A = some ⟨g, off, none⟩ ∧ ok g ∧ g < w.heap.size ∧ w.cell? ⟨g, off + k * 4, none⟩ = some (.int .i64 f.op) ∧ w.cell? ⟨g, off + k * 4 + 1, none⟩ = some (.string f.key) ∧
      w.cell? ⟨g, off + k * 4 + 2, none⟩ = some (.string f.val) ∧ w.cell? ⟨g, off + k * 4 + 3, none⟩ = some v ∧ Rd (fltK m) w ok v f.kids := by
  obtain ⟨g, off, cs, rfl, hg, hgl, hk, hcs⟩ := h.at_ hs
  cases n with
  | zero => exact hk.elim
  | succ m =>
    obtain ⟨v, rfl, hr⟩ := hk
    exact ⟨g, off, v, m, rfl, rfl, hg, hgl, hcs 0 _ rfl, hcs 1 _ rfl, hcs 2 _ rfl, hcs 3 _ rfl, hr⟩
def foldF {α β : Type} (F : α → β → Bool × β) : List α → β → Bool × β
  | [], c => (true, c)
  | k :: ks, c => if (F k c).1 = true then foldF F ks (F k c).2 else (false, (F k c).2)
theorem foldF_yes {α β : Type} {F : α → β → Bool × β} {k : α} {ks : List α} {c c' : β} (h : F k c = (true, c')) : foldF F (k :: ks) c = foldF F ks c' := by
  unfold foldF
  rw [h, if_pos rfl]
  cases ks <;> rfl
theorem foldF_no {α β : Type} {F : α → β → Bool × β} {k : α} {ks : List α} {c c' : β} (h : F k c = (false, c')) : foldF F (k :: ks) c = (false, c') := by
  unfold foldF
  rw [h]
  rfl
def capLen (s : ByteArray) : Int := if 1000 < (s.size : Int) then 1000 else s.size
/-- What weighing tells, and the count behind it. -/
def weigh : Nat → Flt → Int → Int → Bool × Int
  | 0, _, _, c => (false, c)
  | n + 1, f, d, c =>
    if c + (1 + capLen f.key + capLen f.val) > 4000 ∨ d > 50 ∨ f.kids.length > 500 then (false, c + (1 + capLen f.key + capLen f.val))
    else foldF (fun k c => weigh n k (d + 1) c) f.kids (c + (1 + capLen f.key + capLen f.val))
theorem foldF_le {F : Flt → Int → Bool × Int} (h : ∀ k c, 0 ≤ c → (F k c).1 = true → 0 ≤ (F k c).2 ∧ (F k c).2 ≤ 4000) : ∀ (l : List Flt) (c : Int), 0 ≤ c → c ≤ 4000 → (foldF F l c).1 = true → 0 ≤ (foldF F l c).2 ∧ (foldF F l c).2 ≤ 4000
  | [], c, h0, h1, _ => ⟨h0, h1⟩
  | k :: ks, c, h0, _, hb => by
    unfold foldF at hb ⊢
    by_cases hk : (F k c).1 = true
    · rw [if_pos hk] at hb ⊢
      obtain ⟨a, b⟩ := h k c h0 hk
      exact foldF_le h ks _ a b hb
    · rw [if_neg hk] at hb
      cases hb
theorem capLen_nn (s : ByteArray) : 0 ≤ capLen s := by
  unfold capLen
  split <;> omega
theorem weigh_le : ∀ (n : Nat) (f : Flt) (d c : Int), 0 ≤ c → (weigh n f d c).1 = true → 0 ≤ (weigh n f d c).2 ∧ (weigh n f d c).2 ≤ 4000
  | 0, _, _, _, _, h => by cases h
  | n + 1, f, d, c, h0, h => by
    unfold weigh at h ⊢
    have q1 := capLen_nn f.key
    have q2 := capLen_nn f.val
    split at h
    · cases h
    · rename_i hn
      rw [if_neg hn]
      exact foldF_le (fun k c h0 hb => weigh_le n k (d + 1) c h0 hb) _ _ (by omega) (by omega) h
def Ctr (w : World) (g : Nat) (c : Int) : Prop := w.heap[g]? = some (.cells #[.int .i64 c] 3 (0, 0))
def WeighPost (r : Bool × Int) (g : Nat) (w : World) (e : Ending) (w' : World) : Prop :=
  e = .returned (.bool r.1) ∧ Ext (Only g) w w' ∧ Ctr w' g r.2
theorem capLen_small {s : ByteArray} (h : (s.size : Int) ≤ 1000) : capLen s = s.size := if_neg (by omega)
theorem capLen_big {s : ByteArray} (h : 1000 < (s.size : Int)) : capLen s = 1000 := if_pos h
theorem blk_new (w : World) (o : Obj) : (w.alloc o).heap[w.heap.size]? = some o := by
  unfold World.alloc
  exact Array.getElem?_push_size
theorem ctr_fin {w : World} {g : Nat} {c : Int} (h : Ctr w g c) (o : Obj) (c' : Int) : Ctr ((w.setCell ⟨g, 0, none⟩ (.int .i64 c')).alloc o).drew g c' :=
  blk_drew (blk_alloc (blk_set h 0 _) o)
theorem ext_fin (w : World) (g : Nat) (o : Obj) (u : Value) : Ext (Only g) w ((w.setCell ⟨g, 0, none⟩ u).alloc o).drew :=
  ((Ext.setCell (Ext.refl (Only g) w) (p := ⟨g, 0, none⟩) (fun _ => rfl) u).alloc o).drew
theorem size_fin (w : World) (a : Addr) (u : Value) : (w.setCell a u).heap.size = w.heap.size := by simp [World.setCell]
theorem Ctr.ext {M : Nat → Prop} {w w' : World} {g : Nat} {c : Int} (h : Ctr w g c) (he : Ext M w w') (hm : ¬ M g) : Ctr w' g c := he.obj h hm
def WeighAt (n : Nat) : Prop := ∀ (f : Flt) (w : World) (ok : Nat → Prop) (v : Value) (d c : Int) (g : Nat), Rd (fltK n) w ok v f.kids → okF (n + 1) f → Ctr w g c →
    ¬ ok g → 0 ≤ c → c ≤ 4000 → 0 ≤ d → d ≤ 51 →
    Calls Try.prog 47 #[.agg #[.int .i64 f.op, .string f.key, .string f.val, v], .int .i64 d, .pointer (some ⟨g, 0, none⟩)] w (WeighPost (weigh (n + 1) f d c) g w)
set_option maxHeartbeats 4000000 in
theorem weigh_step (n : Nat) (ih : ∀ m, n = m + 1 → WeighAt m) : WeighAt n := by
  intro f w ok v d c g hr hok hc hng c0 c1 d0 d1
  obtain ⟨A, len, cap, rfl, hlen⟩ := rd_abs hr
  have HR := Lib.hid hr
  have HC := Lib.hid hc
  have s1 : (f.key.size : Int) ≤ 9223372036854775807 := by
    have := hok.2.1
    simp only [maxLen] at this
    omega
  have s2 : (f.val.size : Int) ≤ 9223372036854775807 := by
    have := hok.2.2.1
    simp only [maxLen] at this
    omega
  have s3 : (len : Int) ≤ 9223372036854775807 := by
    have := hok.2.2.2.1
    simp only [maxLen] at this
    omega
  have hg := blk_lt hc
  have b0 := blk_cell hc 0
  simp at b0
  have bf := blk_frozen hc 0
  have HOK := Lib.hid hok
  have HIH := Lib.hid ih
  have HL := Lib.hid hlen
  clear hr hok hc ih hlen
  rcases (show (f.key.size : Int) ≤ 1000 ∨ 1000 < (f.key.size : Int) by omega) with k1 | k1
  all_goals rcases (show (f.val.size : Int) ≤ 1000 ∨ 1000 < (f.val.size : Int) by omega) with k2 | k2
  · have e1 : Hid (capLen f.key = (f.key.size : Int)) := capLen_small k1
    have e2 : Hid (capLen f.val = (f.val.size : Int)) := capLen_small k2
    have e3 : Hid (c + (1 + capLen f.key + capLen f.val) = c + (1 + (f.key.size : Int) + (f.val.size : Int))) := by
      show _ = _
      have h1 := e1.out
      have h2 := e2.out
      omega
    by_cases k3 : c + (1 + (f.key.size : Int) + (f.val.size : Int)) ≤ 4000
    · by_cases k4 : d ≤ 50
      · by_cases k5 : (len : Int) ≤ 500
        · obtain ⟨c2, hc2⟩ : ∃ c2, c + (1 + (f.key.size : Int) + (f.val.size : Int)) = c2 := ⟨_, rfl⟩
          have HC2 := Lib.hid hc2
          have k6 : c2 ≤ 4000 := hc2 ▸ k3
          have k7 : 0 ≤ c2 := by rw [← hc2]; omega
          have hw : Hid (weigh (n + 1) f d c = foldF (fun k c => weigh n k (d + 1) c) f.kids c2) := by
            show weigh (n + 1) f d c = _
            rw [← hc2, ← e3.out]
            rw [← e3.out] at k3
            refine if_neg ?_
            have := HL.out
            omega
          clear hc2
          go_enter Try.func47, Try.ntmps47
          go_wp2_with fail
          go_region
          rw [HC2.out]
          go_wp2_with fail
          have HC0 : Hid (Ctr (((w.setCell ⟨g, 0, none⟩ (.int .i64 c2)).alloc (.cells #[.int .i64 f.op, .string f.key, .string f.val, .slice A len cap] 24)).drew) g c2) := ctr_fin HC.out _ _
          have HE0 : Hid (Ext (Only g) w (((w.setCell ⟨g, 0, none⟩ (.int .i64 c2)).alloc (.cells #[.int .i64 f.op, .string f.key, .string f.val, .slice A len cap] 24)).drew)) := ext_fin _ _ _ _
          obtain ⟨w0, hw0⟩ : ∃ w0, ((w.setCell ⟨g, 0, none⟩ (.int .i64 c2)).alloc (.cells #[.int .i64 f.op, .string f.key, .string f.val, .slice A len cap] 24)).drew = w0 := ⟨_, rfl⟩
          rw [hw0] at HC0 HE0 ⊢
          clear hw0 b0 bf
          go_loopw [41] (fun i wr => ∃ (j : Nat) (c3 : Int), i = .int .i64 (j : Int) ∧ j ≤ len ∧ Hid (Ext (Only g) w wr) ∧ Hid (Ctr wr g c3) ∧ 0 ≤ c3 ∧ c3 ≤ 4000 ∧ Hid (foldF (fun k c => weigh n k (d + 1) c) f.kids c2 = foldF (fun k c => weigh n k (d + 1) c) (f.kids.drop j) c3)) (fun i _ => len - (intOf i).toNat)
          case atStart => exact ⟨0, c2, rfl, by omega, HE0, HC0, by omega, by omega, rfl⟩
          case round =>
            obtain ⟨j, c3, rfl, hj, HE, HC3, q1, q2, HF⟩ := hrel
            by_cases hlt : j < len
            · obtain ⟨k, hk⟩ : ∃ k, f.kids[j]? = some k := ⟨_, List.getElem?_eq_getElem (by rw [← HL.out]; exact hlt)⟩
              have hdrop : f.kids.drop j = k :: f.kids.drop (j + 1) := by
                rw [List.drop_eq_getElem_cons (by rw [← HL.out]; exact hlt)]
                congr 1
                exact (List.getElem?_eq_some_iff.1 hk).2
              have HR1 := HR.out.ext HE.out (fun k hk _ e => hng (e ▸ hk))
              obtain ⟨gk, off, v, m, hnm, rfl, hgk, hgl, d0', d1', d2', d3', hrk⟩ := kid_at HR1 hk
              have hkok : okF (m + 1) k := hnm ▸ HOK.out.2.2.2.2 k (List.mem_of_getElem? hk)
              obtain ⟨r, hr⟩ : ∃ r, weigh (m + 1) k (d + 1) c3 = r := ⟨_, rfl⟩
              have hle := weigh_le (m + 1) k (d + 1) c3 q1
              rw [hr] at hle
              have HRR := Lib.hid hr
              obtain ⟨A2, len2, cap2, rfl, hlen2⟩ := rd_abs hrk
              have HRK := Lib.hid hrk
              have HD := Lib.hid hdrop
              clear hr hrk hdrop hk HR1 hlen2
              obtain ⟨b, c4⟩ := r
              cases b with
              | true =>
                obtain ⟨r1, r2⟩ := hle rfl
                clear hle
                go_wp2_with fail
                refine (HIH.out m hnm k _ ok _ (d + 1) c3 g ?_ hkok ?_ hng q1 q2 (by omega) (by omega)).mono ?_
                · refine HRK.out.ext0 ?_
                  repeat (first | exact Ext.refl _ _ | refine Ext.drew ?_ | refine Ext.alloc ?_ _ | refine Ext.setNew ?_ (Nat.le_refl _) _)
                · refine HC3.out.ext (M := Non) ?_ (fun h => h)
                  repeat (first | exact Ext.refl _ _ | refine Ext.drew ?_ | refine Ext.alloc ?_ _ | refine Ext.setNew ?_ (Nat.le_refl _) _)
                rw [HRR.out]
                rintro e w5 ⟨rfl, he5, hc5⟩
                have HE5 := Lib.hid he5
                have HC5 := Lib.hid hc5
                clear he5 hc5
                go_wp2_with fail
                go_roundw
                case rel => 
                  refine ⟨j + 1, c4, by go_num, by omega, ?_, HC5.out, r1, r2, ?_⟩
                  · refine Ext.trans ?_ HE5.out (fun _ _ e => e)
                    repeat (first | exact HE.out | refine Ext.drew ?_ | refine Ext.alloc ?_ _ | refine Ext.setNew ?_ HE.out.size _)
                  · rw [HF.out, HD.out]
                    exact foldF_yes (by rw [hnm]; exact HRR.out)
                case measure => simp [intOf]; omega
              | false => 
                clear hle
                go_wp2_with fail
                refine (HIH.out m hnm k _ ok _ (d + 1) c3 g ?_ hkok ?_ hng q1 q2 (by omega) (by omega)).mono ?_
                · refine HRK.out.ext0 ?_
                  repeat (first | exact Ext.refl _ _ | refine Ext.drew ?_ | refine Ext.alloc ?_ _ | refine Ext.setNew ?_ (Nat.le_refl _) _)
                · refine HC3.out.ext (M := Non) ?_ (fun h => h)
                  repeat (first | exact Ext.refl _ _ | refine Ext.drew ?_ | refine Ext.alloc ?_ _ | refine Ext.setNew ?_ (Nat.le_refl _) _)
                rw [HRR.out]
                rintro e w5 ⟨rfl, he5, hc5⟩
                have HE5 := Lib.hid he5
                have HC5 := Lib.hid hc5
                clear he5 hc5
                have hfin : Hid (weigh (n + 1) f d c = (false, c4)) := by
                  show weigh (n + 1) f d c = (false, c4)
                  rw [hw.out, HF.out, HD.out]
                  exact foldF_no (by rw [hnm]; exact HRR.out)
                go_wp2_with fail
                go_ret
                refine ⟨by rw [hfin.out]; rfl, ?_, by rw [hfin.out]; exact HC5.out⟩
                refine Ext.trans ?_ HE5.out (fun _ _ e => e)
                repeat (first | exact HE.out | refine Ext.drew ?_ | refine Ext.alloc ?_ _ | refine Ext.setNew ?_ HE.out.size _)
            · have hfin : Hid (weigh (n + 1) f d c = (true, c3)) := by
                show weigh (n + 1) f d c = (true, c3)
                rw [hw.out, HF.out, List.drop_eq_nil_of_le (by rw [← HL.out]; omega)]
                rfl
              obtain rfl : j = len := by omega
              go_wp2_with fail
              go_ret
              exact ⟨by rw [hfin.out]; rfl, HE.out, by rw [hfin.out]; exact HC3.out⟩
        · have hw : Hid (weigh (n + 1) f d c = (false, c + (1 + (f.key.size : Int) + (f.val.size : Int)))) := by
            show weigh (n + 1) f d c = _
            rw [← e3.out]
            refine if_pos ?_
            have := HL.out
            omega
          go_enter Try.func47, Try.ntmps47
          go_wp2_with fail
          go_region
          go_wp2_with fail
          go_ret
          refine ⟨by rw [hw.out]; rfl, ?_, ?_⟩
          · exact ext_fin _ _ _ _
          · rw [hw.out]; exact ctr_fin HC.out _ _
      · have hw : Hid (weigh (n + 1) f d c = (false, c + (1 + (f.key.size : Int) + (f.val.size : Int)))) := by
          show weigh (n + 1) f d c = _
          rw [← e3.out]
          refine if_pos ?_
          omega
        go_enter Try.func47, Try.ntmps47
        go_wp2_with fail
        go_region
        go_wp2_with fail
        go_ret
        refine ⟨by rw [hw.out]; rfl, ?_, ?_⟩
        · exact ext_fin _ _ _ _
        · rw [hw.out]; exact ctr_fin HC.out _ _
    · have hw : Hid (weigh (n + 1) f d c = (false, c + (1 + (f.key.size : Int) + (f.val.size : Int)))) := by
        show weigh (n + 1) f d c = _
        rw [← e3.out]
        rw [← e3.out] at k3
        refine if_pos ?_
        omega
      go_enter Try.func47, Try.ntmps47
      go_wp2_with fail
      go_region
      go_wp2_with fail
      go_ret
      refine ⟨by rw [hw.out]; rfl, ?_, ?_⟩
      · exact ext_fin _ _ _ _
      · rw [hw.out]; exact ctr_fin HC.out _ _
  · have e1 : Hid (capLen f.key = (f.key.size : Int)) := capLen_small k1
    have e2 : Hid (capLen f.val = (1000 : Int)) := capLen_big k2
    have e3 : Hid (c + (1 + capLen f.key + capLen f.val) = c + (1 + (f.key.size : Int) + 1000)) := by
      show _ = _
      have h1 := e1.out
      have h2 := e2.out
      omega
    by_cases k3 : c + (1 + (f.key.size : Int) + 1000) ≤ 4000
    · by_cases k4 : d ≤ 50
      · by_cases k5 : (len : Int) ≤ 500
        · obtain ⟨c2, hc2⟩ : ∃ c2, c + (1 + (f.key.size : Int) + 1000) = c2 := ⟨_, rfl⟩
          have HC2 := Lib.hid hc2
          have k6 : c2 ≤ 4000 := hc2 ▸ k3
          have k7 : 0 ≤ c2 := by rw [← hc2]; omega
          have hw : Hid (weigh (n + 1) f d c = foldF (fun k c => weigh n k (d + 1) c) f.kids c2) := by
            show weigh (n + 1) f d c = _
            rw [← hc2, ← e3.out]
            rw [← e3.out] at k3
            refine if_neg ?_
            have := HL.out
            omega
          clear hc2
          go_enter Try.func47, Try.ntmps47
          go_wp2_with fail
          go_region
          rw [HC2.out]
          go_wp2_with fail
          have HC0 : Hid (Ctr (((w.setCell ⟨g, 0, none⟩ (.int .i64 c2)).alloc (.cells #[.int .i64 f.op, .string f.key, .string f.val, .slice A len cap] 24)).drew) g c2) := ctr_fin HC.out _ _
          have HE0 : Hid (Ext (Only g) w (((w.setCell ⟨g, 0, none⟩ (.int .i64 c2)).alloc (.cells #[.int .i64 f.op, .string f.key, .string f.val, .slice A len cap] 24)).drew)) := ext_fin _ _ _ _
          obtain ⟨w0, hw0⟩ : ∃ w0, ((w.setCell ⟨g, 0, none⟩ (.int .i64 c2)).alloc (.cells #[.int .i64 f.op, .string f.key, .string f.val, .slice A len cap] 24)).drew = w0 := ⟨_, rfl⟩
          rw [hw0] at HC0 HE0 ⊢
          clear hw0 b0 bf
          go_loopw [41] (fun i wr => ∃ (j : Nat) (c3 : Int), i = .int .i64 (j : Int) ∧ j ≤ len ∧ Hid (Ext (Only g) w wr) ∧ Hid (Ctr wr g c3) ∧ 0 ≤ c3 ∧ c3 ≤ 4000 ∧ Hid (foldF (fun k c => weigh n k (d + 1) c) f.kids c2 = foldF (fun k c => weigh n k (d + 1) c) (f.kids.drop j) c3)) (fun i _ => len - (intOf i).toNat)
          case atStart => exact ⟨0, c2, rfl, by omega, HE0, HC0, by omega, by omega, rfl⟩
          case round =>
            obtain ⟨j, c3, rfl, hj, HE, HC3, q1, q2, HF⟩ := hrel
            by_cases hlt : j < len
            · obtain ⟨k, hk⟩ : ∃ k, f.kids[j]? = some k := ⟨_, List.getElem?_eq_getElem (by rw [← HL.out]; exact hlt)⟩
              have hdrop : f.kids.drop j = k :: f.kids.drop (j + 1) := by
                rw [List.drop_eq_getElem_cons (by rw [← HL.out]; exact hlt)]
                congr 1
                exact (List.getElem?_eq_some_iff.1 hk).2
              have HR1 := HR.out.ext HE.out (fun k hk _ e => hng (e ▸ hk))
              obtain ⟨gk, off, v, m, hnm, rfl, hgk, hgl, d0', d1', d2', d3', hrk⟩ := kid_at HR1 hk
              have hkok : okF (m + 1) k := hnm ▸ HOK.out.2.2.2.2 k (List.mem_of_getElem? hk)
              obtain ⟨r, hr⟩ : ∃ r, weigh (m + 1) k (d + 1) c3 = r := ⟨_, rfl⟩
              have hle := weigh_le (m + 1) k (d + 1) c3 q1
              rw [hr] at hle
              have HRR := Lib.hid hr
              obtain ⟨A2, len2, cap2, rfl, hlen2⟩ := rd_abs hrk
              have HRK := Lib.hid hrk
              have HD := Lib.hid hdrop
              clear hr hrk hdrop hk HR1 hlen2
              obtain ⟨b, c4⟩ := r
              cases b with
              | true =>
                obtain ⟨r1, r2⟩ := hle rfl
                clear hle
                go_wp2_with fail
                refine (HIH.out m hnm k _ ok _ (d + 1) c3 g ?_ hkok ?_ hng q1 q2 (by omega) (by omega)).mono ?_
                · refine HRK.out.ext0 ?_
                  repeat (first | exact Ext.refl _ _ | refine Ext.drew ?_ | refine Ext.alloc ?_ _ | refine Ext.setNew ?_ (Nat.le_refl _) _)
                · refine HC3.out.ext (M := Non) ?_ (fun h => h)
                  repeat (first | exact Ext.refl _ _ | refine Ext.drew ?_ | refine Ext.alloc ?_ _ | refine Ext.setNew ?_ (Nat.le_refl _) _)
                rw [HRR.out]
                rintro e w5 ⟨rfl, he5, hc5⟩
                have HE5 := Lib.hid he5
                have HC5 := Lib.hid hc5
                clear he5 hc5
                go_wp2_with fail
                go_roundw
                case rel => 
                  refine ⟨j + 1, c4, by go_num, by omega, ?_, HC5.out, r1, r2, ?_⟩
                  · refine Ext.trans ?_ HE5.out (fun _ _ e => e)
                    repeat (first | exact HE.out | refine Ext.drew ?_ | refine Ext.alloc ?_ _ | refine Ext.setNew ?_ HE.out.size _)
                  · rw [HF.out, HD.out]
                    exact foldF_yes (by rw [hnm]; exact HRR.out)
                case measure => simp [intOf]; omega
              | false => 
                clear hle
                go_wp2_with fail
                refine (HIH.out m hnm k _ ok _ (d + 1) c3 g ?_ hkok ?_ hng q1 q2 (by omega) (by omega)).mono ?_
                · refine HRK.out.ext0 ?_
                  repeat (first | exact Ext.refl _ _ | refine Ext.drew ?_ | refine Ext.alloc ?_ _ | refine Ext.setNew ?_ (Nat.le_refl _) _)
                · refine HC3.out.ext (M := Non) ?_ (fun h => h)
                  repeat (first | exact Ext.refl _ _ | refine Ext.drew ?_ | refine Ext.alloc ?_ _ | refine Ext.setNew ?_ (Nat.le_refl _) _)
                rw [HRR.out]
                rintro e w5 ⟨rfl, he5, hc5⟩
                have HE5 := Lib.hid he5
                have HC5 := Lib.hid hc5
                clear he5 hc5
                have hfin : Hid (weigh (n + 1) f d c = (false, c4)) := by
                  show weigh (n + 1) f d c = (false, c4)
                  rw [hw.out, HF.out, HD.out]
                  exact foldF_no (by rw [hnm]; exact HRR.out)
                go_wp2_with fail
                go_ret
                refine ⟨by rw [hfin.out]; rfl, ?_, by rw [hfin.out]; exact HC5.out⟩
                refine Ext.trans ?_ HE5.out (fun _ _ e => e)
                repeat (first | exact HE.out | refine Ext.drew ?_ | refine Ext.alloc ?_ _ | refine Ext.setNew ?_ HE.out.size _)
            · have hfin : Hid (weigh (n + 1) f d c = (true, c3)) := by
                show weigh (n + 1) f d c = (true, c3)
                rw [hw.out, HF.out, List.drop_eq_nil_of_le (by rw [← HL.out]; omega)]
                rfl
              obtain rfl : j = len := by omega
              go_wp2_with fail
              go_ret
              exact ⟨by rw [hfin.out]; rfl, HE.out, by rw [hfin.out]; exact HC3.out⟩
        · have hw : Hid (weigh (n + 1) f d c = (false, c + (1 + (f.key.size : Int) + 1000))) := by
            show weigh (n + 1) f d c = _
            rw [← e3.out]
            refine if_pos ?_
            have := HL.out
            omega
          go_enter Try.func47, Try.ntmps47
          go_wp2_with fail
          go_region
          go_wp2_with fail
          go_ret
          refine ⟨by rw [hw.out]; rfl, ?_, ?_⟩
          · exact ext_fin _ _ _ _
          · rw [hw.out]; exact ctr_fin HC.out _ _
      · have hw : Hid (weigh (n + 1) f d c = (false, c + (1 + (f.key.size : Int) + 1000))) := by
          show weigh (n + 1) f d c = _
          rw [← e3.out]
          refine if_pos ?_
          omega
        go_enter Try.func47, Try.ntmps47
        go_wp2_with fail
        go_region
        go_wp2_with fail
        go_ret
        refine ⟨by rw [hw.out]; rfl, ?_, ?_⟩
        · exact ext_fin _ _ _ _
        · rw [hw.out]; exact ctr_fin HC.out _ _
    · have hw : Hid (weigh (n + 1) f d c = (false, c + (1 + (f.key.size : Int) + 1000))) := by
        show weigh (n + 1) f d c = _
        rw [← e3.out]
        rw [← e3.out] at k3
        refine if_pos ?_
        omega
      go_enter Try.func47, Try.ntmps47
      go_wp2_with fail
      go_region
      go_wp2_with fail
      go_ret
      refine ⟨by rw [hw.out]; rfl, ?_, ?_⟩
      · exact ext_fin _ _ _ _
      · rw [hw.out]; exact ctr_fin HC.out _ _
  · have e1 : Hid (capLen f.key = (1000 : Int)) := capLen_big k1
    have e2 : Hid (capLen f.val = (f.val.size : Int)) := capLen_small k2
    have e3 : Hid (c + (1 + capLen f.key + capLen f.val) = c + (1001 + (f.val.size : Int))) := by
      show _ = _
      have h1 := e1.out
      have h2 := e2.out
      omega
    by_cases k3 : c + (1001 + (f.val.size : Int)) ≤ 4000
    · by_cases k4 : d ≤ 50
      · by_cases k5 : (len : Int) ≤ 500
        · obtain ⟨c2, hc2⟩ : ∃ c2, c + (1001 + (f.val.size : Int)) = c2 := ⟨_, rfl⟩
          have HC2 := Lib.hid hc2
          have k6 : c2 ≤ 4000 := hc2 ▸ k3
          have k7 : 0 ≤ c2 := by rw [← hc2]; omega
          have hw : Hid (weigh (n + 1) f d c = foldF (fun k c => weigh n k (d + 1) c) f.kids c2) := by
            show weigh (n + 1) f d c = _
            rw [← hc2, ← e3.out]
            rw [← e3.out] at k3
            refine if_neg ?_
            have := HL.out
            omega
          clear hc2
          go_enter Try.func47, Try.ntmps47
          go_wp2_with fail
          go_region
          rw [HC2.out]
          go_wp2_with fail
          have HC0 : Hid (Ctr (((w.setCell ⟨g, 0, none⟩ (.int .i64 c2)).alloc (.cells #[.int .i64 f.op, .string f.key, .string f.val, .slice A len cap] 24)).drew) g c2) := ctr_fin HC.out _ _
          have HE0 : Hid (Ext (Only g) w (((w.setCell ⟨g, 0, none⟩ (.int .i64 c2)).alloc (.cells #[.int .i64 f.op, .string f.key, .string f.val, .slice A len cap] 24)).drew)) := ext_fin _ _ _ _
          obtain ⟨w0, hw0⟩ : ∃ w0, ((w.setCell ⟨g, 0, none⟩ (.int .i64 c2)).alloc (.cells #[.int .i64 f.op, .string f.key, .string f.val, .slice A len cap] 24)).drew = w0 := ⟨_, rfl⟩
          rw [hw0] at HC0 HE0 ⊢
          clear hw0 b0 bf
          go_loopw [41] (fun i wr => ∃ (j : Nat) (c3 : Int), i = .int .i64 (j : Int) ∧ j ≤ len ∧ Hid (Ext (Only g) w wr) ∧ Hid (Ctr wr g c3) ∧ 0 ≤ c3 ∧ c3 ≤ 4000 ∧ Hid (foldF (fun k c => weigh n k (d + 1) c) f.kids c2 = foldF (fun k c => weigh n k (d + 1) c) (f.kids.drop j) c3)) (fun i _ => len - (intOf i).toNat)
          case atStart => exact ⟨0, c2, rfl, by omega, HE0, HC0, by omega, by omega, rfl⟩
          case round =>
            obtain ⟨j, c3, rfl, hj, HE, HC3, q1, q2, HF⟩ := hrel
            by_cases hlt : j < len
            · obtain ⟨k, hk⟩ : ∃ k, f.kids[j]? = some k := ⟨_, List.getElem?_eq_getElem (by rw [← HL.out]; exact hlt)⟩
              have hdrop : f.kids.drop j = k :: f.kids.drop (j + 1) := by
                rw [List.drop_eq_getElem_cons (by rw [← HL.out]; exact hlt)]
                congr 1
                exact (List.getElem?_eq_some_iff.1 hk).2
              have HR1 := HR.out.ext HE.out (fun k hk _ e => hng (e ▸ hk))
              obtain ⟨gk, off, v, m, hnm, rfl, hgk, hgl, d0', d1', d2', d3', hrk⟩ := kid_at HR1 hk
              have hkok : okF (m + 1) k := hnm ▸ HOK.out.2.2.2.2 k (List.mem_of_getElem? hk)
              obtain ⟨r, hr⟩ : ∃ r, weigh (m + 1) k (d + 1) c3 = r := ⟨_, rfl⟩
              have hle := weigh_le (m + 1) k (d + 1) c3 q1
              rw [hr] at hle
              have HRR := Lib.hid hr
              obtain ⟨A2, len2, cap2, rfl, hlen2⟩ := rd_abs hrk
              have HRK := Lib.hid hrk
              have HD := Lib.hid hdrop
              clear hr hrk hdrop hk HR1 hlen2
              obtain ⟨b, c4⟩ := r
              cases b with
              | true =>
                obtain ⟨r1, r2⟩ := hle rfl
                clear hle
                go_wp2_with fail
                refine (HIH.out m hnm k _ ok _ (d + 1) c3 g ?_ hkok ?_ hng q1 q2 (by omega) (by omega)).mono ?_
                · refine HRK.out.ext0 ?_
                  repeat (first | exact Ext.refl _ _ | refine Ext.drew ?_ | refine Ext.alloc ?_ _ | refine Ext.setNew ?_ (Nat.le_refl _) _)
                · refine HC3.out.ext (M := Non) ?_ (fun h => h)
                  repeat (first | exact Ext.refl _ _ | refine Ext.drew ?_ | refine Ext.alloc ?_ _ | refine Ext.setNew ?_ (Nat.le_refl _) _)
                rw [HRR.out]
                rintro e w5 ⟨rfl, he5, hc5⟩
                have HE5 := Lib.hid he5
                have HC5 := Lib.hid hc5
                clear he5 hc5
                go_wp2_with fail
                go_roundw
                case rel => 
                  refine ⟨j + 1, c4, by go_num, by omega, ?_, HC5.out, r1, r2, ?_⟩
                  · refine Ext.trans ?_ HE5.out (fun _ _ e => e)
                    repeat (first | exact HE.out | refine Ext.drew ?_ | refine Ext.alloc ?_ _ | refine Ext.setNew ?_ HE.out.size _)
                  · rw [HF.out, HD.out]
                    exact foldF_yes (by rw [hnm]; exact HRR.out)
                case measure => simp [intOf]; omega
              | false => 
                clear hle
                go_wp2_with fail
                refine (HIH.out m hnm k _ ok _ (d + 1) c3 g ?_ hkok ?_ hng q1 q2 (by omega) (by omega)).mono ?_
                · refine HRK.out.ext0 ?_
                  repeat (first | exact Ext.refl _ _ | refine Ext.drew ?_ | refine Ext.alloc ?_ _ | refine Ext.setNew ?_ (Nat.le_refl _) _)
                · refine HC3.out.ext (M := Non) ?_ (fun h => h)
                  repeat (first | exact Ext.refl _ _ | refine Ext.drew ?_ | refine Ext.alloc ?_ _ | refine Ext.setNew ?_ (Nat.le_refl _) _)
                rw [HRR.out]
                rintro e w5 ⟨rfl, he5, hc5⟩
                have HE5 := Lib.hid he5
                have HC5 := Lib.hid hc5
                clear he5 hc5
                have hfin : Hid (weigh (n + 1) f d c = (false, c4)) := by
                  show weigh (n + 1) f d c = (false, c4)
                  rw [hw.out, HF.out, HD.out]
                  exact foldF_no (by rw [hnm]; exact HRR.out)
                go_wp2_with fail
                go_ret
                refine ⟨by rw [hfin.out]; rfl, ?_, by rw [hfin.out]; exact HC5.out⟩
                refine Ext.trans ?_ HE5.out (fun _ _ e => e)
                repeat (first | exact HE.out | refine Ext.drew ?_ | refine Ext.alloc ?_ _ | refine Ext.setNew ?_ HE.out.size _)
            · have hfin : Hid (weigh (n + 1) f d c = (true, c3)) := by
                show weigh (n + 1) f d c = (true, c3)
                rw [hw.out, HF.out, List.drop_eq_nil_of_le (by rw [← HL.out]; omega)]
                rfl
              obtain rfl : j = len := by omega
              go_wp2_with fail
              go_ret
              exact ⟨by rw [hfin.out]; rfl, HE.out, by rw [hfin.out]; exact HC3.out⟩
        · have hw : Hid (weigh (n + 1) f d c = (false, c + (1001 + (f.val.size : Int)))) := by
            show weigh (n + 1) f d c = _
            rw [← e3.out]
            refine if_pos ?_
            have := HL.out
            omega
          go_enter Try.func47, Try.ntmps47
          go_wp2_with fail
          go_region
          go_wp2_with fail
          go_ret
          refine ⟨by rw [hw.out]; rfl, ?_, ?_⟩
          · exact ext_fin _ _ _ _
          · rw [hw.out]; exact ctr_fin HC.out _ _
      · have hw : Hid (weigh (n + 1) f d c = (false, c + (1001 + (f.val.size : Int)))) := by
          show weigh (n + 1) f d c = _
          rw [← e3.out]
          refine if_pos ?_
          omega
        go_enter Try.func47, Try.ntmps47
        go_wp2_with fail
        go_region
        go_wp2_with fail
        go_ret
        refine ⟨by rw [hw.out]; rfl, ?_, ?_⟩
        · exact ext_fin _ _ _ _
        · rw [hw.out]; exact ctr_fin HC.out _ _
    · have hw : Hid (weigh (n + 1) f d c = (false, c + (1001 + (f.val.size : Int)))) := by
        show weigh (n + 1) f d c = _
        rw [← e3.out]
        rw [← e3.out] at k3
        refine if_pos ?_
        omega
      go_enter Try.func47, Try.ntmps47
      go_wp2_with fail
      go_region
      go_wp2_with fail
      go_ret
      refine ⟨by rw [hw.out]; rfl, ?_, ?_⟩
      · exact ext_fin _ _ _ _
      · rw [hw.out]; exact ctr_fin HC.out _ _
  · have e1 : Hid (capLen f.key = (1000 : Int)) := capLen_big k1
    have e2 : Hid (capLen f.val = (1000 : Int)) := capLen_big k2
    have e3 : Hid (c + (1 + capLen f.key + capLen f.val) = c + 2001) := by
      show _ = _
      have h1 := e1.out
      have h2 := e2.out
      omega
    by_cases k3 : c + 2001 ≤ 4000
    · by_cases k4 : d ≤ 50
      · by_cases k5 : (len : Int) ≤ 500
        · obtain ⟨c2, hc2⟩ : ∃ c2, c + 2001 = c2 := ⟨_, rfl⟩
          have HC2 := Lib.hid hc2
          have k6 : c2 ≤ 4000 := hc2 ▸ k3
          have k7 : 0 ≤ c2 := by rw [← hc2]; omega
          have hw : Hid (weigh (n + 1) f d c = foldF (fun k c => weigh n k (d + 1) c) f.kids c2) := by
            show weigh (n + 1) f d c = _
            rw [← hc2, ← e3.out]
            rw [← e3.out] at k3
            refine if_neg ?_
            have := HL.out
            omega
          clear hc2
          go_enter Try.func47, Try.ntmps47
          go_wp2_with fail
          go_region
          rw [HC2.out]
          go_wp2_with fail
          have HC0 : Hid (Ctr (((w.setCell ⟨g, 0, none⟩ (.int .i64 c2)).alloc (.cells #[.int .i64 f.op, .string f.key, .string f.val, .slice A len cap] 24)).drew) g c2) := ctr_fin HC.out _ _
          have HE0 : Hid (Ext (Only g) w (((w.setCell ⟨g, 0, none⟩ (.int .i64 c2)).alloc (.cells #[.int .i64 f.op, .string f.key, .string f.val, .slice A len cap] 24)).drew)) := ext_fin _ _ _ _
          obtain ⟨w0, hw0⟩ : ∃ w0, ((w.setCell ⟨g, 0, none⟩ (.int .i64 c2)).alloc (.cells #[.int .i64 f.op, .string f.key, .string f.val, .slice A len cap] 24)).drew = w0 := ⟨_, rfl⟩
          rw [hw0] at HC0 HE0 ⊢
          clear hw0 b0 bf
          go_loopw [41] (fun i wr => ∃ (j : Nat) (c3 : Int), i = .int .i64 (j : Int) ∧ j ≤ len ∧ Hid (Ext (Only g) w wr) ∧ Hid (Ctr wr g c3) ∧ 0 ≤ c3 ∧ c3 ≤ 4000 ∧ Hid (foldF (fun k c => weigh n k (d + 1) c) f.kids c2 = foldF (fun k c => weigh n k (d + 1) c) (f.kids.drop j) c3)) (fun i _ => len - (intOf i).toNat)
          case atStart => exact ⟨0, c2, rfl, by omega, HE0, HC0, by omega, by omega, rfl⟩
          case round =>
            obtain ⟨j, c3, rfl, hj, HE, HC3, q1, q2, HF⟩ := hrel
            by_cases hlt : j < len
            · obtain ⟨k, hk⟩ : ∃ k, f.kids[j]? = some k := ⟨_, List.getElem?_eq_getElem (by rw [← HL.out]; exact hlt)⟩
              have hdrop : f.kids.drop j = k :: f.kids.drop (j + 1) := by
                rw [List.drop_eq_getElem_cons (by rw [← HL.out]; exact hlt)]
                congr 1
                exact (List.getElem?_eq_some_iff.1 hk).2
              have HR1 := HR.out.ext HE.out (fun k hk _ e => hng (e ▸ hk))
              obtain ⟨gk, off, v, m, hnm, rfl, hgk, hgl, d0', d1', d2', d3', hrk⟩ := kid_at HR1 hk
              have hkok : okF (m + 1) k := hnm ▸ HOK.out.2.2.2.2 k (List.mem_of_getElem? hk)
              obtain ⟨r, hr⟩ : ∃ r, weigh (m + 1) k (d + 1) c3 = r := ⟨_, rfl⟩
              have hle := weigh_le (m + 1) k (d + 1) c3 q1
              rw [hr] at hle
              have HRR := Lib.hid hr
              obtain ⟨A2, len2, cap2, rfl, hlen2⟩ := rd_abs hrk
              have HRK := Lib.hid hrk
              have HD := Lib.hid hdrop
              clear hr hrk hdrop hk HR1 hlen2
              obtain ⟨b, c4⟩ := r
              cases b with
              | true =>
                obtain ⟨r1, r2⟩ := hle rfl
                clear hle
                go_wp2_with fail
                refine (HIH.out m hnm k _ ok _ (d + 1) c3 g ?_ hkok ?_ hng q1 q2 (by omega) (by omega)).mono ?_
                · refine HRK.out.ext0 ?_
                  repeat (first | exact Ext.refl _ _ | refine Ext.drew ?_ | refine Ext.alloc ?_ _ | refine Ext.setNew ?_ (Nat.le_refl _) _)
                · refine HC3.out.ext (M := Non) ?_ (fun h => h)
                  repeat (first | exact Ext.refl _ _ | refine Ext.drew ?_ | refine Ext.alloc ?_ _ | refine Ext.setNew ?_ (Nat.le_refl _) _)
                rw [HRR.out]
                rintro e w5 ⟨rfl, he5, hc5⟩
                have HE5 := Lib.hid he5
                have HC5 := Lib.hid hc5
                clear he5 hc5
                go_wp2_with fail
                go_roundw
                case rel => 
                  refine ⟨j + 1, c4, by go_num, by omega, ?_, HC5.out, r1, r2, ?_⟩
                  · refine Ext.trans ?_ HE5.out (fun _ _ e => e)
                    repeat (first | exact HE.out | refine Ext.drew ?_ | refine Ext.alloc ?_ _ | refine Ext.setNew ?_ HE.out.size _)
                  · rw [HF.out, HD.out]
                    exact foldF_yes (by rw [hnm]; exact HRR.out)
                case measure => simp [intOf]; omega
              | false => 
                clear hle
                go_wp2_with fail
                refine (HIH.out m hnm k _ ok _ (d + 1) c3 g ?_ hkok ?_ hng q1 q2 (by omega) (by omega)).mono ?_
                · refine HRK.out.ext0 ?_
                  repeat (first | exact Ext.refl _ _ | refine Ext.drew ?_ | refine Ext.alloc ?_ _ | refine Ext.setNew ?_ (Nat.le_refl _) _)
                · refine HC3.out.ext (M := Non) ?_ (fun h => h)
                  repeat (first | exact Ext.refl _ _ | refine Ext.drew ?_ | refine Ext.alloc ?_ _ | refine Ext.setNew ?_ (Nat.le_refl _) _)
                rw [HRR.out]
                rintro e w5 ⟨rfl, he5, hc5⟩
                have HE5 := Lib.hid he5
                have HC5 := Lib.hid hc5
                clear he5 hc5
                have hfin : Hid (weigh (n + 1) f d c = (false, c4)) := by
                  show weigh (n + 1) f d c = (false, c4)
                  rw [hw.out, HF.out, HD.out]
                  exact foldF_no (by rw [hnm]; exact HRR.out)
                go_wp2_with fail
                go_ret
                refine ⟨by rw [hfin.out]; rfl, ?_, by rw [hfin.out]; exact HC5.out⟩
                refine Ext.trans ?_ HE5.out (fun _ _ e => e)
                repeat (first | exact HE.out | refine Ext.drew ?_ | refine Ext.alloc ?_ _ | refine Ext.setNew ?_ HE.out.size _)
            · have hfin : Hid (weigh (n + 1) f d c = (true, c3)) := by
                show weigh (n + 1) f d c = (true, c3)
                rw [hw.out, HF.out, List.drop_eq_nil_of_le (by rw [← HL.out]; omega)]
                rfl
              obtain rfl : j = len := by omega
              go_wp2_with fail
              go_ret
              exact ⟨by rw [hfin.out]; rfl, HE.out, by rw [hfin.out]; exact HC3.out⟩
        · have hw : Hid (weigh (n + 1) f d c = (false, c + 2001)) := by
            show weigh (n + 1) f d c = _
            rw [← e3.out]
            refine if_pos ?_
            have := HL.out
            omega
          go_enter Try.func47, Try.ntmps47
          go_wp2_with fail
          go_region
          go_wp2_with fail
          go_ret
          refine ⟨by rw [hw.out]; rfl, ?_, ?_⟩
          · exact ext_fin _ _ _ _
          · rw [hw.out]; exact ctr_fin HC.out _ _
      · have hw : Hid (weigh (n + 1) f d c = (false, c + 2001)) := by
          show weigh (n + 1) f d c = _
          rw [← e3.out]
          refine if_pos ?_
          omega
        go_enter Try.func47, Try.ntmps47
        go_wp2_with fail
        go_region
        go_wp2_with fail
        go_ret
        refine ⟨by rw [hw.out]; rfl, ?_, ?_⟩
        · exact ext_fin _ _ _ _
        · rw [hw.out]; exact ctr_fin HC.out _ _
    · have hw : Hid (weigh (n + 1) f d c = (false, c + 2001)) := by
        show weigh (n + 1) f d c = _
        rw [← e3.out]
        rw [← e3.out] at k3
        refine if_pos ?_
        omega
      go_enter Try.func47, Try.ntmps47
      go_wp2_with fail
      go_region
      go_wp2_with fail
      go_ret
      refine ⟨by rw [hw.out]; rfl, ?_, ?_⟩
      · exact ext_fin _ _ _ _
      · rw [hw.out]; exact ctr_fin HC.out _ _
end Go.Proofs.Ytdjfijdnhfmeeaa

namespace Go.Proofs.Ytdjfijdnhfmeeaa
open Go.RowKit Go.TM

theorem weigh_at : ∀ n, WeighAt n := by
  intro n
  induction n with
  | zero => exact weigh_step 0 (fun m h => by omega)
  | succ n ih => exact weigh_step (n + 1) (fun m h => by cases h; exact ih)
/-- Texts short, kids few: of a filter of few parts and few bytes. -/
def okL : Nat → Flt → Prop
  | 0, _ => False
  | n + 1, f => inI f.op ∧ f.key.size ≤ 1048576 ∧ f.val.size ≤ 1048576 ∧ f.kids.length ≤ 1000 ∧ ∀ k ∈ f.kids, okL n k
theorem foldF_all {F : Flt → Int → Bool × Int} {P : Flt → Prop} (h0 : ∀ k c, 0 ≤ c → (F k c).1 = true → 0 ≤ (F k c).2) (h : ∀ k c, 0 ≤ c → (F k c).1 = true → P k) :
    ∀ (l : List Flt) (c : Int), 0 ≤ c → (foldF F l c).1 = true → (∀ k ∈ l, inI k.op → True) → ∀ k ∈ l, P k
  | [], _, _, _, _ => fun k hk => by cases hk
  | k :: ks, c, hc, hb, hx => by
    by_cases hk : (F k c).1 = true
    · have hf : foldF F (k :: ks) c = foldF F ks (F k c).2 := foldF_yes (by rw [← hk])
      rw [hf] at hb
      intro k' hk'
      rcases List.mem_cons.1 hk' with rfl | h'
      · exact h _ _ hc hk
      · exact foldF_all h0 h ks _ (h0 k c hc hk) hb (fun _ _ _ => trivial) k' h'
    · have hf : foldF F (k :: ks) c = (false, (F k c).2) := foldF_no (by
        have : (F k c).1 = false := by simpa using hk
        rw [← this])
      rw [hf] at hb
      cases hb
/-- Kids few. -/
def okK : Nat → Flt → Prop
  | 0, _ => False
  | n + 1, f => f.kids.length ≤ 500 ∧ ∀ k ∈ f.kids, okK n k
theorem weigh_okK : ∀ (n : Nat) (f : Flt) (d c : Int), 0 ≤ c → (weigh n f d c).1 = true → okK n f
  | 0, _, _, _, _, h => by cases h
  | n + 1, f, d, c, h0, h => by
    unfold weigh at h
    have q1 := capLen_nn f.key
    have q2 := capLen_nn f.val
    split at h
    · cases h
    · rename_i hn
      refine ⟨by omega, ?_⟩
      exact foldF_all (F := fun k c => weigh n k (d + 1) c) (P := fun k => okK n k) (fun k c h0 hb => (weigh_le n k (d + 1) c h0 hb).1) (fun k c h0 hb => weigh_okK n k (d + 1) c h0 hb) f.kids _ (by omega) h (fun _ _ _ => trivial)
def lightF (n : Nat) (f : Flt) : Bool := (weigh n f 0 0).1
theorem light_okK {n : Nat} {f : Flt} (h : lightF n f = true) : okK n f := weigh_okK n f 0 0 (by omega) h
/-- A filter as a value. -/
def FV (n : Nat) (w : World) (ok : Nat → Prop) (x : Value) (f : Flt) : Prop := ∃ v, x = .agg #[.int .i64 f.op, .string f.key, .string f.val, v] ∧ Rd (fltK n) w ok v f.kids
theorem FV.ext0 {n : Nat} {w w' : World} {ok : Nat → Prop} {x : Value} {f : Flt} (h : FV n w ok x f) (he : Ext Non w w') : FV n w' ok x f := by
  obtain ⟨v, rfl, hr⟩ := h
  exact ⟨v, rfl, hr.ext0 he⟩
set_option maxHeartbeats 1048576 in
theorem light_calls {n : Nat} {f : Flt} {w : World} {ok : Nat → Prop} {x : Value} (hx : FV n w ok x f) (hok : okF (n + 1) f) :
    Calls Try.prog 12 #[x] w fun e w' => e = .returned (.bool (lightF (n + 1) f)) ∧ Ext Non w w' := by
  obtain ⟨v, rfl, hr⟩ := hx
  obtain ⟨A, len, cap, rfl, hlen⟩ := rd_abs hr
  have HR := Lib.hid hr.bound
  clear hr hlen
  go_enter Try.func12, Try.ntmps12
  go_wp2_with fail
  refine (weigh_at n f _ (fun k => ok k ∧ k < w.heap.size) _ 0 0 _ ?_ hok ?_ ?_ (by omega) (by omega) (by omega) (by omega)).mono ?_
  · refine HR.out.ext0 ?_
    repeat (first | exact Ext.refl _ _ | refine Ext.alloc ?_ _ | refine Ext.setNew ?_ (by simp) _)
  · have := blk_new (w.alloc (Obj.cells #[Value.int IntKind.i64 f.op, Value.string f.key, Value.string f.val, Value.slice A len cap] 24)) (Obj.cells #[Value.int IntKind.i64 0] 3)
    rw [show (w.alloc (Obj.cells #[Value.int IntKind.i64 f.op, Value.string f.key, Value.string f.val, Value.slice A len cap] 24)).heap.size = w.heap.size + 1 by simp] at this
    exact this
  · rintro ⟨_, h⟩
    omega
  rintro e w5 ⟨rfl, he, _⟩
  have HE : Hid (Ext Non w w5) := by
    show Ext Non w w5
    refine Ext.trans (M' := Only (w.heap.size + 1)) ?_ he (fun i hi e => by have : i = w.heap.size + 1 := e; omega)
    repeat (first | exact Ext.refl _ _ | refine Ext.alloc ?_ _ | refine Ext.setNew ?_ (by simp) _)
  clear he
  go_wp2_with fail
  go_ret
  exact ⟨rfl, HE.out⟩
end Go.Proofs.Ytdjfijdnhfmeeaa

