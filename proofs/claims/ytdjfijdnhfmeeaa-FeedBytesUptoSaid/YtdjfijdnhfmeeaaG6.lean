/- A filter made ready: its kids (4, 5, 6). -/
import Derived.Test.YtdjfijdnhfmeeaaGB
namespace Go.Proofs.Ytdjfijdnhfmeeaa
open Go.RowKit Go.TM
section
variable {w : World} {d c : Int} {g : Nat} {key val : ByteArray}
set_option maxRecDepth 100000 in
set_option maxHeartbeats 8000000 in
theorem build4 {n : Nat} {kids : List Flt} {ok : Nat → Prop} {v : Value} (ih : ∀ m, n = m + 1 → BuildAt m) (hr : Rd (fltK n) w ok v kids) (hokf : ∀ k ∈ kids, okF n k) (hc : Ctr w g c) (hng : ¬ ok g) (hd1 : 1 ≤ d) (hd : d ≤ 6) (hc1 : c < 24) (hc0 : 0 ≤ c) (hm : (kids.length : Int) ≤ 9223372036854775807) :
    Calls Try.prog 83 #[.agg #[.int .i64 4, .string key, .string val, v], .int .i64 d, .pointer (some ⟨g, 0, none⟩)] w (BuildPost n (.mk 4 key val kids) d c g w) := by
  obtain ⟨A, len, cap, rfl, hlen⟩ := rd_abs hr
  rw [← hlen] at hm
  have hg := blk_lt hc
  have b0 : w.cell? ⟨g, 0, none⟩ = some (.int .i64 c) := blk_cell hc 0
  have bf := blk_frozen hc 0
  have HC := Lib.hid hc
  have HR := Lib.hid hr
  have HL := Lib.hid hlen
  have HIH := Lib.hid ih
  have HOK := Lib.hid hokf
  clear hc hr hlen ih hokf
  by_cases hb : key.toList = [] ∧ val.toList = [] ∧ len = 1
  · obtain ⟨hk, hv, hl1⟩ := hb
    subst hl1
    have hch0 : Hid (chk (n + 1) (.mk 4 key val kids) d c = foldE (fun k c => chk n k (d + 1) c) kids (c + 1)) := by
      exact chk_go (by omega) (by simp [mayF, mayW, bare, Flt.op, Flt.key, Flt.val, Flt.kids, hk, hv, ← HL.out])
    go_enter Try.func83, Try.ntmps83
    go_wp2_with fail
    have HC0 : Hid (Ctr ((w.setCell ⟨g, 0, none⟩ (.int .i64 (c + 1))).alloc (.cells #[.int .i64 4, .string key, .string val, .slice A 1 cap] 24)) g (c + 1)) := ctr_set HC.out _ _
    have HX0 : Hid ((((w.setCell ⟨g, 0, none⟩ (.int .i64 (c + 1))).alloc (.cells #[.int .i64 4, .string key, .string val, .slice A 1 cap] 24))).heap[w.heap.size]? = some (.cells #[.int .i64 4, .string key, .string val, .slice A 1 cap] 24)) := by
      have h := blk_new (w.setCell ⟨g, 0, none⟩ (.int .i64 (c + 1))) (.cells #[.int .i64 4, .string key, .string val, .slice A 1 cap] 24)
      rw [size_fin] at h
      exact h
    have HE0 : Hid (Ext (Only g) w ((w.setCell ⟨g, 0, none⟩ (.int .i64 (c + 1))).alloc (.cells #[.int .i64 4, .string key, .string val, .slice A 1 cap] 24))) := ext_set _ _ _ _
    obtain ⟨w0, hw0⟩ : ∃ w0, (w.setCell ⟨g, 0, none⟩ (.int .i64 (c + 1))).alloc (.cells #[.int .i64 4, .string key, .string val, .slice A 1 cap] 24) = w0 := ⟨_, rfl⟩
    rw [hw0] at HC0 HE0 HX0 ⊢
    clear hw0 b0 bf
    go_loopw [9, 151] (fun s i wr => ∃ (j : Nat) (c3 : Int), i = .int .i64 (j : Int) ∧ j ≤ 1 ∧ (j : Int) ≤ c3 ∧ Hid (Own (ndK n) 91 wr (w.heap.size + 1) (fun k => w.heap.size < k) s (kids.take j)) ∧ Hid (Ext (Only g) w wr) ∧ Hid (wr.heap[w.heap.size]? = some (.cells #[.int .i64 4, .string key, .string val, .slice A 1 cap] 24)) ∧ Hid (Ctr wr g c3) ∧ 0 ≤ c3 ∧ c3 ≤ 24 ∧ Hid (foldE (fun k c => chk n k (d + 1) c) kids (c + 1) = foldE (fun k c => chk n k (d + 1) c) (kids.drop j) c3)) (fun _ i _ => 1 - (intOf i).toNat)
    case atStart => exact ⟨0, c + 1, rfl, by omega, by omega, Own.nil _ _ _ _ _, HE0, HX0, HC0, by omega, by omega, rfl⟩
    case round =>
      obtain ⟨j, c3, rfl, hj, hjc, HO, HE, HX, HC3, q1, q2, HF⟩ := hrel
      have hsz := HE.out.size
      have hszx := blk_lt HX.out
      by_cases hlt : j < 1
      · obtain ⟨k, hk0⟩ : ∃ k, kids[j]? = some k := ⟨_, List.getElem?_eq_getElem (by rw [← HL.out]; exact hlt)⟩
        have hdrop : kids.drop j = k :: kids.drop (j + 1) := by
          rw [List.drop_eq_getElem_cons (by rw [← HL.out]; exact hlt)]
          congr 1
          exact (List.getElem?_eq_some_iff.1 hk0).2
        have htake : kids.take (j + 1) = kids.take j ++ [k] := by rw [List.take_add_one, hk0]; rfl
        have HR1 := HR.out.ext HE.out (fun k hk _ e => hng (e ▸ hk))
        obtain ⟨gk, off, vk, m, hnm, rfl, hgk, hgl, d0', d1', d2', d3', hrk⟩ := kid_at HR1 hk0
        have hkok : okF (m + 1) k := hnm ▸ HOK.out k (List.mem_of_getElem? hk0)
        obtain ⟨A2, len2, cap2, rfl, hlen2⟩ := rd_abs hrk
        obtain ⟨Av, cv, rfl, hcv, hmv⟩ := HO.out.slice
        have hlenv : (kids.take j).length = j := by rw [List.length_take, ← HL.out]; omega
        rw [hlenv] at hcv hmv HO ⊢
        obtain ⟨r, hr⟩ : ∃ r, chk (m + 1) k (d + 1) c3 = r := ⟨_, rfl⟩
        have hle := chk_le (m + 1) k (d + 1) c3 q1 q2
        have hup := @chk_up m k (d + 1) c3
        rw [hr] at hle hup
        obtain ⟨er, c4⟩ := r
        have HRR := Lib.hid hr
        have HRK := Lib.hid hrk
        have HD := Lib.hid hdrop
        have HT := Lib.hid htake
        have hob := HO.out.base_le
        clear hr hrk hdrop htake hk0 HR1 hlen2 hlenv
        by_cases he0 : er = 0
        · subst he0
          obtain ⟨r1, r2⟩ := hle rfl
          have r3 : c3 + 1 ≤ c4 := hup rfl
          clear hle hup
          go_wp2_with fail
          refine (HIH.out m hnm k _ ok _ (d + 1) c3 g ?_ hkok ?_ hng (by omega) (by omega) q1 q2).mono ?_
          · refine HRK.out.ext0 ?_
            repeat (first | exact Ext.refl _ _ | refine Ext.drew ?_ | refine Ext.alloc ?_ _ | refine Ext.setNew ?_ (Nat.le_refl _) _)
          · refine HC3.out.ext (M := Non) ?_ (fun h => h)
            repeat (first | exact Ext.refl _ _ | refine Ext.drew ?_ | refine Ext.alloc ?_ _ | refine Ext.setNew ?_ (Nat.le_refl _) _)
          rintro e w5 ⟨x, err, c', rfl, he5, hc5, herr, hx⟩
          rw [HRR.out] at herr hx
          have herr' : err = 0 := herr
          subst herr'
          rcases hx with ⟨h, _⟩ | ⟨_, hcc, hnd⟩
          · exact absurd rfl h
          have hcc' : c' = c4 := hcc
          subst hcc'
          obtain ⟨t, p, rfl, hq⟩ := nd_iface hnd
          have hty := assert_yes hq p
          have hE5 : Ext (Only g) wr w5 := by
            refine Ext.trans ?_ he5 (fun _ _ e => e)
            repeat (first | exact Ext.refl _ _ | refine Ext.drew ?_ | refine Ext.alloc ?_ _ | refine Ext.setNew ?_ (Nat.le_refl _) _)
          have hnd2 : (ndK n).K w5 (fun k' => wr.heap.size ≤ k' ∧ k' < w5.heap.size) k [.iface t p] := by
            rw [hnm]
            exact (ndK (m + 1)).mono (fun k' hk' => ⟨by have h1 := hk'.1; simp at h1; omega, hk'.2⟩) ((ndK (m + 1)).bound hnd)
          have HN5 := Lib.hid hnd2
          have HE5 := Lib.hid hE5
          have HC5 := Lib.hid hc5
          have hsz5 := hE5.size
          have O5 := Lib.hid (HO.out.ext hE5 (fun k hk _ e => by have e1 : k = g := e; omega))
          have HX5 := Lib.hid (hE5.obj HX.out (fun e => by have e1 : w.heap.size = g := e; omega))
          clear herr hcc hnd hnd2 hE5 he5 hc5
          go_wp2_with (first
            | (at_builtin
               refine wpList_app (ndK n) (ok := fun k => w.heap.size < k) (v := .slice Av j cv) (vx := .slice (some ⟨w5.heap.size, 0, none⟩) 1 1) (xs := kids.take j) (ys := [k]) (w.heap.size + 1) rfl _ _ 126 91 _ 16 rfl Try.underlying126 (infoq n) (by rw [ndK_sz]; rfl) (by rw [ndK_sz]; decide) (by simp [Act.eval]) (by simp [Act.eval]) (O5.out.ext0 ((Ext.refl _ _).alloc _)) (Rd.lit_at (cs := [.iface t p]) (e := 91) (fr := (0, 0)) (heap_alloc_new w5 _) ((ndK n).mono (fun k' hk' => ⟨by have := hk'.1; omega, fun e => by have := (hob k' e.symm).2; have := hk'.1; omega⟩) ((ndK n).move (fun k' hk' => Below.heap_alloc _ _ _ hk'.2) HN5.out)) ⟨by omega, fun e => by have := (hob _ e.symm).2; omega⟩) (fun k hk => by simp at hk; omega) (by simp; omega) (by simp; omega) (by simp; omega) ?_
               intro v' w' hown hext hblk)
            | fail)
          have HO7 := Lib.hid hown
          have HE7 : Hid (Ext (Only g) w w') := (((HE.out.trans HE5.out (fun _ _ e => e)).alloc _).trans hext (fun i hi e => by have := (hob i e.symm).1; omega))
          have HX7 := Lib.hid (hext.obj (blk_alloc HX5.out _) (fun e => by have := (hob _ e.symm).1; omega))
          have HC7 : Hid (Ctr w' g c') := hext.obj (blk_alloc HC5.out _) (fun e => by have := (hob _ e.symm).1; omega)
          clear hown hext hblk
          go_roundw
          case rel =>
            refine ⟨j + 1, c', by go_num, by omega, by omega, ?_, HE7.out, HX7.out, HC7.out, r1, r2, ?_⟩
            · show Own _ _ _ _ _ _ _
              rw [HT.out]
              exact HO7.out
            · show foldE _ _ _ = _
              rw [HF.out, HD.out]
              exact foldE_yes (by rw [hnm]; exact HRR.out)
          case measure => simp [intOf]; omega
        · clear hle hup
          have hfin : Hid (chk (n + 1) (.mk 4 key val kids) d c = (er, c4)) := by
            show chk (n + 1) (.mk 4 key val kids) d c = _
            rw [hch0.out, HF.out, HD.out, ← HRR.out]
            have h1 := foldE_no (F := fun k c => chk n k (d + 1) c) (k := k) (ks := kids.drop (j + 1)) (c := c3) (by
              show (chk n k (d + 1) c3).1 ≠ 0
              rw [hnm, HRR.out]
              exact he0)
            rw [h1, hnm]
          go_wp2_with fail
          refine (HIH.out m hnm k _ ok _ (d + 1) c3 g ?_ hkok ?_ hng (by omega) (by omega) q1 q2).mono ?_
          · refine HRK.out.ext0 ?_
            repeat (first | exact Ext.refl _ _ | refine Ext.drew ?_ | refine Ext.alloc ?_ _ | refine Ext.setNew ?_ (Nat.le_refl _) _)
          · refine HC3.out.ext (M := Non) ?_ (fun h => h)
            repeat (first | exact Ext.refl _ _ | refine Ext.drew ?_ | refine Ext.alloc ?_ _ | refine Ext.setNew ?_ (Nat.le_refl _) _)
          rintro e w5 ⟨x, err, c', rfl, he5, hc5, herr, hx⟩
          rw [HRR.out] at herr
          have herr' : err = er := herr
          subst herr'
          have hE5 : Ext (Only g) wr w5 := by
            refine Ext.trans ?_ he5 (fun _ _ e => e)
            repeat (first | exact Ext.refl _ _ | refine Ext.drew ?_ | refine Ext.alloc ?_ _ | refine Ext.setNew ?_ (Nat.le_refl _) _)
          have HE5 := Lib.hid hE5
          have HC5 := Lib.hid hc5
          clear herr hx hE5 he5 hc5
          go_wp2_with fail
          all_goals go_ret2
          all_goals exact ⟨.nilIface, err, c', rfl, HE.out.trans HE5.out (fun _ _ e => e), HC5.out, by rw [hfin.out], .inl ⟨he0, rfl⟩⟩
      · have hch : chk (n + 1) (.mk 4 key val kids) d c = (0, c3) := by
          rw [hch0.out, HF.out, List.drop_eq_nil_of_le (by rw [← HL.out]; omega)]
          rfl
        have hj' : j = 1 := by omega
        subst hj'
        obtain ⟨Av, cv, rfl, hcv, hmv⟩ := HO.out.slice
        have hlenv : (kids.take 1).length = 1 := by rw [List.length_take, ← HL.out]; omega
        rw [hlenv] at hcv hmv HO ⊢
        have htk : kids.take 1 = kids := List.take_of_length_le (by rw [← HL.out]; omega)
        rw [htk] at HO
        have HS : Hid (Rd (ndK n) wr (fun k => w.heap.size ≤ k) (.slice Av 1 cv) kids) := HO.out.rd.mono (fun k hk => Nat.le_of_lt hk)
        have x0 : wr.cell? ⟨w.heap.size, 0, none⟩ = some (.int .i64 4) := blk_cell HX.out 0
        have HCH := Lib.hid hch
        clear hch htk hlenv
        obtain ⟨k0, hk0⟩ : ∃ k0, kids[0]? = some k0 := ⟨_, List.getElem?_eq_getElem (by rw [← HL.out]; omega)⟩
        obtain ⟨g9, off9, cs9, rfl, hg9, hgl9, hK9, hcs9⟩ := HS.out.at_ hk0
        obtain ⟨u0, rfl⟩ : ∃ u, cs9 = [u] := by
          have h := (ndK n).len hK9
          rw [ndK_sz] at h
          exact List.length_eq_one_iff.1 h
        have y0 : wr.cell? ⟨g9, off9, none⟩ = some u0 := by
          have h := hcs9 0 u0 rfl
          simpa using h
        obtain ⟨t, p, rfl, hq⟩ := nd_iface hK9
        have HK1 := Lib.hid hK9
        have hkk : Hid (kids = [k0]) := by
          obtain ⟨k1, hk1⟩ : ∃ k1, kids = [k1] := List.length_eq_one_iff.1 (by rw [← HL.out])
          subst hk1
          simp at hk0
          subst hk0
          rfl
        clear hK9 hcs9 hk0
        go_wp2_with fail
        go_ret2
        refine ⟨_, 0, c3, rfl, HE.out, HC3.out, by rw [HCH.out], .inr ⟨rfl, by rw [HCH.out], ?_⟩⟩
        exact .inr (.inr (.inr (.inr (.inl ⟨rfl, k0, .iface t p, hkk.out, rfl, HK1.out⟩))))

  · have hbad : Hid (mayF (.mk 4 key val kids) = false) := by
      show mayF _ = false
      rw [Bool.eq_false_iff]
      intro h
      simp [mayF, mayW, bare, Flt.op, Flt.key, Flt.val, Flt.kids, ← HL.out] at h
      exact hb ⟨of_decide_eq_true h.1.1, of_decide_eq_true h.1.2, by have := h.2; omega⟩
    have hch : Hid (chk (n + 1) (.mk 4 key val kids) d c = (50, c)) := chk_bad (by omega) hbad.out
    rcases (show ¬ key.toList = [] ∨ ¬ val.toList = [] ∨ ¬ len = 1 by
      by_cases h1 : key.toList = []
      · by_cases h2 : val.toList = []
        · exact .inr (.inr (fun h3 => hb ⟨h1, h2, h3⟩))
        · exact .inr (.inl h2)
      · exact .inl h1) with hn | hn | hn
    all_goals
      clear hb
      go_enter Try.func83, Try.ntmps83
      go_wp2_with fail
      all_goals go_ret2
      all_goals exact ⟨.nilIface, 50, c + 1, rfl, ext_set _ _ _ _, ctr_set HC.out _ _, by rw [hch.out], .inl ⟨by decide, rfl⟩⟩
set_option maxRecDepth 100000 in
set_option maxHeartbeats 8000000 in
theorem build5 {n : Nat} {kids : List Flt} {ok : Nat → Prop} {v : Value} (ih : ∀ m, n = m + 1 → BuildAt m) (hr : Rd (fltK n) w ok v kids) (hokf : ∀ k ∈ kids, okF n k) (hc : Ctr w g c) (hng : ¬ ok g) (hd1 : 1 ≤ d) (hd : d ≤ 6) (hc1 : c < 24) (hc0 : 0 ≤ c) (hm : (kids.length : Int) ≤ 9223372036854775807) :
    Calls Try.prog 83 #[.agg #[.int .i64 5, .string key, .string val, v], .int .i64 d, .pointer (some ⟨g, 0, none⟩)] w (BuildPost n (.mk 5 key val kids) d c g w) := by
  obtain ⟨A, len, cap, rfl, hlen⟩ := rd_abs hr
  rw [← hlen] at hm
  have hg := blk_lt hc
  have b0 : w.cell? ⟨g, 0, none⟩ = some (.int .i64 c) := blk_cell hc 0
  have bf := blk_frozen hc 0
  have HC := Lib.hid hc
  have HR := Lib.hid hr
  have HL := Lib.hid hlen
  have HIH := Lib.hid ih
  have HOK := Lib.hid hokf
  clear hc hr hlen ih hokf
  by_cases hb : key.toList = [] ∧ val.toList = []
  · obtain ⟨hk, hv⟩ := hb
    have hch0 : Hid (chk (n + 1) (.mk 5 key val kids) d c = foldE (fun k c => chk n k (d + 1) c) kids (c + 1)) := by
      exact chk_go (by omega) (by simp [mayF, mayW, bare, Flt.op, Flt.key, Flt.val, hk, hv])
    go_enter Try.func83, Try.ntmps83
    go_wp2_with fail
    have HC0 : Hid (Ctr ((w.setCell ⟨g, 0, none⟩ (.int .i64 (c + 1))).alloc (.cells #[.int .i64 5, .string key, .string val, .slice A len cap] 24)) g (c + 1)) := ctr_set HC.out _ _
    have HX0 : Hid ((((w.setCell ⟨g, 0, none⟩ (.int .i64 (c + 1))).alloc (.cells #[.int .i64 5, .string key, .string val, .slice A len cap] 24))).heap[w.heap.size]? = some (.cells #[.int .i64 5, .string key, .string val, .slice A len cap] 24)) := by
      have h := blk_new (w.setCell ⟨g, 0, none⟩ (.int .i64 (c + 1))) (.cells #[.int .i64 5, .string key, .string val, .slice A len cap] 24)
      rw [size_fin] at h
      exact h
    have HE0 : Hid (Ext (Only g) w ((w.setCell ⟨g, 0, none⟩ (.int .i64 (c + 1))).alloc (.cells #[.int .i64 5, .string key, .string val, .slice A len cap] 24))) := ext_set _ _ _ _
    obtain ⟨w0, hw0⟩ : ∃ w0, (w.setCell ⟨g, 0, none⟩ (.int .i64 (c + 1))).alloc (.cells #[.int .i64 5, .string key, .string val, .slice A len cap] 24) = w0 := ⟨_, rfl⟩
    rw [hw0] at HC0 HE0 HX0 ⊢
    clear hw0 b0 bf
    go_loopw [9, 151] (fun s i wr => ∃ (j : Nat) (c3 : Int), i = .int .i64 (j : Int) ∧ j ≤ len ∧ (j : Int) ≤ c3 ∧ Hid (Own (ndK n) 91 wr (w.heap.size + 1) (fun k => w.heap.size < k) s (kids.take j)) ∧ Hid (Ext (Only g) w wr) ∧ Hid (wr.heap[w.heap.size]? = some (.cells #[.int .i64 5, .string key, .string val, .slice A len cap] 24)) ∧ Hid (Ctr wr g c3) ∧ 0 ≤ c3 ∧ c3 ≤ 24 ∧ Hid (foldE (fun k c => chk n k (d + 1) c) kids (c + 1) = foldE (fun k c => chk n k (d + 1) c) (kids.drop j) c3)) (fun _ i _ => len - (intOf i).toNat)
    case atStart => exact ⟨0, c + 1, rfl, by omega, by omega, Own.nil _ _ _ _ _, HE0, HX0, HC0, by omega, by omega, rfl⟩
    case round =>
      obtain ⟨j, c3, rfl, hj, hjc, HO, HE, HX, HC3, q1, q2, HF⟩ := hrel
      have hsz := HE.out.size
      have hszx := blk_lt HX.out
      by_cases hlt : j < len
      · obtain ⟨k, hk0⟩ : ∃ k, kids[j]? = some k := ⟨_, List.getElem?_eq_getElem (by rw [← HL.out]; exact hlt)⟩
        have hdrop : kids.drop j = k :: kids.drop (j + 1) := by
          rw [List.drop_eq_getElem_cons (by rw [← HL.out]; exact hlt)]
          congr 1
          exact (List.getElem?_eq_some_iff.1 hk0).2
        have htake : kids.take (j + 1) = kids.take j ++ [k] := by rw [List.take_add_one, hk0]; rfl
        have HR1 := HR.out.ext HE.out (fun k hk _ e => hng (e ▸ hk))
        obtain ⟨gk, off, vk, m, hnm, rfl, hgk, hgl, d0', d1', d2', d3', hrk⟩ := kid_at HR1 hk0
        have hkok : okF (m + 1) k := hnm ▸ HOK.out k (List.mem_of_getElem? hk0)
        obtain ⟨A2, len2, cap2, rfl, hlen2⟩ := rd_abs hrk
        obtain ⟨Av, cv, rfl, hcv, hmv⟩ := HO.out.slice
        have hlenv : (kids.take j).length = j := by rw [List.length_take, ← HL.out]; omega
        rw [hlenv] at hcv hmv HO ⊢
        obtain ⟨r, hr⟩ : ∃ r, chk (m + 1) k (d + 1) c3 = r := ⟨_, rfl⟩
        have hle := chk_le (m + 1) k (d + 1) c3 q1 q2
        have hup := @chk_up m k (d + 1) c3
        rw [hr] at hle hup
        obtain ⟨er, c4⟩ := r
        have HRR := Lib.hid hr
        have HRK := Lib.hid hrk
        have HD := Lib.hid hdrop
        have HT := Lib.hid htake
        have hob := HO.out.base_le
        clear hr hrk hdrop htake hk0 HR1 hlen2 hlenv
        by_cases he0 : er = 0
        · subst he0
          obtain ⟨r1, r2⟩ := hle rfl
          have r3 : c3 + 1 ≤ c4 := hup rfl
          clear hle hup
          go_wp2_with fail
          refine (HIH.out m hnm k _ ok _ (d + 1) c3 g ?_ hkok ?_ hng (by omega) (by omega) q1 q2).mono ?_
          · refine HRK.out.ext0 ?_
            repeat (first | exact Ext.refl _ _ | refine Ext.drew ?_ | refine Ext.alloc ?_ _ | refine Ext.setNew ?_ (Nat.le_refl _) _)
          · refine HC3.out.ext (M := Non) ?_ (fun h => h)
            repeat (first | exact Ext.refl _ _ | refine Ext.drew ?_ | refine Ext.alloc ?_ _ | refine Ext.setNew ?_ (Nat.le_refl _) _)
          rintro e w5 ⟨x, err, c', rfl, he5, hc5, herr, hx⟩
          rw [HRR.out] at herr hx
          have herr' : err = 0 := herr
          subst herr'
          rcases hx with ⟨h, _⟩ | ⟨_, hcc, hnd⟩
          · exact absurd rfl h
          have hcc' : c' = c4 := hcc
          subst hcc'
          obtain ⟨t, p, rfl, hq⟩ := nd_iface hnd
          have hty := assert_yes hq p
          have hE5 : Ext (Only g) wr w5 := by
            refine Ext.trans ?_ he5 (fun _ _ e => e)
            repeat (first | exact Ext.refl _ _ | refine Ext.drew ?_ | refine Ext.alloc ?_ _ | refine Ext.setNew ?_ (Nat.le_refl _) _)
          have hnd2 : (ndK n).K w5 (fun k' => wr.heap.size ≤ k' ∧ k' < w5.heap.size) k [.iface t p] := by
            rw [hnm]
            exact (ndK (m + 1)).mono (fun k' hk' => ⟨by have h1 := hk'.1; simp at h1; omega, hk'.2⟩) ((ndK (m + 1)).bound hnd)
          have HN5 := Lib.hid hnd2
          have HE5 := Lib.hid hE5
          have HC5 := Lib.hid hc5
          have hsz5 := hE5.size
          have O5 := Lib.hid (HO.out.ext hE5 (fun k hk _ e => by have e1 : k = g := e; omega))
          have HX5 := Lib.hid (hE5.obj HX.out (fun e => by have e1 : w.heap.size = g := e; omega))
          clear herr hcc hnd hnd2 hE5 he5 hc5
          go_wp2_with (first
            | (at_builtin
               refine wpList_app (ndK n) (ok := fun k => w.heap.size < k) (v := .slice Av j cv) (vx := .slice (some ⟨w5.heap.size, 0, none⟩) 1 1) (xs := kids.take j) (ys := [k]) (w.heap.size + 1) rfl _ _ 126 91 _ 16 rfl Try.underlying126 (infoq n) (by rw [ndK_sz]; rfl) (by rw [ndK_sz]; decide) (by simp [Act.eval]) (by simp [Act.eval]) (O5.out.ext0 ((Ext.refl _ _).alloc _)) (Rd.lit_at (cs := [.iface t p]) (e := 91) (fr := (0, 0)) (heap_alloc_new w5 _) ((ndK n).mono (fun k' hk' => ⟨by have := hk'.1; omega, fun e => by have := (hob k' e.symm).2; have := hk'.1; omega⟩) ((ndK n).move (fun k' hk' => Below.heap_alloc _ _ _ hk'.2) HN5.out)) ⟨by omega, fun e => by have := (hob _ e.symm).2; omega⟩) (fun k hk => by simp at hk; omega) (by simp; omega) (by simp; omega) (by simp; omega) ?_
               intro v' w' hown hext hblk)
            | fail)
          have HO7 := Lib.hid hown
          have HE7 : Hid (Ext (Only g) w w') := (((HE.out.trans HE5.out (fun _ _ e => e)).alloc _).trans hext (fun i hi e => by have := (hob i e.symm).1; omega))
          have HX7 := Lib.hid (hext.obj (blk_alloc HX5.out _) (fun e => by have := (hob _ e.symm).1; omega))
          have HC7 : Hid (Ctr w' g c') := hext.obj (blk_alloc HC5.out _) (fun e => by have := (hob _ e.symm).1; omega)
          clear hown hext hblk
          go_roundw
          case rel =>
            refine ⟨j + 1, c', by go_num, by omega, by omega, ?_, HE7.out, HX7.out, HC7.out, r1, r2, ?_⟩
            · show Own _ _ _ _ _ _ _
              rw [HT.out]
              exact HO7.out
            · show foldE _ _ _ = _
              rw [HF.out, HD.out]
              exact foldE_yes (by rw [hnm]; exact HRR.out)
          case measure => simp [intOf]; omega
        · clear hle hup
          have hfin : Hid (chk (n + 1) (.mk 5 key val kids) d c = (er, c4)) := by
            show chk (n + 1) (.mk 5 key val kids) d c = _
            rw [hch0.out, HF.out, HD.out, ← HRR.out]
            have h1 := foldE_no (F := fun k c => chk n k (d + 1) c) (k := k) (ks := kids.drop (j + 1)) (c := c3) (by
              show (chk n k (d + 1) c3).1 ≠ 0
              rw [hnm, HRR.out]
              exact he0)
            rw [h1, hnm]
          go_wp2_with fail
          refine (HIH.out m hnm k _ ok _ (d + 1) c3 g ?_ hkok ?_ hng (by omega) (by omega) q1 q2).mono ?_
          · refine HRK.out.ext0 ?_
            repeat (first | exact Ext.refl _ _ | refine Ext.drew ?_ | refine Ext.alloc ?_ _ | refine Ext.setNew ?_ (Nat.le_refl _) _)
          · refine HC3.out.ext (M := Non) ?_ (fun h => h)
            repeat (first | exact Ext.refl _ _ | refine Ext.drew ?_ | refine Ext.alloc ?_ _ | refine Ext.setNew ?_ (Nat.le_refl _) _)
          rintro e w5 ⟨x, err, c', rfl, he5, hc5, herr, hx⟩
          rw [HRR.out] at herr
          have herr' : err = er := herr
          subst herr'
          have hE5 : Ext (Only g) wr w5 := by
            refine Ext.trans ?_ he5 (fun _ _ e => e)
            repeat (first | exact Ext.refl _ _ | refine Ext.drew ?_ | refine Ext.alloc ?_ _ | refine Ext.setNew ?_ (Nat.le_refl _) _)
          have HE5 := Lib.hid hE5
          have HC5 := Lib.hid hc5
          clear herr hx hE5 he5 hc5
          go_wp2_with fail
          all_goals go_ret2
          all_goals exact ⟨.nilIface, err, c', rfl, HE.out.trans HE5.out (fun _ _ e => e), HC5.out, by rw [hfin.out], .inl ⟨he0, rfl⟩⟩
      · have hch : chk (n + 1) (.mk 5 key val kids) d c = (0, c3) := by
          rw [hch0.out, HF.out, List.drop_eq_nil_of_le (by rw [← HL.out]; omega)]
          rfl
        have hj' : j = len := by omega
        subst hj'
        obtain ⟨Av, cv, rfl, hcv, hmv⟩ := HO.out.slice
        have hlenv : (kids.take j).length = j := by rw [List.length_take, ← HL.out]; omega
        rw [hlenv] at hcv hmv HO ⊢
        have htk : kids.take j = kids := List.take_of_length_le (by rw [← HL.out]; omega)
        rw [htk] at HO
        have HS : Hid (Rd (ndK n) wr (fun k => w.heap.size ≤ k) (.slice Av j cv) kids) := HO.out.rd.mono (fun k hk => Nat.le_of_lt hk)
        have x0 : wr.cell? ⟨w.heap.size, 0, none⟩ = some (.int .i64 5) := blk_cell HX.out 0
        have HCH := Lib.hid hch
        clear hch htk hlenv
        go_wp2_with fail
        go_ret2
        refine ⟨_, 0, c3, rfl, HE.out, HC3.out, by rw [HCH.out], .inr ⟨rfl, by rw [HCH.out], ?_⟩⟩
        exact .inr (.inr (.inr (.inr (.inr (.inl ⟨rfl, _, rfl, HS.out⟩)))))

  · have hbad : Hid (mayF (.mk 5 key val kids) = false) := by
      show mayF _ = false
      rw [Bool.eq_false_iff]
      intro h
      simp [mayF, mayW, bare, Flt.op, Flt.key, Flt.val] at h
      exact hb ⟨of_decide_eq_true h.1, of_decide_eq_true h.2⟩
    have hch : Hid (chk (n + 1) (.mk 5 key val kids) d c = (50, c)) := chk_bad (by omega) hbad.out
    rcases (show ¬ key.toList = [] ∨ ¬ val.toList = [] by
      by_cases h1 : key.toList = []
      · by_cases h2 : val.toList = []
        · exact absurd ⟨h1, h2⟩ hb
        · exact .inr h2
      · exact .inl h1) with hn | hn
    all_goals
      clear hb
      go_enter Try.func83, Try.ntmps83
      go_wp2_with fail
      all_goals go_ret2
      all_goals exact ⟨.nilIface, 50, c + 1, rfl, ext_set _ _ _ _, ctr_set HC.out _ _, by rw [hch.out], .inl ⟨by decide, rfl⟩⟩
set_option maxRecDepth 100000 in
set_option maxHeartbeats 8000000 in
theorem build6 {n : Nat} {kids : List Flt} {ok : Nat → Prop} {v : Value} (ih : ∀ m, n = m + 1 → BuildAt m) (hr : Rd (fltK n) w ok v kids) (hokf : ∀ k ∈ kids, okF n k) (hc : Ctr w g c) (hng : ¬ ok g) (hd1 : 1 ≤ d) (hd : d ≤ 6) (hc1 : c < 24) (hc0 : 0 ≤ c) (hm : (kids.length : Int) ≤ 9223372036854775807) :
    Calls Try.prog 83 #[.agg #[.int .i64 6, .string key, .string val, v], .int .i64 d, .pointer (some ⟨g, 0, none⟩)] w (BuildPost n (.mk 6 key val kids) d c g w) := by
  obtain ⟨A, len, cap, rfl, hlen⟩ := rd_abs hr
  rw [← hlen] at hm
  have hg := blk_lt hc
  have b0 : w.cell? ⟨g, 0, none⟩ = some (.int .i64 c) := blk_cell hc 0
  have bf := blk_frozen hc 0
  have HC := Lib.hid hc
  have HR := Lib.hid hr
  have HL := Lib.hid hlen
  have HIH := Lib.hid ih
  have HOK := Lib.hid hokf
  clear hc hr hlen ih hokf
  by_cases hb : key.toList = [] ∧ val.toList = []
  · obtain ⟨hk, hv⟩ := hb
    have hch0 : Hid (chk (n + 1) (.mk 6 key val kids) d c = foldE (fun k c => chk n k (d + 1) c) kids (c + 1)) := by
      exact chk_go (by omega) (by simp [mayF, mayW, bare, Flt.op, Flt.key, Flt.val, hk, hv])
    go_enter Try.func83, Try.ntmps83
    go_wp2_with fail
    have HC0 : Hid (Ctr ((w.setCell ⟨g, 0, none⟩ (.int .i64 (c + 1))).alloc (.cells #[.int .i64 6, .string key, .string val, .slice A len cap] 24)) g (c + 1)) := ctr_set HC.out _ _
    have HX0 : Hid ((((w.setCell ⟨g, 0, none⟩ (.int .i64 (c + 1))).alloc (.cells #[.int .i64 6, .string key, .string val, .slice A len cap] 24))).heap[w.heap.size]? = some (.cells #[.int .i64 6, .string key, .string val, .slice A len cap] 24)) := by
      have h := blk_new (w.setCell ⟨g, 0, none⟩ (.int .i64 (c + 1))) (.cells #[.int .i64 6, .string key, .string val, .slice A len cap] 24)
      rw [size_fin] at h
      exact h
    have HE0 : Hid (Ext (Only g) w ((w.setCell ⟨g, 0, none⟩ (.int .i64 (c + 1))).alloc (.cells #[.int .i64 6, .string key, .string val, .slice A len cap] 24))) := ext_set _ _ _ _
    obtain ⟨w0, hw0⟩ : ∃ w0, (w.setCell ⟨g, 0, none⟩ (.int .i64 (c + 1))).alloc (.cells #[.int .i64 6, .string key, .string val, .slice A len cap] 24) = w0 := ⟨_, rfl⟩
    rw [hw0] at HC0 HE0 HX0 ⊢
    clear hw0 b0 bf
    go_loopw [9, 151] (fun s i wr => ∃ (j : Nat) (c3 : Int), i = .int .i64 (j : Int) ∧ j ≤ len ∧ (j : Int) ≤ c3 ∧ Hid (Own (ndK n) 91 wr (w.heap.size + 1) (fun k => w.heap.size < k) s (kids.take j)) ∧ Hid (Ext (Only g) w wr) ∧ Hid (wr.heap[w.heap.size]? = some (.cells #[.int .i64 6, .string key, .string val, .slice A len cap] 24)) ∧ Hid (Ctr wr g c3) ∧ 0 ≤ c3 ∧ c3 ≤ 24 ∧ Hid (foldE (fun k c => chk n k (d + 1) c) kids (c + 1) = foldE (fun k c => chk n k (d + 1) c) (kids.drop j) c3)) (fun _ i _ => len - (intOf i).toNat)
    case atStart => exact ⟨0, c + 1, rfl, by omega, by omega, Own.nil _ _ _ _ _, HE0, HX0, HC0, by omega, by omega, rfl⟩
    case round =>
      obtain ⟨j, c3, rfl, hj, hjc, HO, HE, HX, HC3, q1, q2, HF⟩ := hrel
      have hsz := HE.out.size
      have hszx := blk_lt HX.out
      by_cases hlt : j < len
      · obtain ⟨k, hk0⟩ : ∃ k, kids[j]? = some k := ⟨_, List.getElem?_eq_getElem (by rw [← HL.out]; exact hlt)⟩
        have hdrop : kids.drop j = k :: kids.drop (j + 1) := by
          rw [List.drop_eq_getElem_cons (by rw [← HL.out]; exact hlt)]
          congr 1
          exact (List.getElem?_eq_some_iff.1 hk0).2
        have htake : kids.take (j + 1) = kids.take j ++ [k] := by rw [List.take_add_one, hk0]; rfl
        have HR1 := HR.out.ext HE.out (fun k hk _ e => hng (e ▸ hk))
        obtain ⟨gk, off, vk, m, hnm, rfl, hgk, hgl, d0', d1', d2', d3', hrk⟩ := kid_at HR1 hk0
        have hkok : okF (m + 1) k := hnm ▸ HOK.out k (List.mem_of_getElem? hk0)
        obtain ⟨A2, len2, cap2, rfl, hlen2⟩ := rd_abs hrk
        obtain ⟨Av, cv, rfl, hcv, hmv⟩ := HO.out.slice
        have hlenv : (kids.take j).length = j := by rw [List.length_take, ← HL.out]; omega
        rw [hlenv] at hcv hmv HO ⊢
        obtain ⟨r, hr⟩ : ∃ r, chk (m + 1) k (d + 1) c3 = r := ⟨_, rfl⟩
        have hle := chk_le (m + 1) k (d + 1) c3 q1 q2
        have hup := @chk_up m k (d + 1) c3
        rw [hr] at hle hup
        obtain ⟨er, c4⟩ := r
        have HRR := Lib.hid hr
        have HRK := Lib.hid hrk
        have HD := Lib.hid hdrop
        have HT := Lib.hid htake
        have hob := HO.out.base_le
        clear hr hrk hdrop htake hk0 HR1 hlen2 hlenv
        by_cases he0 : er = 0
        · subst he0
          obtain ⟨r1, r2⟩ := hle rfl
          have r3 : c3 + 1 ≤ c4 := hup rfl
          clear hle hup
          go_wp2_with fail
          refine (HIH.out m hnm k _ ok _ (d + 1) c3 g ?_ hkok ?_ hng (by omega) (by omega) q1 q2).mono ?_
          · refine HRK.out.ext0 ?_
            repeat (first | exact Ext.refl _ _ | refine Ext.drew ?_ | refine Ext.alloc ?_ _ | refine Ext.setNew ?_ (Nat.le_refl _) _)
          · refine HC3.out.ext (M := Non) ?_ (fun h => h)
            repeat (first | exact Ext.refl _ _ | refine Ext.drew ?_ | refine Ext.alloc ?_ _ | refine Ext.setNew ?_ (Nat.le_refl _) _)
          rintro e w5 ⟨x, err, c', rfl, he5, hc5, herr, hx⟩
          rw [HRR.out] at herr hx
          have herr' : err = 0 := herr
          subst herr'
          rcases hx with ⟨h, _⟩ | ⟨_, hcc, hnd⟩
          · exact absurd rfl h
          have hcc' : c' = c4 := hcc
          subst hcc'
          obtain ⟨t, p, rfl, hq⟩ := nd_iface hnd
          have hty := assert_yes hq p
          have hE5 : Ext (Only g) wr w5 := by
            refine Ext.trans ?_ he5 (fun _ _ e => e)
            repeat (first | exact Ext.refl _ _ | refine Ext.drew ?_ | refine Ext.alloc ?_ _ | refine Ext.setNew ?_ (Nat.le_refl _) _)
          have hnd2 : (ndK n).K w5 (fun k' => wr.heap.size ≤ k' ∧ k' < w5.heap.size) k [.iface t p] := by
            rw [hnm]
            exact (ndK (m + 1)).mono (fun k' hk' => ⟨by have h1 := hk'.1; simp at h1; omega, hk'.2⟩) ((ndK (m + 1)).bound hnd)
          have HN5 := Lib.hid hnd2
          have HE5 := Lib.hid hE5
          have HC5 := Lib.hid hc5
          have hsz5 := hE5.size
          have O5 := Lib.hid (HO.out.ext hE5 (fun k hk _ e => by have e1 : k = g := e; omega))
          have HX5 := Lib.hid (hE5.obj HX.out (fun e => by have e1 : w.heap.size = g := e; omega))
          clear herr hcc hnd hnd2 hE5 he5 hc5
          go_wp2_with (first
            | (at_builtin
               refine wpList_app (ndK n) (ok := fun k => w.heap.size < k) (v := .slice Av j cv) (vx := .slice (some ⟨w5.heap.size, 0, none⟩) 1 1) (xs := kids.take j) (ys := [k]) (w.heap.size + 1) rfl _ _ 126 91 _ 16 rfl Try.underlying126 (infoq n) (by rw [ndK_sz]; rfl) (by rw [ndK_sz]; decide) (by simp [Act.eval]) (by simp [Act.eval]) (O5.out.ext0 ((Ext.refl _ _).alloc _)) (Rd.lit_at (cs := [.iface t p]) (e := 91) (fr := (0, 0)) (heap_alloc_new w5 _) ((ndK n).mono (fun k' hk' => ⟨by have := hk'.1; omega, fun e => by have := (hob k' e.symm).2; have := hk'.1; omega⟩) ((ndK n).move (fun k' hk' => Below.heap_alloc _ _ _ hk'.2) HN5.out)) ⟨by omega, fun e => by have := (hob _ e.symm).2; omega⟩) (fun k hk => by simp at hk; omega) (by simp; omega) (by simp; omega) (by simp; omega) ?_
               intro v' w' hown hext hblk)
            | fail)
          have HO7 := Lib.hid hown
          have HE7 : Hid (Ext (Only g) w w') := (((HE.out.trans HE5.out (fun _ _ e => e)).alloc _).trans hext (fun i hi e => by have := (hob i e.symm).1; omega))
          have HX7 := Lib.hid (hext.obj (blk_alloc HX5.out _) (fun e => by have := (hob _ e.symm).1; omega))
          have HC7 : Hid (Ctr w' g c') := hext.obj (blk_alloc HC5.out _) (fun e => by have := (hob _ e.symm).1; omega)
          clear hown hext hblk
          go_roundw
          case rel =>
            refine ⟨j + 1, c', by go_num, by omega, by omega, ?_, HE7.out, HX7.out, HC7.out, r1, r2, ?_⟩
            · show Own _ _ _ _ _ _ _
              rw [HT.out]
              exact HO7.out
            · show foldE _ _ _ = _
              rw [HF.out, HD.out]
              exact foldE_yes (by rw [hnm]; exact HRR.out)
          case measure => simp [intOf]; omega
        · clear hle hup
          have hfin : Hid (chk (n + 1) (.mk 6 key val kids) d c = (er, c4)) := by
            show chk (n + 1) (.mk 6 key val kids) d c = _
            rw [hch0.out, HF.out, HD.out, ← HRR.out]
            have h1 := foldE_no (F := fun k c => chk n k (d + 1) c) (k := k) (ks := kids.drop (j + 1)) (c := c3) (by
              show (chk n k (d + 1) c3).1 ≠ 0
              rw [hnm, HRR.out]
              exact he0)
            rw [h1, hnm]
          go_wp2_with fail
          refine (HIH.out m hnm k _ ok _ (d + 1) c3 g ?_ hkok ?_ hng (by omega) (by omega) q1 q2).mono ?_
          · refine HRK.out.ext0 ?_
            repeat (first | exact Ext.refl _ _ | refine Ext.drew ?_ | refine Ext.alloc ?_ _ | refine Ext.setNew ?_ (Nat.le_refl _) _)
          · refine HC3.out.ext (M := Non) ?_ (fun h => h)
            repeat (first | exact Ext.refl _ _ | refine Ext.drew ?_ | refine Ext.alloc ?_ _ | refine Ext.setNew ?_ (Nat.le_refl _) _)
          rintro e w5 ⟨x, err, c', rfl, he5, hc5, herr, hx⟩
          rw [HRR.out] at herr
          have herr' : err = er := herr
          subst herr'
          have hE5 : Ext (Only g) wr w5 := by
            refine Ext.trans ?_ he5 (fun _ _ e => e)
            repeat (first | exact Ext.refl _ _ | refine Ext.drew ?_ | refine Ext.alloc ?_ _ | refine Ext.setNew ?_ (Nat.le_refl _) _)
          have HE5 := Lib.hid hE5
          have HC5 := Lib.hid hc5
          clear herr hx hE5 he5 hc5
          go_wp2_with fail
          all_goals go_ret2
          all_goals exact ⟨.nilIface, err, c', rfl, HE.out.trans HE5.out (fun _ _ e => e), HC5.out, by rw [hfin.out], .inl ⟨he0, rfl⟩⟩
      · have hch : chk (n + 1) (.mk 6 key val kids) d c = (0, c3) := by
          rw [hch0.out, HF.out, List.drop_eq_nil_of_le (by rw [← HL.out]; omega)]
          rfl
        have hj' : j = len := by omega
        subst hj'
        obtain ⟨Av, cv, rfl, hcv, hmv⟩ := HO.out.slice
        have hlenv : (kids.take j).length = j := by rw [List.length_take, ← HL.out]; omega
        rw [hlenv] at hcv hmv HO ⊢
        have htk : kids.take j = kids := List.take_of_length_le (by rw [← HL.out]; omega)
        rw [htk] at HO
        have HS : Hid (Rd (ndK n) wr (fun k => w.heap.size ≤ k) (.slice Av j cv) kids) := HO.out.rd.mono (fun k hk => Nat.le_of_lt hk)
        have x0 : wr.cell? ⟨w.heap.size, 0, none⟩ = some (.int .i64 6) := blk_cell HX.out 0
        have HCH := Lib.hid hch
        clear hch htk hlenv
        go_wp2_with fail
        go_ret2
        refine ⟨_, 0, c3, rfl, HE.out, HC3.out, by rw [HCH.out], .inr ⟨rfl, by rw [HCH.out], ?_⟩⟩
        exact .inr (.inr (.inr (.inr (.inr (.inr ⟨rfl, _, rfl, HS.out⟩)))))

  · have hbad : Hid (mayF (.mk 6 key val kids) = false) := by
      show mayF _ = false
      rw [Bool.eq_false_iff]
      intro h
      simp [mayF, mayW, bare, Flt.op, Flt.key, Flt.val] at h
      exact hb ⟨of_decide_eq_true h.1, of_decide_eq_true h.2⟩
    have hch : Hid (chk (n + 1) (.mk 6 key val kids) d c = (50, c)) := chk_bad (by omega) hbad.out
    rcases (show ¬ key.toList = [] ∨ ¬ val.toList = [] by
      by_cases h1 : key.toList = []
      · by_cases h2 : val.toList = []
        · exact absurd ⟨h1, h2⟩ hb
        · exact .inr h2
      · exact .inl h1) with hn | hn
    all_goals
      clear hb
      go_enter Try.func83, Try.ntmps83
      go_wp2_with fail
      all_goals go_ret2
      all_goals exact ⟨.nilIface, 50, c + 1, rfl, ext_set _ _ _ _, ctr_set HC.out _ _, by rw [hch.out], .inl ⟨by decide, rfl⟩⟩
end
end Go.Proofs.Ytdjfijdnhfmeeaa
