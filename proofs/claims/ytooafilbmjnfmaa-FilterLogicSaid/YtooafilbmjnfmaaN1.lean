/- Texts: the document's Field. -/
import Derived.Test.YtooafilbmjnfmaaM9
namespace Go.Proofs.Ytooafilbmjnfmaa
open Go.RowKit Go.TM
theorem colon_parts {p : ByteArray} (fm : Nat) : ∀ (b pos i : Nat), colonFrom p b pos = some i → i < p.size ∧ ∃ x t, partsFrom p 58 b pos fm = p.extract fm i :: x :: t
  | 0, _, _, h => by cases h
  | b + 1, pos, i, h => by
    by_cases h1 : pos < p.size
    · by_cases h2 : ((Utf8.decode p pos).1 : Int) = 58
      · rw [colon_at h1 h2] at h
        cases h
        refine ⟨h1, ?_⟩
        rw [parts_cut h1 h2]
        cases b with
        | zero => exact ⟨_, [], rfl⟩
        | succ b =>
          by_cases h3 : pos + (Utf8.decode p pos).2 < p.size
          · by_cases h4 : ((Utf8.decode p (pos + (Utf8.decode p pos).2)).1 : Int) = 58
            · rw [parts_cut h3 h4]
              exact ⟨_, _, rfl⟩
            · obtain ⟨x, t, hx⟩ : ∃ x t, partsFrom p 58 (b + 1) (pos + (Utf8.decode p pos).2) (pos + (Utf8.decode p pos).2) = x :: t := parts_some p 58 _ _ _
              rw [hx]
              exact ⟨x, t, rfl⟩
          · rw [parts_end p 58 (b + 1) _ _ h3]
            exact ⟨_, [], rfl⟩
      · rw [colon_on h1 h2] at h
        rw [parts_on h1 h2]
        exact colon_parts fm b _ i h
    · rw [colon_end h1] at h
      cases h
where
  parts_some (s : ByteArray) (by' : Int) : ∀ (b pos fm : Nat), ∃ x t, partsFrom s by' b pos fm = x :: t
    | 0, _, _ => ⟨_, [], rfl⟩
    | b + 1, pos, fm => by
      by_cases h1 : pos < s.size
      · by_cases h2 : ((Utf8.decode s pos).1 : Int) = by'
        · rw [parts_cut h1 h2]
          exact ⟨_, _, rfl⟩
        · rw [parts_on h1 h2]
          exact parts_some s by' b _ fm
      · rw [parts_end s by' (b + 1) pos fm h1]
        exact ⟨_, [], rfl⟩
theorem colon_none {p : ByteArray} (fm : Nat) : ∀ (b pos : Nat), p.size ≤ pos + b → colonFrom p b pos = none → partsFrom p 58 b pos fm = [p.extract fm p.size]
  | 0, _, _, _ => rfl
  | b + 1, pos, hb, h => by
    by_cases h1 : pos < p.size
    · by_cases h2 : ((Utf8.decode p pos).1 : Int) = 58
      · rw [colon_at h1 h2] at h
        cases h
      · rw [colon_on h1 h2] at h
        have := width_pos p pos h1
        rw [parts_on h1 h2]
        exact colon_none fm b _ (by omega) h
    · exact parts_end p 58 (b + 1) pos fm h1
set_option maxRecDepth 100000 in
set_option maxHeartbeats 8000000 in
theorem RField_calls (w : World) (s name : ByteArray) (hs : s.size ≤ 1000000) : Calls Try.prog 63 #[.string s, .string name] w fun e w' => e = .returned (.tuple #[.string (fieldF s name).1, .bool (fieldF s name).2]) ∧ Ext Non w w' := by
  obtain ⟨l, hl⟩ : ∃ l, partsF s 32 = l := ⟨_, rfl⟩
  have HP : Hid (∀ p ∈ l, p.size ≤ 1000000) := by
    intro p hp
    rw [← hl] at hp
    have := parts_size s 32 s.size 0 0 p hp
    omega
  have hll : l.length ≤ 1000001 := by
    rw [← hl]
    have := parts_len s 32 s.size 0 0
    unfold partsF
    omega
  have HL := Lib.hid hl
  have hff : Hid (fieldF s name = fieldL name l) := by show fieldL name (partsF s 32) = _; rw [hl]
  clear hl
  go_enter Try.func63, Try.ntmps63
  go_wp2_with fail
  refine (RParts_calls w s hs 32).mono ?_
  rw [HL.out]
  rintro e w1 ⟨A, n, c, rfl, HO, HE⟩
  obtain ⟨_, c', he, hc, hm⟩ := HO.out.slice
  simp only [Value.slice.injEq] at he
  obtain ⟨-, rfl, rfl⟩ := he
  have R1 := Lib.hid HO.out.rd
  clear HO hc hm
  go_wp2_with fail
  go_loopw [12] (fun i wr => ∃ j : Nat, i = .int .i64 (j : Int) ∧ j ≤ l.length ∧ Hid (Ext Non w1 wr) ∧ Hid (fieldL name l = fieldL name (l.drop j))) (fun i _ => l.length - (intOf i).toNat)
  case atStart => exact ⟨0, rfl, by omega, Ext.refl _ _, rfl⟩
  case round =>
    obtain ⟨j, rfl, hj, HE2, HF⟩ := hrel
    by_cases hlt : j < l.length
    · obtain ⟨p, hx⟩ : ∃ p, l[j]? = some p := ⟨_, List.getElem?_eq_getElem hlt⟩
      obtain ⟨gl, off, rfl, _, hgl, hcc⟩ := (R1.out.ext0 HE2.out).flat_at hx
      have d0 := hcc 0 _ rfl
      simp only [Nat.add_zero, Nat.mul_one] at d0
      have hdrop : l.drop j = p :: l.drop (j + 1) := by
        rw [List.drop_eq_getElem_cons hlt]
        congr 1
        exact (List.getElem?_eq_some_iff.1 hx).2
      have HD := Lib.hid hdrop
      have hpz : p.size ≤ 1000000 := HP.out p (List.mem_of_getElem? hx)
      clear hcc hx hdrop
      go_wp2_with fail
      refine (RParts_calls _ p hpz 58).mono ?_
      cases hco : colonFrom p p.size 0 with
      | none =>
        rw [show partsF p 58 = [p.extract 0 p.size] from colon_none 0 p.size 0 (by omega) hco]
        rintro e w3 ⟨A3, n3, c3, rfl, HO3, HE3⟩
        obtain ⟨_, _, h3, _, _⟩ := HO3.out.slice
        simp only [Value.slice.injEq, List.length_cons, List.length_nil] at h3
        obtain ⟨-, rfl, -⟩ := h3
        have hone : Hid (fieldL name l = fieldL name (l.drop (j + 1))) := by
          show _ = _
          rw [HF.out, HD.out]
          refine fieldL_no ?_
          unfold fieldOne
          rw [hco]
        go_wp2_with fail
        go_roundw
        case rel => exact ⟨j + 1, by go_num, by omega, HE2.out.trans0 HE3.out, hone.out⟩
        case measure => simp [intOf]; omega
      | some i =>
        obtain ⟨hip, x, t, hpt⟩ := colon_parts 0 p.size 0 i hco
        rw [show partsF p 58 = p.extract 0 i :: x :: t from hpt]
        rintro e w3 ⟨A3, n3, c3, rfl, HO3, HE3⟩
        obtain ⟨_, _, h3, _, hm3⟩ := HO3.out.slice
        simp only [Value.slice.injEq, List.length_cons] at h3
        obtain ⟨-, hn3, -⟩ := h3
        have hn3' : (1 : Int) < (n3 : Int) := by omega
        obtain ⟨g3, off3, rfl, _, hgl3, hcc3⟩ := HO3.out.rd.flat_at (k := 0) rfl
        have e0 := hcc3 0 _ rfl
        simp only [Nat.add_zero, Nat.zero_mul] at e0
        obtain ⟨bq, hbq⟩ : ∃ bq, ((p.extract 0 i).toList == name.toList) = bq := ⟨_, rfl⟩
        have HBQ := Lib.hid hbq
        have HCO := Lib.hid hco
        have HIP := Lib.hid hip
        clear HO3 hcc3 hn3 hm3 hco hpt
        cases bq with
        | true =>
          have hsz : name.size = i := by
            have h := congrArg List.length (eq_of_beq HBQ.out)
            have e1 : (p.extract 0 i).toList.length = (p.extract 0 i).size := by rw [← size_list]; congr 1; exact ByteArray.toList_eq _
            have e2 : name.toList.length = name.size := by rw [← size_list]; congr 1; exact ByteArray.toList_eq name
            rw [e1, e2] at h
            have e3 : (p.extract 0 i).size = i := by simp; omega
            omega
          have hone : Hid (fieldF s name = (p.extract (name.size + 1) p.size, true)) := by
            show _ = _
            rw [hff.out, HF.out, HD.out, hsz]
            refine fieldL_yes ?_
            unfold fieldOne
            rw [HCO.out]
            exact if_pos HBQ.out
          have hns : (name.size : Int) + 1 ≤ (p.size : Int) := by omega
          clear hsz hip
          go_wp2_with fail
          go_ret2
          exact ⟨by rw [hone.out]; rfl, HE.out.trans0 (HE2.out.trans0 HE3.out)⟩
        | false =>
          have hone : Hid (fieldL name l = fieldL name (l.drop (j + 1))) := by
            show _ = _
            rw [HF.out, HD.out]
            refine fieldL_no ?_
            unfold fieldOne
            rw [HCO.out]
            exact if_neg (by rw [HBQ.out]; simp)
          go_wp2_with fail
          go_roundw
          case rel => exact ⟨j + 1, by go_num, by omega, HE2.out.trans0 HE3.out, hone.out⟩
          case measure => simp [intOf]; omega
    · obtain rfl : j = l.length := by omega
      have hfin : Hid (fieldF s name = (⟨#[]⟩, false)) := by
        show _ = _
        rw [hff.out, HF.out, List.drop_length]
        rfl
      go_wp2_with fail
      go_ret2
      exact ⟨by rw [hfin.out]; rfl, HE.out.trans0 HE2.out⟩
end Go.Proofs.Ytooafilbmjnfmaa
