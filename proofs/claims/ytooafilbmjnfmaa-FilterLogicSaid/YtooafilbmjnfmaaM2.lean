/- Texts: what a value has under a name: the program's Field. -/
import Derived.Test.YtooafilbmjnfmaaM1
namespace Go.Proofs.Ytooafilbmjnfmaa
open Go.RowKit Go.TM
def colonFrom (p : ByteArray) : Nat → Nat → Option Nat
  | 0, _ => none
  | b + 1, pos => if pos < p.size then (if ((Utf8.decode p pos).1 : Int) = 58 then some pos else colonFrom p b (pos + (Utf8.decode p pos).2)) else none
theorem colon_end {p : ByteArray} {b pos : Nat} (h : ¬ pos < p.size) : colonFrom p b pos = none := by
  cases b with
  | zero => rfl
  | succ b => exact if_neg h
theorem colon_at {p : ByteArray} {b pos : Nat} (h : pos < p.size) (hr : ((Utf8.decode p pos).1 : Int) = 58) : colonFrom p (b + 1) pos = some pos := (if_pos h).trans (if_pos hr)
theorem colon_on {p : ByteArray} {b pos : Nat} (h : pos < p.size) (hr : ¬ ((Utf8.decode p pos).1 : Int) = 58) : colonFrom p (b + 1) pos = colonFrom p b (pos + (Utf8.decode p pos).2) := (if_pos h).trans (if_neg hr)
def fieldOne (p name : ByteArray) : Option ByteArray :=
  match colonFrom p p.size 0 with
  | some i => if ((p.extract 0 i).toList == name.toList) = true then some (p.extract (i + 1) p.size) else none
  | none => none
def fieldL (name : ByteArray) : List ByteArray → ByteArray × Bool
  | [] => (⟨#[]⟩, false)
  | p :: ps => match fieldOne p name with
    | some v => (v, true)
    | none => fieldL name ps
def fieldF : FieldFn := fun value name => fieldL name (partsF value 32)
theorem fieldL_yes {name p v : ByteArray} {ps : List ByteArray} (h : fieldOne p name = some v) : fieldL name (p :: ps) = (v, true) := by
  unfold fieldL
  rw [h]
theorem fieldL_no {name p : ByteArray} {ps : List ByteArray} (h : fieldOne p name = none) : fieldL name (p :: ps) = fieldL name ps := by
  rw [fieldL.eq_def]
  simp only
  rw [h]
theorem parts_size (s : ByteArray) (by' : Int) : ∀ (b pos fm : Nat), ∀ p ∈ partsFrom s by' b pos fm, p.size ≤ s.size
  | 0, pos, fm, p, hp => by
    simp only [partsFrom, List.mem_singleton] at hp
    subst hp
    simp
  | b + 1, pos, fm, p, hp => by
    by_cases h : pos < s.size
    · by_cases hr : ((Utf8.decode s pos).1 : Int) = by'
      · rw [parts_cut h hr] at hp
        rcases List.mem_cons.1 hp with rfl | hp
        · simp; omega
        · exact parts_size s by' b _ _ p hp
      · rw [parts_on h hr] at hp
        exact parts_size s by' b _ _ p hp
    · rw [parts_end s by' (b + 1) pos fm h, List.mem_singleton] at hp
      subst hp
      simp
theorem parts_len (s : ByteArray) (by' : Int) : ∀ (b pos fm : Nat), (partsFrom s by' b pos fm).length ≤ b + 1
  | 0, _, _ => Nat.le_refl _
  | b + 1, pos, fm => by
    by_cases h : pos < s.size
    · by_cases hr : ((Utf8.decode s pos).1 : Int) = by'
      · rw [parts_cut h hr, List.length_cons]
        have := parts_len s by' b (pos + (Utf8.decode s pos).2) (pos + (Utf8.decode s pos).2)
        omega
      · rw [parts_on h hr]
        have := parts_len s by' b (pos + (Utf8.decode s pos).2) fm
        omega
    · rw [parts_end s by' (b + 1) pos fm h]
      simp
set_option maxRecDepth 100000 in
set_option maxHeartbeats 8000000 in
theorem Field_calls : FieldSpec fieldF := by
  intro w s name hs
  obtain ⟨l, hl⟩ : ∃ l, partsF s 32 = l := ⟨_, rfl⟩
  have HP : Hid (∀ p ∈ l, p.size ≤ 1000000) := by
    intro p hp
    rw [← hl] at hp
    have := parts_size s 32 s.size 0 0 p hp
    omega
  have hll : l.length ≤ 1000001 := by
    rw [← hl]
    have := parts_len s 32 s.size 0 0
    unfold partsF
    omega
  have HL := Lib.hid hl
  have hff : Hid (fieldF s name = fieldL name l) := by show fieldL name (partsF s 32) = _; rw [hl]
  clear hl
  go_enter Try.func103, Try.ntmps103
  go_wp2_with fail
  refine (Parts_calls w s hs 32).mono ?_
  rw [HL.out]
  rintro e w1 ⟨A, n, c, rfl, HO, HE⟩
  obtain ⟨_, c', he, hc, hm⟩ := HO.out.slice
  simp only [Value.slice.injEq] at he
  obtain ⟨-, rfl, rfl⟩ := he
  have R1 := Lib.hid HO.out.rd
  clear HO hc hm
  go_wp2_with fail
  go_loopw [13] (fun i wr => ∃ j : Nat, i = .int .i64 (j : Int) ∧ j ≤ l.length ∧ Hid (Ext Non w1 wr) ∧ Hid (fieldL name l = fieldL name (l.drop j))) (fun i _ => l.length - (intOf i).toNat)
  case atStart => exact ⟨0, rfl, by omega, Ext.refl _ _, rfl⟩
  case round =>
    obtain ⟨j, rfl, hj, HE2, HF⟩ := hrel
    by_cases hlt : j < l.length
    · obtain ⟨p, hx⟩ : ∃ p, l[j]? = some p := ⟨_, List.getElem?_eq_getElem hlt⟩
      obtain ⟨gl, off, rfl, _, hgl, hcc⟩ := (R1.out.ext0 HE2.out).flat_at hx
      have d0 := hcc 0 _ rfl
      simp only [Nat.add_zero, Nat.mul_one] at d0
      have hdrop : l.drop j = p :: l.drop (j + 1) := by
        rw [List.drop_eq_getElem_cons hlt]
        congr 1
        exact (List.getElem?_eq_some_iff.1 hx).2
      have HD := Lib.hid hdrop
      have hpz : p.size ≤ 1000000 := HP.out p (List.mem_of_getElem? hx)
      clear hcc hx hdrop
      obtain ⟨wo, hwo⟩ : ∃ wo, wo = wr := ⟨_, rfl⟩
      subst hwo
      go_wp2_with fail
      go_loopw [] (fun wr => ∃ (pos b : Nat), wr = wo.iter p pos ∧ p.size ≤ pos + b ∧ Hid (colonFrom p p.size 0 = colonFrom p b pos)) (fun wr => p.size - wr.iterPos wo.heap.size)
      case atStart => exact ⟨0, p.size, rfl, by omega, rfl⟩
      case round =>
        obtain ⟨pos, b, rfl, hb, HC⟩ := hrel
        have HEI : Hid (∀ q, Ext Non wo (wo.iter p q)) := fun q => (Ext.refl Non wo).alloc _
        by_cases hpos : pos < p.size
        · have hnx : ∀ ty, (Instr.next (.pointer (some ⟨wo.heap.size, 0, none⟩)) true ty).run Try.prog (wo.iter p pos) = _ := fun ty => run_next_any wo p pos ty hpos
          have hwd := width_pos p pos hpos
          have hwi := width_in p pos hpos
          obtain ⟨b', rfl⟩ : ∃ b', b = b' + 1 := ⟨b - 1, by omega⟩
          by_cases hrn : ((Utf8.decode p pos).1 : Int) = 58
          · have HR := Lib.hid hrn
            obtain ⟨bq, hbq⟩ : ∃ bq, ((p.extract 0 pos).toList == name.toList) = bq := ⟨_, rfl⟩
            have HBQ := Lib.hid hbq
            have HCO : Hid (colonFrom p p.size 0 = some pos) := HC.out.trans (colon_at hpos HR.out)
            cases bq with
            | true =>
              have hone : Hid (fieldF s name = (p.extract (pos + 1) p.size, true)) := by
                show _ = _
                rw [hff.out, HF.out, HD.out]
                refine fieldL_yes ?_
                unfold fieldOne
                rw [HCO.out]
                exact if_pos HBQ.out
              go_wp2_with fail
              go_ret2
              exact ⟨by rw [hone.out]; rfl, HE.out.trans0 (HE2.out.trans0 (HEI.out _))⟩
            | false =>
              have hone : Hid (fieldL name l = fieldL name (l.drop (j + 1))) := by
                show _ = _
                rw [HF.out, HD.out]
                refine fieldL_no ?_
                unfold fieldOne
                rw [HCO.out]
                exact if_neg (by rw [HBQ.out]; simp)
              go_wp2_with fail
              go_roundw
              case rel => exact ⟨j + 1, by go_num, by omega, HE2.out.trans0 (HEI.out _), hone.out⟩
              case measure => simp [intOf]; omega
          · have HR := Lib.hid hrn
            have hnn : Hid (colonFrom p p.size 0 = colonFrom p b' (pos + (Utf8.decode p pos).2)) := HC.out.trans (colon_on hpos HR.out)
            go_wp2_with fail
            go_roundw
            case rel => exact ⟨pos + (Utf8.decode p pos).2, b', rfl, by omega, hnn.out⟩
            case measure => simp; omega
        · have hnx : ∀ ty, (Instr.next (.pointer (some ⟨wo.heap.size, 0, none⟩)) true ty).run Try.prog (wo.iter p pos) = _ := fun ty => run_next_end wo p pos ty hpos
          have hone : Hid (fieldL name l = fieldL name (l.drop (j + 1))) := by
            show _ = _
            rw [HF.out, HD.out]
            refine fieldL_no ?_
            unfold fieldOne
            rw [HC.out, colon_end hpos]
          go_wp2_with fail
          go_roundw
          case rel => exact ⟨j + 1, by go_num, by omega, HE2.out.trans0 (HEI.out _), hone.out⟩
          case measure => simp [intOf]; omega
    · obtain rfl : j = l.length := by omega
      have hfin : Hid (fieldF s name = (⟨#[]⟩, false)) := by
        show _ = _
        rw [hff.out, HF.out, List.drop_length]
        rfl
      go_wp2_with fail
      go_ret2
      exact ⟨by rw [hfin.out]; rfl, HE.out.trans0 HE2.out⟩
end Go.Proofs.Ytooafilbmjnfmaa
