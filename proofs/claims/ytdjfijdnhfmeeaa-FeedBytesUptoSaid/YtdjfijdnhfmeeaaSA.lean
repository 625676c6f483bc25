/- What the laws' arguments read as: bytes, numbers, lists of filters. A feed that no call made. Filters that may be are small; the document's SameSubs and the law's same, of feeds that are the same. How long a list of calls may be. -/
import Derived.Test.YtdjfijdnhfmeeaaRB
import Derived.Laws.MakeOwn
import Derived.Laws.Bits64b
import Derived.Laws.IdiomStrings
import Derived.Laws.BytesArg
import Derived.Test.YtdjfijdnhfmeeaaL
import Derived.SizedLaws
namespace Go.Proofs.Ytdjfijdnhfmeeaa
open Go.RowKit Go.TM Go.ChangeShapes Go.WideShapes Go.ChangeAt Go.Deep

section
variable {H : Type} {enc : TypeId × Value → H} {w : World} {base b0 : Nat} {spare : Nat → Bool} {held : Bool} {r : Reach}
set_option maxRecDepth 100000 in
theorem trod_byte {n : Nat} {cs : List Value} {y : DataW H × List MemPlace} (h : DataW.trod enc Try.prog w base spare held n 5 cs = some y) : ∃ b : UInt8, cs = [.int .u8 b.toNat] := by
  obtain ⟨a, ha, _, wa⟩ := DataW.trod_int Try.underlying5 h
  obtain ⟨h0, h1⟩ := bounds_u8 wa
  refine ⟨UInt8.ofNat a.toNat, ?_⟩
  have e : ((UInt8.ofNat a.toNat).toNat : Int) = a := by
    have : (UInt8.ofNat a.toNat).toNat = a.toNat % 256 := by simp
    rw [this]
    omega
  rw [e]
  exact ha
set_option maxRecDepth 100000 in
theorem open_bytes {v : Value} {d : DataW H} {p : List MemPlace} (hv : Value.okWide Try.prog w r b0 70 v) (h : DataW.Trod enc Try.prog w base spare held 70 v d p) :
    ∃ A c, ∃ l : List UInt8, v = .slice A l.length c ∧ Rd Kd.u8 w (fun k => k < w.heap.size) (.slice A l.length c) l := by
  obtain ⟨A, len, cap, rfl⟩ := okWide_slice Try.underlying70 hv
  obtain ⟨fuel, hf⟩ := h
  obtain ⟨l, rfl, hr, _⟩ := open_rd Kd.u8 (fun _ => True) Try.underlying70 (by kernel_rfl) (by decide) (fun n cs y _ hy => let ⟨b, hb⟩ := trod_byte hy; ⟨b, hb, trivial⟩) hf
  exact ⟨A, cap, l, rfl, hr⟩
set_option maxRecDepth 100000 in
theorem open_ints {v : Value} {d : DataW H} {p : List MemPlace} (hv : Value.okWide Try.prog w r b0 59 v) (h : DataW.Trod enc Try.prog w base spare held 59 v d p) :
    ∃ A c, ∃ l : List Int, v = .slice A l.length c ∧ Rd Kd.i64 w (fun k => k < w.heap.size) (.slice A l.length c) l := by
  obtain ⟨A, len, cap, rfl⟩ := okWide_slice Try.underlying59 hv
  obtain ⟨fuel, hf⟩ := h
  obtain ⟨l, rfl, hr, _⟩ := open_rd Kd.i64 (fun _ => True) Try.underlying59 (by kernel_rfl) (by decide) (fun n cs y _ hy => let ⟨b, hb, _, _⟩ := DataW.trod_int Try.underlying3 hy; ⟨b, hb, trivial⟩) hf
  exact ⟨A, cap, l, rfl, hr⟩
set_option maxRecDepth 100000 in
theorem open_flts {v : Value} {d : DataW H} {p : List MemPlace} (hv : Value.okWide Try.prog w r b0 22 v) (h : DataW.Trod enc Try.prog w base spare held 22 v d p) :
    ∃ n A c, ∃ l : List Flt, v = .slice A l.length c ∧ Rd (fltK n) w (fun k => k < w.heap.size) (.slice A l.length c) l ∧ ∀ x ∈ l, okF n x := by
  obtain ⟨A, len, cap, rfl⟩ := okWide_slice Try.underlying22 hv
  obtain ⟨fuel, hf⟩ := h
  obtain ⟨l, rfl, hr, hok⟩ := open_rd (fltK fuel) (okF fuel) Try.underlying22 ((by kernel_rfl : Try.prog.cellsOf 24 = 4).trans (fltK_sz fuel).symm) (by rw [fltK_sz]; decide) (fun n cs y hn hy => let ⟨e, he, ho⟩ := trod_flt n hy; ⟨e, fltK_le (by omega) he, okF_le (by omega) ho⟩) hf
  exact ⟨fuel, A, cap, l, rfl, hr, hok⟩
end
end Go.Proofs.Ytdjfijdnhfmeeaa

namespace Go.Proofs.Ytdjfijdnhfmeeaa
open Go.RowKit Go.TM
theorem conv_rd {w : World} {ok : Nat → Prop} {A : Option Addr} {n c : Nat} {bs : List UInt8} (h : Rd Kd.u8 w ok (.slice A n c) bs) : (convert 70 9 (.slice A n c)).run Try.prog w = .ok (.string ⟨bs.toArray⟩) w := by
  obtain ⟨A', c', he, hc, hm, hr⟩ := h
  simp only [Value.slice.injEq] at he
  obtain ⟨rfl, rfl, rfl⟩ := he
  cases bs with
  | nil =>
    cases A with
    | none => exact run_convert_bytes_nil w 70 5 Try.underlying70 Try.underlying5 _ _ 9 Try.underlying9
    | some a => exact run_convert_bytes_back w 70 9 5 a _ [] Try.underlying70 Try.underlying5 Try.underlying9 (fun j hj => by simp at hj)
  | cons b bs =>
    obtain ⟨g, off, rfl, hg, hlt, hx⟩ := hr (by simp)
    refine run_convert_bytes_back w 70 9 5 _ _ (b :: bs) Try.underlying70 Try.underlying5 Try.underlying9 (fun j hj => ?_)
    obtain ⟨cs, hk, hcs⟩ := hx j _ (List.getElem?_eq_getElem hj)
    have hk' : cs = [Value.int .u8 ((b :: bs)[j]).toNat] := hk
    subst hk'
    have := hcs 0 _ rfl
    have hadd : (⟨g, off, none⟩ : Addr).add j = ⟨g, off + j, none⟩ := by unfold Addr.add; split <;> simp_all
    rw [hadd]
    simpa [Kd.u8, Kd.flat] using this
def DeadAt (w : World) (p : Option Addr) : Prop := p = none ∨ ∃ g se ss tp, p = some ⟨g, 0, none⟩ ∧ FdB w g se ss 0 tp
theorem DeadAt.ext0 {w w' : World} {p : Option Addr} (h : DeadAt w p) (he : Ext Non w w') : DeadAt w' p := by
  rcases h with rfl | ⟨g, se, ss, tp, rfl, hb⟩
  · exact .inl rfl
  · exact .inr ⟨g, se, ss, tp, rfl, he.obj hb (fun e => e)⟩
section
variable {w : World} {p : Option Addr}
theorem dead_at (h : DeadAt w p) : Calls Try.prog 48 #[.pointer p] w fun e w' => e = .returned (.bool true) ∧ w = w' := by
  rcases h with rfl | ⟨g, se, ss, tp, rfl, hb⟩
  · exact dead_nil
  · exact dead_zero hb
theorem Top_dead (h : DeadAt w p) : Calls Try.prog 31 #[.pointer p] w fun e w' => e = .returned (.int .i64 0) ∧ Ext Non w w' := by
  have HD := Lib.hid (dead_at h)
  clear h
  go_enter Try.func31, Try.ntmps31
  go_wp2_with fail
  refine HD.out.mono ?_
  rintro e w5 ⟨rfl, rfl⟩
  go_wp2_with fail
  go_ret
  exact ⟨rfl, Ext.refl _ _⟩
theorem Kept_dead (h : DeadAt w p) : Calls Try.prog 32 #[.pointer p] w fun e w' => e = .returned (.slice none 0 0) ∧ Ext Non w w' := by
  have HD := Lib.hid (dead_at h)
  clear h
  go_enter Try.func32, Try.ntmps32
  go_wp2_with fail
  refine HD.out.mono ?_
  rintro e w5 ⟨rfl, rfl⟩
  go_wp2_with fail
  go_ret
  exact ⟨rfl, Ext.refl _ _⟩
theorem List_dead (h : DeadAt w p) : Calls Try.prog 34 #[.pointer p] w fun e w' => e = .returned (.slice none 0 0) ∧ Ext Non w w' := by
  have HD := Lib.hid (dead_at h)
  clear h
  go_enter Try.func34, Try.ntmps34
  go_wp2_with fail
  refine HD.out.mono ?_
  rintro e w5 ⟨rfl, rfl⟩
  go_wp2_with fail
  go_ret
  exact ⟨rfl, Ext.refl _ _⟩
theorem Note_dead (h : DeadAt w p) (pos : Int) {A : Option Addr} {m c : Nat} : Calls Try.prog 16 #[.pointer p, .int .i64 pos, .slice A m c] w fun e w' => e = .returned (.int .i64 6) ∧ Ext Non w w' := by
  have HD := Lib.hid (dead_at h)
  clear h
  go_enter Try.func16, Try.ntmps16
  go_wp2_with fail
  refine HD.out.mono ?_
  rintro e w5 ⟨rfl, rfl⟩
  go_wp2_with fail
  go_ret
  exact ⟨rfl, Ext.refl _ _⟩
theorem Add_dead (h : DeadAt w p) {op : Int} {key val : ByteArray} {A : Option Addr} {m c : Nat} : Calls Try.prog 15 #[.pointer p, .agg #[.int .i64 op, .string key, .string val, .slice A m c]] w fun e w' => e = .returned (.tuple #[.int .i64 0, .int .i64 6]) ∧ Ext Non w w' := by
  have HD := Lib.hid (dead_at (h.ext0 ((Ext.refl Non w).alloc (.cells #[.int .i64 op, .string key, .string val, .slice A m c] 24))))
  clear h
  go_enter Try.func15, Try.ntmps15
  go_wp2_with fail
  refine HD.out.mono ?_
  rintro e w5 ⟨rfl, rfl⟩
  go_wp2_with fail
  go_ret2
  exact ⟨rfl, (Ext.refl _ _).alloc _⟩
theorem find_no (h : DeadAt w p) (id : Int) : Calls Try.prog 53 #[.pointer p, .int .i64 id] w fun e w' => e = .returned (.tuple #[.int .i64 0, .int .i64 6]) ∧ Ext Non w w' := find_dead (M := Non) (fun _ he => dead_at (h.ext0 he)) id
theorem Drop_dead (h : DeadAt w p) (id : Int) : Calls Try.prog 23 #[.pointer p, .int .i64 id] w fun e w' => e = .returned (.int .i64 6) ∧ Ext Non w w' := by
  have HD := Lib.hid (find_no (h.ext0 ((Ext.refl Non w).alloc (.cells #[.int .i64 id] 3))) id)
  clear h
  go_enter Try.func23, Try.ntmps23
  go_wp2_with fail
  refine HD.out.mono ?_
  rintro e w5 ⟨rfl, he⟩
  have HE := Lib.hid he
  clear he
  go_wp2_with fail
  go_ret
  exact ⟨rfl, ((Ext.refl _ _).alloc _).trans0 HE.out⟩
theorem Ack_dead (h : DeadAt w p) (id pos : Int) : Calls Try.prog 25 #[.pointer p, .int .i64 id, .int .i64 pos] w fun e w' => e = .returned (.int .i64 6) ∧ Ext Non w w' := by
  have HD := Lib.hid (find_no h id)
  clear h
  go_enter Try.func25, Try.ntmps25
  go_wp2_with fail
  refine HD.out.mono ?_
  rintro e w5 ⟨rfl, he⟩
  have HE := Lib.hid he
  clear he
  go_wp2_with fail
  go_ret
  exact ⟨rfl, HE.out⟩
theorem Read_dead (h : DeadAt w p) (id pos most : Int) : Calls Try.prog 18 #[.pointer p, .int .i64 id, .int .i64 pos, .int .i64 most] w fun e w' => e = .returned (.tuple #[.slice none 0 0, .int .i64 0, .int .i64 6]) ∧ Ext Non w w' := by
  have HD := Lib.hid (find_no h id)
  clear h
  go_enter Try.func18, Try.ntmps18
  go_wp2_with fail
  refine HD.out.mono ?_
  rintro e w5 ⟨rfl, he⟩
  have HE := Lib.hid he
  clear he
  go_wp2_with fail
  go_ret3
  exact ⟨rfl, HE.out⟩
theorem Put_dead (h : DeadAt w p) {A : Option Addr} {m c : Nat} : Calls Try.prog 42 #[.pointer p, .slice A m c] w fun e w' => e = .returned (.slice A m c) ∧ Ext Non w w' := by
  have HD := Lib.hid (dead_at h)
  clear h
  go_enter Try.func42, Try.ntmps42
  go_wp2_with fail
  refine HD.out.mono ?_
  rintro e w5 ⟨rfl, rfl⟩
  go_wp2_with fail
  go_ret
  exact ⟨rfl, Ext.refl _ _⟩
end
end Go.Proofs.Ytdjfijdnhfmeeaa

namespace Go.Proofs.Ytdjfijdnhfmeeaa
open Go.RowKit Go.TM
theorem width_le (s : ByteArray) (pos : Nat) : (Utf8.decode s pos).2 ≤ 4 := by
  unfold Utf8.decode
  simp only
  split
  · simp
  · split
    · split <;> simp
    · split
      · split <;> simp
      · split
        · split <;> simp
        · simp
theorem runes_size (s : ByteArray) : ∀ (b pos : Nat), s.size ≤ pos + b → s.size ≤ pos + 4 * (runesFrom s b pos).length
  | 0, pos, h => by omega
  | b + 1, pos, h => by
    by_cases hp : pos < s.size
    · have e : runesFrom s (b + 1) pos = ((Utf8.decode s pos).1 : Int) :: runesFrom s b (pos + (Utf8.decode s pos).2) := if_pos hp
      have h1 := width_le s pos
      have h2 := width_pos s pos hp
      have h3 := runes_size s b (pos + (Utf8.decode s pos).2) (by omega)
      rw [e, List.length_cons]
      omega
    · omega
theorem keyE_size {s : ByteArray} (h : keyE s = 0) : s.size ≤ 96 := by
  unfold keyE at h
  have h1 : allOf isPlain 1 24 (runes s) = true := by
    by_cases h2 : allOf isPlain 1 24 (runes s) = true
    · exact h2
    · rw [if_neg h2] at h
      cases h
  have h2 := runes_size s s.size 0 (by omega)
  simp only [allOf, Bool.and_eq_true, decide_eq_true_eq] at h1
  have h3 : ((runes s).length : Int) ≤ 24 := h1.1.2
  have h4 : (runes s).length = (runesFrom s s.size 0).length := rfl
  omega
theorem valE_size {s : ByteArray} (h : valE s = 0) : s.size ≤ 192 := by
  unfold valE at h
  have h1 : allOf isPlain 0 48 (runes s) = true := by
    by_cases h2 : allOf isPlain 0 48 (runes s) = true
    · exact h2
    · rw [if_neg h2] at h
      cases h
  have h2 := runes_size s s.size 0 (by omega)
  simp only [allOf, Bool.and_eq_true, decide_eq_true_eq] at h1
  have h3 : ((runes s).length : Int) ≤ 48 := h1.1.2
  have h4 : (runes s).length = (runesFrom s s.size 0).length := rfl
  omega
theorem nameE_size {s : ByteArray} (h : nameE s = 0) : s.size ≤ 32 := by
  unfold nameE at h
  have h1 : allOf isLetter 1 8 (runes s) = true := by
    by_cases h2 : allOf isLetter 1 8 (runes s) = true
    · exact h2
    · rw [if_neg h2] at h
      cases h
  have h2 := runes_size s s.size 0 (by omega)
  simp only [allOf, Bool.and_eq_true, decide_eq_true_eq] at h1
  have h3 : ((runes s).length : Int) ≤ 8 := h1.1.2
  have h4 : (runes s).length = (runesFrom s s.size 0).length := rfl
  omega
theorem bare_size {key val : ByteArray} (h : bare key val = true) : key.size = 0 ∧ val.size = 0 := by
  unfold bare at h
  simp only [Bool.and_eq_true, decide_eq_true_eq] at h
  have h1 := congrArg List.length h.1
  have h2 := congrArg List.length h.2
  have e1 : key.toList.length = key.size := by rw [← size_list]; congr 1; exact ByteArray.toList_eq key
  exact ⟨by simpa [e1] using h1, by
    have e2 : val.toList.length = val.size := by rw [← size_list]; congr 1; exact ByteArray.toList_eq val
    simpa [e2] using h2⟩
theorem may_small {f : Flt} (h : mayF f = true) : 0 ≤ f.op ∧ f.op ≤ 6 ∧ f.key.size ≤ 32 ∧ f.val.size ≤ 192 := by
  unfold mayF mayW at h
  by_cases h0 : f.op = 0
  · rw [if_pos h0, Bool.and_eq_true] at h
    have := bare_size h.1
    omega
  rw [if_neg h0] at h
  by_cases h1 : f.op = 1
  · rw [if_pos h1] at h
    simp only [Bool.and_eq_true, decide_eq_true_eq] at h
    have e1 := keyE_size h.2
    have e2 := congrArg List.length h.1.2
    have e3 : f.key.toList.length = f.key.size := by rw [← size_list]; congr 1; exact ByteArray.toList_eq f.key
    simp at e2
    simp [e2] at e3
    omega
  rw [if_neg h1] at h
  by_cases h2 : f.op = 2
  · rw [if_pos h2] at h
    simp only [Bool.and_eq_true, decide_eq_true_eq] at h
    have e1 := nameE_size h.1.2
    have e2 := valE_size h.2
    omega
  rw [if_neg h2] at h
  by_cases h3 : f.op = 3
  · rw [if_pos h3, Bool.and_eq_true] at h
    have := bare_size h.1
    omega
  rw [if_neg h3] at h
  by_cases h4 : f.op = 4
  · rw [if_pos h4, Bool.and_eq_true] at h
    have := bare_size h.1
    omega
  rw [if_neg h4] at h
  by_cases h5 : f.op = 5
  · rw [if_pos h5] at h
    have := bare_size h
    omega
  rw [if_neg h5] at h
  by_cases h6 : f.op = 6
  · rw [if_pos h6] at h
    have := bare_size h
    omega
  rw [if_neg h6] at h
  cases h
theorem foldE_all {F : Flt → Int → Int × Int} : ∀ (l : List Flt) (c : Int), (foldE F l c).1 = 0 → ∀ k ∈ l, ∃ c', (F k c').1 = 0
  | [], _, _, k, hk => by cases hk
  | y :: ys, c, hb, k, hk => by
    by_cases hy : (F y c).1 = 0
    · rcases List.mem_cons.1 hk with rfl | hk
      · exact ⟨c, hy⟩
      · have hf : foldE F (y :: ys) c = foldE F ys (F y c).2 := foldE_yes (by rw [← hy])
        rw [hf] at hb
        exact foldE_all ys _ hb k hk
    · rw [foldE_no hy] at hb
      exact absurd hb hy
theorem chk_okL : ∀ (n : Nat) (f : Flt) (d c : Int), (chk n f d c).1 = 0 → okF n f → okK n f → okL n f
  | 0, _, _, _, _, h, _ => h.elim
  | n + 1, f, d, c, h, hf, hk => by
    by_cases c1 : 6 < d ∨ 24 ≤ c
    · rw [chk_deep c1] at h
      cases h
    · cases c2 : mayF f with
      | false =>
        rw [chk_bad c1 c2] at h
        cases h
      | true =>
        rw [chk_go c1 c2] at h
        obtain ⟨_, _, h3, h4⟩ := may_small c2
        refine ⟨hf.1, by omega, by omega, by have := hk.1; omega, fun k hm => ?_⟩
        obtain ⟨c', hc'⟩ := foldE_all _ _ h k hm
        exact chk_okL n k _ _ hc' (hf.2.2.2.2 k hm) (hk.2 k hm)
theorem Good.okL {n : Nat} {D : Fdr} (h : Good n D) : ∀ s ∈ D.subs, okL (n + 1) s.q := fun s hs => chk_okL _ _ _ _ (h.q s hs).2.2 (h.q s hs).1 (h.q s hs).2.1
set_option maxRecDepth 100000 in
set_option maxHeartbeats 16000000 in
theorem SameSubs_calls {w : World} {n : Nat} {okA okB : Nat → Prop} {A B : Option Addr} {m m2 ca cb : Nat} {l : List Sb} (ha : Rd (sbK n) w okA (.slice A m ca) l) (hb : Rd (sbK n) w okB (.slice B m2 cb) l) (hq : ∀ s ∈ l, okL (n + 1) s.q) :
    Calls Try.prog 33 #[.slice A m ca, .slice B m2 cb] w fun e w' => e = .returned (.bool true) ∧ Ext Non w w' := by
  obtain ⟨_, _, hs, _, hm⟩ := ha.slice
  simp only [Value.slice.injEq] at hs
  obtain ⟨-, hma, -⟩ := hs
  obtain ⟨_, _, hs, _, _⟩ := hb.slice
  simp only [Value.slice.injEq] at hs
  obtain ⟨-, hmb, -⟩ := hs
  obtain rfl : m2 = m := hmb.trans hma.symm
  have hmx : (m2 : Int) ≤ 9223372036854775807 := by omega
  have HA := Lib.hid ha
  have HB := Lib.hid hb
  have HM := Lib.hid hma
  have HQ := Lib.hid hq
  clear ha hb hma hmb hm hq
  go_enter Try.func33, Try.ntmps33
  go_wp2_with fail
  go_loopw [13] (fun i wr => ∃ j : Nat, i = .int .i64 (j : Int) ∧ j ≤ m2 ∧ Hid (Ext Non w wr)) (fun i _ => m2 - (intOf i).toNat)
  case atStart => exact ⟨0, rfl, by omega, Ext.refl _ _⟩
  case round =>
    obtain ⟨j, rfl, hj, HE⟩ := hrel
    by_cases hlt : j < m2
    · obtain ⟨x, hx⟩ : ∃ x, l[j]? = some x := ⟨_, List.getElem?_eq_getElem (by have := HM.out; omega)⟩
      obtain ⟨ga, offa, B1, l1, d1, rfl, hga, hgla, a0, a1, a2, a3, a4, a5, a6, a7, ar⟩ := sb_at (HA.out.ext0 HE.out) hx
      obtain ⟨gb, offb, B2, l2, d2, rfl, hgb, hglb, b0, b1, b2, b3, b4, b5, b6, b7, br⟩ := sb_at (HB.out.ext0 HE.out) hx
      have HOK := Lib.hid (HQ.out x (List.mem_of_getElem? hx))
      have RA := Lib.hid ar
      have RB := Lib.hid br
      clear ar br hx hga hgb
      go_wp2_with fail
      go_region_held3 (fun W => W.cell? ⟨ga, offa + j * 8, none⟩ = some (.int .i64 x.id) ∧ W.cell? ⟨ga, offa + j * 8 + 1, none⟩ = some (.int .i64 x.fr) ∧ W.cell? ⟨ga, offa + j * 8 + 2, none⟩ = some (.int .i64 x.at_) ∧ W.cell? ⟨ga, offa + j * 8 + 3, none⟩ = some (.int .i64 x.q.op) ∧ W.cell? ⟨ga, offa + j * 8 + 4, none⟩ = some (.string x.q.key) ∧ W.cell? ⟨ga, offa + j * 8 + 5, none⟩ = some (.string x.q.val) ∧ W.cell? ⟨ga, offa + j * 8 + 6, none⟩ = some (.slice B1 l1 d1) ∧ W.cell? ⟨ga, offa + j * 8 + 7, none⟩ = some (.bool x.gone) ∧ W.cell? ⟨gb, offb + j * 8, none⟩ = some (.int .i64 x.id) ∧ W.cell? ⟨gb, offb + j * 8 + 1, none⟩ = some (.int .i64 x.fr) ∧ W.cell? ⟨gb, offb + j * 8 + 2, none⟩ = some (.int .i64 x.at_) ∧ W.cell? ⟨gb, offb + j * 8 + 3, none⟩ = some (.int .i64 x.q.op) ∧ W.cell? ⟨gb, offb + j * 8 + 4, none⟩ = some (.string x.q.key) ∧ W.cell? ⟨gb, offb + j * 8 + 5, none⟩ = some (.string x.q.val) ∧ W.cell? ⟨gb, offb + j * 8 + 6, none⟩ = some (.slice B2 l2 d2) ∧ W.cell? ⟨gb, offb + j * 8 + 7, none⟩ = some (.bool x.gone)) (first | assumption | exact ⟨a0, a1, a2, a3, a4, a5, a6, a7, b0, b1, b2, b3, b4, b5, b6, b7⟩) (first
        | (go_at_call 61
           refine (Same_calls (n := n) (m := n) (f := x.q) ⟨_, rfl, RA.out.ext0 (Ext.refl Non wr).drew⟩ ⟨_, rfl, RB.out.ext0 (Ext.refl Non wr).drew⟩ HOK.out).mono ?_
           rintro e w3 ⟨rfl, he⟩
           have E3 : Hid (Ext Non wr w3) := (Ext.refl Non wr).drew.trans0 he
           have a0 := he.cell a0 (fun e => e)
           have a1 := he.cell a1 (fun e => e)
           have a2 := he.cell a2 (fun e => e)
           have a3 := he.cell a3 (fun e => e)
           have a4 := he.cell a4 (fun e => e)
           have a5 := he.cell a5 (fun e => e)
           have a6 := he.cell a6 (fun e => e)
           have a7 := he.cell a7 (fun e => e)
           have b0 := he.cell b0 (fun e => e)
           have b1 := he.cell b1 (fun e => e)
           have b2 := he.cell b2 (fun e => e)
           have b3 := he.cell b3 (fun e => e)
           have b4 := he.cell b4 (fun e => e)
           have b5 := he.cell b5 (fun e => e)
           have b6 := he.cell b6 (fun e => e)
           have b7 := he.cell b7 (fun e => e)
           clear he)
        | fail)
      go_wp2_with fail
      go_roundw
      case rel => exact ⟨j + 1, by go_num, by omega, HE.out.trans0 E3.out⟩
      case measure => simp [intOf]; omega
    · obtain rfl : j = m2 := by omega
      go_wp2_with fail
      go_ret
      exact ⟨rfl, HE.out⟩
set_option maxRecDepth 100000 in
set_option maxHeartbeats 4000000 in
theorem same_calls {w : World} {n ga gb : Nat} {okA okB : Nat → Prop} {D : Fdr} (ha : Fd n okA w ga D) (hb : Fd n okB w gb D) (hg : Good n D) (hfa : Fresh okA w) (hfb : Fresh okB w) :
    Calls Try.prog 41 #[.pointer (some ⟨ga, 0, none⟩), .pointer (some ⟨gb, 0, none⟩)] w fun e w' => e = .returned (.bool true) ∧ Ext Non w w' := by
  have HA := Lib.hid ha
  have HB := Lib.hid hb
  have HG := Lib.hid hg
  have FA := Lib.hid hfa
  have FB := Lib.hid hfb
  have HN0 : Hid (D.next ≠ 0) := by show _ ≠ _; have := hg.next; omega
  have HEV : Hid (D.evs.length ≤ 1048576000) := by have := hg.evs; show _ ≤ _; omega
  have HSB : Hid (D.subs.length ≤ 1000) := by have := hg.subs; show _ ≤ _; omega
  obtain ⟨sa, ta, ba⟩ := ha.blk
  obtain ⟨sb, tb, bb⟩ := hb.blk
  have BA := Lib.hid ba
  have BB := Lib.hid bb
  clear ha hb hg hfa hfb ba bb
  go_enter Try.func41, Try.ntmps41
  go_wp2_with fail
  refine (Top_live BA.out HN0.out).mono ?_
  rintro e w1 ⟨rfl, rfl⟩
  go_wp2_with fail
  refine (Top_live BB.out HN0.out).mono ?_
  rintro e w1 ⟨rfl, rfl⟩
  go_wp2_with fail
  refine (Kept_calls HA.out HN0.out HEV.out FA.out).mono ?_
  rintro e w1 ⟨B1, m1, d1, rfl, ho1, he1⟩
  have O1 := Lib.hid ho1
  have E1 := Lib.hid he1
  clear ho1 he1
  go_wp2_with fail
  refine (Kept_calls (HB.out.ext0 E1.out) HN0.out HEV.out (FB.out.ext E1.out)).mono ?_
  rintro e w2 ⟨B2, m2, d2, rfl, ho2, he2⟩
  have O2 := Lib.hid ho2
  have X2 := Lib.hid he2
  have E2 : Hid (Ext Non w w2) := E1.out.trans0 he2
  clear ho2 he2
  go_wp2_with fail
  refine (EqualE_calls (O1.out.rd.ext0 X2.out) O2.out.rd).mono ?_
  rintro e w3 ⟨rfl, he3⟩
  have E3 : Hid (Ext Non w w3) := E2.out.trans0 he3
  clear he3
  go_wp2_with fail
  refine (List_calls (HA.out.ext0 E3.out) HN0.out HSB.out (fun s hs => (HG.out.q s hs).2.1)).mono ?_
  rintro e w4 ⟨B4, m4, d4, rfl, ho4, he4⟩
  have O4 := Lib.hid ho4
  have E4 : Hid (Ext Non w w4) := E3.out.trans0 he4
  clear ho4 he4
  go_wp2_with fail
  refine (List_calls (HB.out.ext0 E4.out) HN0.out HSB.out (fun s hs => (HG.out.q s hs).2.1)).mono ?_
  rintro e w5 ⟨B5, m5, d5, rfl, ho5, he5⟩
  have O5 := Lib.hid ho5
  have X5 := Lib.hid he5
  have E5 : Hid (Ext Non w w5) := E4.out.trans0 he5
  clear ho5 he5
  go_wp2_with fail
  refine (SameSubs_calls (O4.out.ext0 X5.out) O5.out HG.out.okL).mono ?_
  rintro e w6 ⟨rfl, he6⟩
  have E6 : Hid (Ext Non w w6) := E5.out.trans0 he6
  clear he6
  go_wp2_with fail
  go_ret
  exact ⟨rfl, E6.out⟩
end Go.Proofs.Ytdjfijdnhfmeeaa

namespace Go.Proofs.Ytdjfijdnhfmeeaa
open Go.RowKit Go.TM Go.ChangeShapes Go.WideShapes Go.ChangeAt Go.Deep
section
variable {H : Type} {enc : TypeId × Value → H} {w : World} {base b0 : Nat} {spare : Nat → Bool} {held : Bool} {r : Reach}
set_option maxRecDepth 100000 in
theorem dos_len {A : Option Addr} {n c : Nat} {d : DataW H} {p : List MemPlace} (h : DataW.Trod enc Try.prog w base spare held 25 (.slice A n c) d p) (hw : ∀ n ∈ d.weights Try.prog 25, n ≤ reachBytes) : n * 128 ≤ reachBytes := by
  obtain ⟨fuel, hf⟩ := h
  rcases DataW.trod_slice Try.underlying25 hf with ⟨hcs, hx⟩ | ⟨a, len, cap, elems, rest, n', hfu, hcs, hx, hb, hl, hm, hlen, hel, _, _⟩
  · have h1 : [Value.slice A n c] = [.slice none 0 0] := hcs
    simp only [List.cons.injEq, Value.slice.injEq, and_true] at h1
    omega
  · have h1 : [Value.slice A n c] = [.slice (some a) len cap] := hcs
    simp only [List.cons.injEq, Value.slice.injEq, and_true] at h1
    obtain ⟨_, rfl, _⟩ := h1
    simp only [Prod.mk.injEq] at hx
    have hd : d = .slice (elems.map (·.1)) (rest.map (·.1)) := hx.1
    have hbytes : Try.prog.bytesOf 36 = 128 := by kernel_rfl
    have := hw (((elems.map (·.1)).length + (rest.map (·.1)).length) * Try.prog.bytesOf 36) (by rw [hd]; simp [DataW.weights, Try.underlying25])
    rw [hbytes, List.length_map, List.length_map, hlen] at this
    omega
set_option maxRecDepth 100000 in
theorem open_dosL {v : Value} {d : DataW H} {p : List MemPlace} (hv : Value.okWide Try.prog w r b0 25 v) (h : DataW.Trod enc Try.prog w base spare held 25 v d p) (hw : ∀ n ∈ d.weights Try.prog 25, n ≤ reachBytes) :
    ∃ n A c, ∃ l : List Dc, v = .slice A l.length c ∧ Rd (doK n) w (fun k => k < w.heap.size) (.slice A l.length c) l ∧ (∀ x ∈ l, DcV n x) ∧ l.length * 128 ≤ reachBytes := by
  obtain ⟨n, A, c, l, rfl, h1, h2⟩ := open_dos hv h
  exact ⟨n, A, c, l, rfl, h1, h2, dos_len h hw⟩
end
set_option maxRecDepth 100000 in
theorem info36 (n : Nat) : (Try.prog.info? 36).map (fun i => (i.zero, i.size, i.bytes)) = some (some (.agg #[.int .i64 0, .int .i64 0, .int .i64 0, .int .i64 0, .int .i64 0, .slice none 0 0, .int .i64 0, .string ⟨#[]⟩, .string ⟨#[]⟩, .slice none 0 0]), (doK n).sz, 128) := by kernel_rfl
end Go.Proofs.Ytdjfijdnhfmeeaa

