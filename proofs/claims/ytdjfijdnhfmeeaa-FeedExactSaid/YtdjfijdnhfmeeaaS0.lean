/- A feed that no call made. -/
import Derived.Test.YtdjfijdnhfmeeaaS1
import Derived.Laws.IdiomStrings
import Derived.Laws.BytesArg
namespace Go.Proofs.Ytdjfijdnhfmeeaa
open Go.RowKit Go.TM
theorem conv_rd {w : World} {ok : Nat → Prop} {A : Option Addr} {n c : Nat} {bs : List UInt8} (h : Rd Kd.u8 w ok (.slice A n c) bs) : (convert 70 9 (.slice A n c)).run Try.prog w = .ok (.string ⟨bs.toArray⟩) w := by
  obtain ⟨A', c', he, hc, hm, hr⟩ := h
  simp only [Value.slice.injEq] at he
  obtain ⟨rfl, rfl, rfl⟩ := he
  cases bs with
  | nil =>
    cases A with
    | none => exact run_convert_bytes_nil w 70 5 Try.underlying70 Try.underlying5 _ _ 9 Try.underlying9
    | some a => exact run_convert_bytes_back w 70 9 5 a _ [] Try.underlying70 Try.underlying5 Try.underlying9 (fun j hj => by simp at hj)
  | cons b bs =>
    obtain ⟨g, off, rfl, hg, hlt, hx⟩ := hr (by simp)
    refine run_convert_bytes_back w 70 9 5 _ _ (b :: bs) Try.underlying70 Try.underlying5 Try.underlying9 (fun j hj => ?_)
    obtain ⟨cs, hk, hcs⟩ := hx j _ (List.getElem?_eq_getElem hj)
    have hk' : cs = [Value.int .u8 ((b :: bs)[j]).toNat] := hk
    subst hk'
    have := hcs 0 _ rfl
    have hadd : (⟨g, off, none⟩ : Addr).add j = ⟨g, off + j, none⟩ := by unfold Addr.add; split <;> simp_all
    rw [hadd]
    simpa [Kd.u8, Kd.flat] using this
def DeadAt (w : World) (p : Option Addr) : Prop := p = none ∨ ∃ g se ss tp, p = some ⟨g, 0, none⟩ ∧ FdB w g se ss 0 tp
theorem DeadAt.ext0 {w w' : World} {p : Option Addr} (h : DeadAt w p) (he : Ext Non w w') : DeadAt w' p := by
  rcases h with rfl | ⟨g, se, ss, tp, rfl, hb⟩
  · exact .inl rfl
  · exact .inr ⟨g, se, ss, tp, rfl, he.obj hb (fun e => e)⟩
section
variable {w : World} {p : Option Addr}
theorem dead_at (h : DeadAt w p) : Calls Try.prog 48 #[.pointer p] w fun e w' => e = .returned (.bool true) ∧ w = w' := by
  rcases h with rfl | ⟨g, se, ss, tp, rfl, hb⟩
  · exact dead_nil
  · exact dead_zero hb
theorem Top_dead (h : DeadAt w p) : Calls Try.prog 31 #[.pointer p] w fun e w' => e = .returned (.int .i64 0) ∧ Ext Non w w' := by
  have HD := Lib.hid (dead_at h)
  clear h
  go_enter Try.func31, Try.ntmps31
  go_wp2_with fail
  refine HD.out.mono ?_
  rintro e w5 ⟨rfl, rfl⟩
  go_wp2_with fail
  go_ret
  exact ⟨rfl, Ext.refl _ _⟩
theorem Kept_dead (h : DeadAt w p) : Calls Try.prog 32 #[.pointer p] w fun e w' => e = .returned (.slice none 0 0) ∧ Ext Non w w' := by
  have HD := Lib.hid (dead_at h)
  clear h
  go_enter Try.func32, Try.ntmps32
  go_wp2_with fail
  refine HD.out.mono ?_
  rintro e w5 ⟨rfl, rfl⟩
  go_wp2_with fail
  go_ret
  exact ⟨rfl, Ext.refl _ _⟩
theorem List_dead (h : DeadAt w p) : Calls Try.prog 34 #[.pointer p] w fun e w' => e = .returned (.slice none 0 0) ∧ Ext Non w w' := by
  have HD := Lib.hid (dead_at h)
  clear h
  go_enter Try.func34, Try.ntmps34
  go_wp2_with fail
  refine HD.out.mono ?_
  rintro e w5 ⟨rfl, rfl⟩
  go_wp2_with fail
  go_ret
  exact ⟨rfl, Ext.refl _ _⟩
theorem Note_dead (h : DeadAt w p) (pos : Int) {A : Option Addr} {m c : Nat} : Calls Try.prog 16 #[.pointer p, .int .i64 pos, .slice A m c] w fun e w' => e = .returned (.int .i64 6) ∧ Ext Non w w' := by
  have HD := Lib.hid (dead_at h)
  clear h
  go_enter Try.func16, Try.ntmps16
  go_wp2_with fail
  refine HD.out.mono ?_
  rintro e w5 ⟨rfl, rfl⟩
  go_wp2_with fail
  go_ret
  exact ⟨rfl, Ext.refl _ _⟩
theorem Add_dead (h : DeadAt w p) {op : Int} {key val : ByteArray} {A : Option Addr} {m c : Nat} : Calls Try.prog 15 #[.pointer p, .agg #[.int .i64 op, .string key, .string val, .slice A m c]] w fun e w' => e = .returned (.tuple #[.int .i64 0, .int .i64 6]) ∧ Ext Non w w' := by
  have HD := Lib.hid (dead_at (h.ext0 ((Ext.refl Non w).alloc (.cells #[.int .i64 op, .string key, .string val, .slice A m c] 24))))
  clear h
  go_enter Try.func15, Try.ntmps15
  go_wp2_with fail
  refine HD.out.mono ?_
  rintro e w5 ⟨rfl, rfl⟩
  go_wp2_with fail
  go_ret2
  exact ⟨rfl, (Ext.refl _ _).alloc _⟩
theorem find_no (h : DeadAt w p) (id : Int) : Calls Try.prog 53 #[.pointer p, .int .i64 id] w fun e w' => e = .returned (.tuple #[.int .i64 0, .int .i64 6]) ∧ Ext Non w w' := find_dead (M := Non) (fun _ he => dead_at (h.ext0 he)) id
theorem Drop_dead (h : DeadAt w p) (id : Int) : Calls Try.prog 23 #[.pointer p, .int .i64 id] w fun e w' => e = .returned (.int .i64 6) ∧ Ext Non w w' := by
  have HD := Lib.hid (find_no (h.ext0 ((Ext.refl Non w).alloc (.cells #[.int .i64 id] 3))) id)
  clear h
  go_enter Try.func23, Try.ntmps23
  go_wp2_with fail
  refine HD.out.mono ?_
  rintro e w5 ⟨rfl, he⟩
  have HE := Lib.hid he
  clear he
  go_wp2_with fail
  go_ret
  exact ⟨rfl, ((Ext.refl _ _).alloc _).trans0 HE.out⟩
theorem Ack_dead (h : DeadAt w p) (id pos : Int) : Calls Try.prog 25 #[.pointer p, .int .i64 id, .int .i64 pos] w fun e w' => e = .returned (.int .i64 6) ∧ Ext Non w w' := by
  have HD := Lib.hid (find_no h id)
  clear h
  go_enter Try.func25, Try.ntmps25
  go_wp2_with fail
  refine HD.out.mono ?_
  rintro e w5 ⟨rfl, he⟩
  have HE := Lib.hid he
  clear he
  go_wp2_with fail
  go_ret
  exact ⟨rfl, HE.out⟩
theorem Read_dead (h : DeadAt w p) (id pos most : Int) : Calls Try.prog 18 #[.pointer p, .int .i64 id, .int .i64 pos, .int .i64 most] w fun e w' => e = .returned (.tuple #[.slice none 0 0, .int .i64 0, .int .i64 6]) ∧ Ext Non w w' := by
  have HD := Lib.hid (find_no h id)
  clear h
  go_enter Try.func18, Try.ntmps18
  go_wp2_with fail
  refine HD.out.mono ?_
  rintro e w5 ⟨rfl, he⟩
  have HE := Lib.hid he
  clear he
  go_wp2_with fail
  go_ret3
  exact ⟨rfl, HE.out⟩
theorem Put_dead (h : DeadAt w p) {A : Option Addr} {m c : Nat} : Calls Try.prog 42 #[.pointer p, .slice A m c] w fun e w' => e = .returned (.slice A m c) ∧ Ext Non w w' := by
  have HD := Lib.hid (dead_at h)
  clear h
  go_enter Try.func42, Try.ntmps42
  go_wp2_with fail
  refine HD.out.mono ?_
  rintro e w5 ⟨rfl, rfl⟩
  go_wp2_with fail
  go_ret
  exact ⟨rfl, Ext.refl _ _⟩
end
end Go.Proofs.Ytdjfijdnhfmeeaa
