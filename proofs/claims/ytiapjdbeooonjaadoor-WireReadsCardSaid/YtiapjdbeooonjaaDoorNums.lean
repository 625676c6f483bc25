/- WireNumbers: the walk of the law. -/
import Derived.Test.YtiapjdbeooonjaaDoorF0
namespace Go.Proofs.YtiapjdbeooonjaaDoor
open Go.RowKit Go.TM

theorem Numbers_at {w : World} {ok : Nat → Prop} {A B : Option Addr} {n m c d : Nat} {bs : List UInt8} {ns : List Int} (H : Rd Kd.u8 w ok (.slice A n c) bs) (HN : Rd Kd.i64 w ok (.slice B m d) ns)
    (hn : ∀ n ∈ ns, -9223372036854775808 ≤ n ∧ n ≤ 9223372036854775807) (hbl : bs.length + 9 * ns.length ≤ 1099511627776) (hf : ∀ k, w.heap.size ≤ k → ok k) :
    Calls Tryd.prog 30 #[.slice A n c, .slice B m d] w (RdPost ok (bs ++ ns.flatMap numI) w) := by
  obtain ⟨A', c', he, _, _⟩ := H.slice
  simp only [Value.slice.injEq] at he
  obtain ⟨rfl, rfl, rfl⟩ := he
  obtain ⟨A', c', he, _, _⟩ := HN.slice
  simp only [Value.slice.injEq] at he
  obtain ⟨rfl, rfl, rfl⟩ := he
  exact Numbers_calls H HN hn hbl hf
theorem Number_at {w : World} {ok : Nat → Prop} {A : Option Addr} {m c : Nat} {bs : List UInt8} (H : Rd Kd.u8 w ok (.slice A m c) bs) (n : Int) (h0 : -9223372036854775808 ≤ n) (h1 : n ≤ 9223372036854775807) (hbl : bs.length ≤ 1099511627776) (hf : ∀ k, w.heap.size ≤ k → ok k) :
    Calls Tryd.prog 24 #[.slice A m c, .int .i64 n] w (NumPost ok (bs ++ numB n.toNat) w) := by
  obtain ⟨A', c', he, _, _⟩ := H.slice
  simp only [Value.slice.injEq] at he
  obtain ⟨rfl, rfl, rfl⟩ := he
  exact Number_calls H n h0 h1 hbl hf

/-- The bytes from j on are turned round; those ahead are done. -/
theorem xor255 (x : UInt8) : bits .xor .u8 (x.toNat : Int) 255 = ((x ^^^ 255).toNat : Int) := by
  have hx := x.toNat_lt
  have e1 : (BitVec.ofInt 8 (x.toNat : Int)).toNat = x.toNat := by
    rw [BitVec.ofInt_natCast, BitVec.toNat_ofNat]; exact Nat.mod_eq_of_lt (by omega)
  have hlt : x.toNat ^^^ 255 < 2 ^ 8 := Nat.xor_lt_two_pow (by omega) (by omega)
  show IntKind.u8.wrap ((BitVec.ofInt 8 (x.toNat : Int) ^^^ BitVec.ofInt 8 255).toNat : Int) = _
  rw [BitVec.toNat_xor, e1, show (BitVec.ofInt 8 255).toNat = 255 from rfl, IntKind.wrap_u8, UInt8.toNat_xor, show (255 : UInt8).toNat = 255 from rfl]
  omega

set_option maxHeartbeats 2000000 in
set_option maxRecDepth 20000 in
theorem nums_calls {w : World} {ok ok2 : Nat → Prop} {A B : Option Addr} {c d : Nat} {bs : List UInt8} {ns : List Int} (H : Rd Kd.u8 w ok (.slice A bs.length c) bs) (HN : Rd Kd.i64 w ok2 (.slice B ns.length d) ns) (hns : ∀ n ∈ ns, -9223372036854775808 ≤ n ∧ n ≤ 9223372036854775807) (HL : Laid w) :
    Calls Tryd.prog 8 #[.slice A bs.length c, .slice B ns.length d] w fun e w' => e = .returned (.bool true) ∧ Ext Non w w' := by
  have HH := Lib.hid (Rd.any H)
  have HNN := Lib.hid (HN.mono (ok' := fun _ => True) (fun _ _ => trivial))
  have HNS := Lib.hid hns
  have HT := Lib.hid HL
  clear H HN HL hns
  by_cases h0 : 65536 < bs.length
  · have q : (65536 : Int) < (bs.length : Int) := by omega
    go_enter Tryd.func8, Tryd.ntmps8
    go_wp2_with fail
    refine (awake_calls HT.out).mono ?_
    rintro e w1 ⟨rfl, he⟩
    have HE := Lib.hid he
    clear he
    go_wp2_with fail
    go_ret
    exact ⟨rfl, HE.out⟩
  · by_cases h1 : 1000 < ns.length
    · have q : ¬ (65536 : Int) < (bs.length : Int) := by omega
      have q1 : (1000 : Int) < (ns.length : Int) := by omega
      go_enter Tryd.func8, Tryd.ntmps8
      go_wp2_with fail
      refine (awake_calls HT.out).mono ?_
      rintro e w1 ⟨rfl, he⟩
      have HE := Lib.hid he
      clear he
      go_wp2_with fail
      go_ret
      exact ⟨rfl, HE.out⟩
    · have q : ¬ (65536 : Int) < (bs.length : Int) := by omega
      have q1 : ¬ (1000 : Int) < (ns.length : Int) := by omega
      have hbl : bs.length ≤ 65536 := by omega
      have hnl : ns.length ≤ 1000 := by omega
      clear h0 h1
      go_enter Tryd.func8, Tryd.ntmps8
      go_wp2_with fail
      refine (Clone_calls HH.out (by omega) (fun _ _ => trivial)).mono ?_
      rintro e w1 ⟨v1, rfl, ho, he⟩
      obtain ⟨A1, N1, c1, rfl, hn1⟩ := (Own.abs8 ho)
      have O1 := Lib.hid ho.rd
      have E1 := Lib.hid he
      clear ho he hn1
      go_wp2_with fail
      go_loopw [5, 26] (fun v i wr => ∃ (j : Nat) (A2 : Option Addr) (n2 c2 : Nat), j ≤ ns.length ∧ i = .int .i64 (j : Int) ∧ v = .slice A2 n2 c2 ∧ Hid (Rd Kd.u8 wr (fun _ => True) (.slice A2 n2 c2) (bs ++ (ns.take j).flatMap numI)) ∧ Hid (Ext Non w wr)) (fun _ i _ => ns.length - (intOf i).toNat)
      case atStart => exact ⟨0, A1, N1, c1, by omega, rfl, rfl, by simpa [Hid] using O1.out, E1.out⟩
      case round =>
        obtain ⟨j, A2, n2, c2, hj, rfl, rfl, HR, HE⟩ := hrel
        by_cases hlt : j < ns.length
        · obtain ⟨x, hx⟩ : ∃ x, ns[j]? = some x := ⟨_, List.getElem?_eq_getElem hlt⟩
          obtain ⟨gl, off, rfl, _, hgl, hc⟩ := (HNN.out.ext0 HE.out).flat_at hx
          have d0 := hc 0 _ rfl
          simp only [Nat.add_zero, Nat.mul_one] at d0
          obtain ⟨b0, b1⟩ := HNS.out x (List.mem_of_getElem? hx)
          have HX := Lib.hid hx
          have q0 : (j : Int) < (ns.length : Int) := by omega
          have q2 : (0 : Int) ≤ (j : Int) := by omega
          have hlen : (bs ++ (ns.take j).flatMap numI).length ≤ 1099511627776 := by
            have := nums_le (ns.take j) (fun x hx => (HNS.out x (List.mem_of_mem_take hx)).2)
            rw [List.length_append]
            rw [List.length_take] at this
            omega
          have HLEN := Lib.hid hlen
          clear hc hx hlen
          go_wp2_with fail
          refine (NumberR_calls HR.out x b0 b1 HLEN.out (fun _ _ => trivial)).mono ?_
          rintro e w2 ⟨v', rfl, h3, h4⟩
          have ht : (bs ++ (ns.take j).flatMap numI) ++ numB x.toNat = bs ++ (ns.take (j + 1)).flatMap numI := by
            rw [List.take_add_one, HX.out]
            simp [numI]
          rw [ht] at h3
          obtain ⟨A3, n3, c3, rfl, hn3⟩ := (Own.abs8 h3)
          have R3 := Lib.hid h3.rd
          have E3 := Lib.hid (HE.out.trans0 h4)
          clear h3 h4 ht hn3
          go_wp2_with fail
          go_roundw
          case rel => exact ⟨j + 1, A3, n3, c3, by omega, by simp, rfl, R3.out, E3.out⟩
          case measure => simp [intOf]; omega
        · obtain rfl : j = ns.length := by omega
          rw [List.take_length] at HR
          go_wp2_with fail
          refine (Clone_calls (HH.out.ext0 HE.out) (by omega) (fun _ _ => trivial)).mono ?_
          rintro e w4 ⟨v4, rfl, ho, he⟩
          obtain ⟨A4, N4, c4, rfl, hn4⟩ := (Own.abs8 ho)
          have O4 := Lib.hid ho.rd
          have HR4 := Lib.hid (HR.out.ext0 he)
          have E4 := Lib.hid (HE.out.trans0 he)
          clear ho he hn4
          go_wp2_with fail
          refine (Numbers_at O4.out (HNN.out.ext0 E4.out) HNS.out (by omega) (fun _ _ => trivial)).mono ?_
          rintro e w5 ⟨v5, rfl, ho, he⟩
          obtain ⟨A5, N5, c5, rfl, hn5⟩ := (Rd.abs8 ho)
          have O5 := Lib.hid ho
          have O4' := Lib.hid (O4.out.ext0 he)
          have HR5 := Lib.hid (HR4.out.ext0 he)
          have E5 := Lib.hid (E4.out.trans0 he)
          clear ho he hn5
          go_wp2_with fail
          refine (Equal_calls O5.out HR5.out).mono ?_
          rintro e w6 ⟨rfl, rfl⟩
          rw [beq_self_eq_true]
          by_cases hp : 0 < ns.length
          · obtain ⟨x, hx⟩ : ∃ x, ns[0]? = some x := ⟨_, List.getElem?_eq_getElem hp⟩
            obtain ⟨gl, off, rfl, _, hgl, hc⟩ := (HNN.out.ext0 E5.out).flat_at hx
            have d0 := hc 0 _ rfl
            simp only [Nat.add_zero, Nat.zero_mul] at d0
            obtain ⟨b0, b1⟩ := HNS.out x (List.mem_of_getElem? hx)
            have q0 : (0 : Int) < (ns.length : Int) := by omega
            have D0 := Lib.hid d0
            clear hc hx
            go_wp2_with fail
            refine (Number_at O4'.out x b0 b1 (by omega) (fun _ _ => trivial)).mono ?_
            rintro e w6 ⟨v6, rfl, ho, he⟩
            obtain ⟨A6, N6, c6, rfl, hn6⟩ := (Own.abs8 ho)
            have d0 := he.cell D0.out (fun e => e)
            have O6 := Lib.hid ho
            have O4'' := Lib.hid (O4'.out.ext0 he)
            have E6 := Lib.hid (E5.out.trans0 he)
            have F6 := Lib.hid he
            have HN6 := Lib.hid hn6
            clear ho he hn6
            go_wp2_with fail
            refine (NumberR_calls (HH.out.ext0 E6.out) x b0 b1 (by omega) (fun _ _ => trivial)).mono ?_
            rintro e w7 ⟨v7, rfl, ho, he⟩
            obtain ⟨A7, N7, c7, rfl, hn7⟩ := (Own.abs8 ho)
            have O7 := Lib.hid ho.rd
            have O6' := Lib.hid (O6.out.ext0 he)
            have O4a := Lib.hid (O4''.out.ext0 he)
            have E7 := Lib.hid (E6.out.trans0 he)
            have F7 := Lib.hid (F6.out.trans0 he)
            clear ho he hn7
            go_wp2_with fail
            refine (Equal_calls O6'.out.rd O7.out).mono ?_
            rintro e w8 ⟨rfl, rfl⟩
            rw [beq_self_eq_true]
            go_wp2_with fail
            have hN6 : N6 ≤ 70000 := by
              have h1 := HN6.out
              have h2 := numB_le (m := x.toNat) (by omega)
              rw [List.length_append] at h1
              omega
            go_loopw [62] (fun i wr => ∃ (j : Nat) (l : List UInt8), i = .int .i64 (j : Int) ∧ j ≤ N6 ∧ Hid (l.length = N6) ∧ Hid (Own Kd.u8 5 wr w5.heap.size (fun _ => True) (.slice A6 N6 c6) l) ∧ Hid (Ext Non w5 wr)) (fun i _ => N6 - (intOf i).toNat)
            case atStart => exact ⟨0, _, rfl, by omega, HN6.out.symm, O6'.out, F7.out⟩
            case round =>
              obtain ⟨j, l, rfl, hj, HLL, HO, HF⟩ := hrel
              by_cases hlt : j < N6
              · obtain ⟨y, hy⟩ : ∃ y, l[j]? = some y := ⟨_, List.getElem?_eq_getElem (by have := HLL.out; omega)⟩
                obtain ⟨g, rfl, hg0, hg1, d1, y1, O2⟩ := own_set8 HO.out hy (y ^^^ 255)
                have O2' := Lib.hid O2
                have hxr := xor255 y
                have HF2 : Hid (Ext Non w5 (wr.setCell ⟨g, j, none⟩ (.int .u8 ((y ^^^ 255).toNat : Int)))) := HF.out.setNew hg0 _
                have q3 : (j : Int) < (N6 : Int) := by omega
                have q4 : (0 : Int) ≤ (j : Int) := by omega
                have HG0 := Lib.hid hg0
                clear O2 hy hg0 hg1
                go_wp2_with fail
                go_roundw
                case rel => exact ⟨j + 1, l.set j (y ^^^ 255), by simp, by omega, by show _ = _; rw [List.length_set]; exact HLL.out, O2'.out, HF2.out⟩
                case measure => simp [intOf]; omega
              · obtain rfl : j = N6 := by omega
                have E9 : Hid (Ext Non w wr) := E5.out.trans0 HF.out
                go_wp2_with fail
                refine (Equal_calls (O4'.out.ext0 HF.out) (HH.out.ext0 E9.out)).mono ?_
                rintro e w9 ⟨rfl, rfl⟩
                rw [beq_self_eq_true]
                go_wp2_with fail
                refine (awake_calls (HT.out.ext E9.out)).mono ?_
                rintro e w10 ⟨rfl, he⟩
                have E10 : Hid (Ext Non w w10) := E9.out.trans0 he
                clear he
                go_wp2_with fail
                go_ret
                exact ⟨rfl, E10.out⟩
          · have q0 : ¬ (0 : Int) < (ns.length : Int) := by omega
            go_wp2_with fail
            refine (Equal_calls O4'.out (HH.out.ext0 E5.out)).mono ?_
            rintro e w6 ⟨rfl, rfl⟩
            rw [beq_self_eq_true]
            go_wp2_with fail
            refine (awake_calls (HT.out.ext E5.out)).mono ?_
            rintro e w6 ⟨rfl, he⟩
            have E6 : Hid (Ext Non w w6) := E5.out.trans0 he
            clear he
            go_wp2_with fail
            go_ret
            exact ⟨rfl, E6.out⟩
end Go.Proofs.YtiapjdbeooonjaaDoor
