/- Appends that were not synced, and a crash. -/
import Derived.Test.YtpmncppfopbaaaaD3
import Derived.Test.YtpmncppfopbaaaaD2
namespace Go.Proofs.Ytpmncppfopbaaaa
open Go.RowKit Go.TM

def psz (ls : List (List UInt8)) : Nat := (ls.map (fun b => 1 + min b.length 32768)).sum
theorem psz_take {ls : List (List UInt8)} {j : Nat} {b : List UInt8} (hx : ls[j]? = some b) : psz (ls.take (j + 1)) = psz (ls.take j) + (1 + min b.length 32768) := by
  unfold psz
  rw [List.take_add_one, hx]
  simp
theorem psz_le : ∀ (ls : List (List UInt8)), psz ls ≤ 32768 → ls.length + ls.flatten.length ≤ 32768
  | [], _ => by simp
  | b :: ls, h => by
    have e : psz (b :: ls) = 1 + min b.length 32768 + psz ls := by simp [psz]
    have hb : b.length ≤ 32767 := by omega
    have key : ∀ (ls : List (List UInt8)) (m : Nat), psz ls + m ≤ 32768 → ls.length + ls.flatten.length ≤ psz ls := by
      intro ls
      induction ls with
      | nil => intro m _; simp
      | cons c ls ih =>
        intro m hm
        have e : psz (c :: ls) = 1 + min c.length 32768 + psz ls := by simp [psz]
        have := ih 0 (by omega)
        simp only [List.length_cons, List.flatten_cons, List.length_append]
        omega
    have := key (b :: ls) 0 (by omega)
    omega
def _root_.Go.TM.Dk.adds (d : Dk) (ls : List (List UInt8)) : Dk := ls.foldl (fun d p => d.acted ⟨2, p⟩) d
theorem adds_take {d : Dk} {ls : List (List UInt8)} {j : Nat} {b : List UInt8} (hx : ls[j]? = some b) : d.adds (ls.take (j + 1)) = (d.adds (ls.take j)).acted ⟨2, b⟩ := by
  unfold Dk.adds
  rw [List.take_add_one, hx]
  simp
theorem adds_flat : ∀ (ls : List (List UInt8)) (d : Dk), (d.adds ls).kept = d.kept ∧ (d.adds ls).wait = d.wait ++ ls.map (fun p => ⟨2, p⟩)
  | [], d => ⟨rfl, by simp [Dk.adds]⟩
  | b :: ls, d => by
    have h := adds_flat ls (d.acted ⟨2, b⟩)
    exact ⟨h.1, h.2.trans (by simp [Dk.acted])⟩
structure Step2 (B : Dk) : Prop where
  good : B.Good
  off : B.off = false
  left : B.left = 0
  room : B.room = 16777216
theorem begins_start {l : List TM.Call} (hl : Fine l) (hs : l.length ≤ 200 ∧ ∀ k ∈ l, k.b.length ≤ 32768) : ∃ D1 D2 D3 P, Goes ((Dk.new 16777216).run l).start 0 D1 ∧ Goes (D1.arm 0 0 0) 0 D2 ∧ Goes D2.sync 0 D3 ∧ D3.face = (P, true) ∧ (Step2 D3 ∧ D3.Upto 6553600) ∧ D3.kept = P ∧ D3.wait = [] := by
  have h0 := fine_good hl
  have w0 := made_wait 16777216 l hl.n
  have u0 := Dk.Upto.made hs.1 hs.2 16777216
  have r0 := made_room l
  generalize (Dk.new 16777216).run l = D0 at h0 w0 u0 r0
  have g2 := goes_arm0 (n := 0) (keep := 0) (tear := 0) h0.on (by show D0.wait.length ≤ _; omega) rfl (by omega) (by simp [inI]) (by simp [inI]) (by simp [inI])
  have g3 := goes_sync g2.2.2.1 rfl rfl
  exact ⟨_, _, _, _, goes_start h0 (by omega), g2, g3, face_on g3.2.2.1 rfl, ⟨⟨g3.2.2.1, rfl, rfl, r0⟩, (u0.on.armed 0 0 0).synced⟩, rfl, rfl⟩
theorem begins_step {B : Dk} (h : Step2 B) {K : Int} (hu : B.Upto K) (hw : B.wait.length ≤ 90000000) {p : List UInt8} (hr : K + p.length ≤ 16777216) : Goes (B.append p) 0 (B.acted ⟨2, p⟩) ∧ Step2 (B.acted ⟨2, p⟩) ∧ (B.acted ⟨2, p⟩).Upto (K + p.length) := by
  have g := goes_append (b := p) h.good hw h.off h.left hu (by rw [h.room]; exact hr)
  exact ⟨g, ⟨g.2.2.1, h.off, h.left, h.room⟩, hu.acted (a := ⟨2, p⟩) (Int.le_refl _)⟩
theorem all_tape : ∀ (ls : List (List UInt8)) (p : Plate), (p.all (ls.map (fun b => ⟨2, b⟩))).tape = p.tape ++ ls.flatten
  | [], p => by simp [Plate.all]
  | b :: ls, p => by
    have h := all_tape ls (p.does ⟨2, b⟩)
    have e : (p.does ⟨2, b⟩).tape = p.tape ++ b := by simp [Plate.does]
    rw [List.map_cons]
    show ((p.does ⟨2, b⟩).all (ls.map (fun b => ⟨2, b⟩))).tape = _
    rw [h, e]
    simp
theorem begins_fell {d : Dk} {P : Plate} {parts : List (List UInt8)} (hk : d.kept = P) (hw : d.wait = parts.map (fun p => ⟨2, p⟩)) (keep tear : Int) :
    (P.tape <+: (d.fell keep tear).tape) ∧ ((d.fell keep tear).tape <+: P.tape ++ parts.flatten) ∧ ((parts.length : Int) ≤ keep → (d.fell keep tear).tape = P.tape ++ parts.flatten) := by
  have hlen : d.wait.length = parts.length := by rw [hw, List.length_map]
  have hu := d.upto_le keep
  have ht : (d.kept.all (d.wait.take (d.upto keep))).tape = P.tape ++ (parts.take (d.upto keep)).flatten := by
    rw [hk, hw, ← List.map_take, all_tape]
  have hsp : parts.flatten = (parts.take (d.upto keep)).flatten ++ (parts.drop (d.upto keep)).flatten := by rw [← List.flatten_append, List.take_append_drop]
  unfold Dk.fell
  cases hx : d.wait[d.upto keep]? with
  | none =>
    have hge := List.getElem?_eq_none_iff.1 hx
    have e : parts.take (d.upto keep) = parts := List.take_of_length_le (by omega)
    rw [e] at ht
    simp only []
    rw [ht]
    exact ⟨List.prefix_append _ _, List.prefix_refl _, fun _ => rfl⟩
  | some a =>
    have hlt := (List.getElem?_eq_some_iff.1 hx).1
    rw [hw, List.getElem?_map] at hx
    obtain ⟨b, hb, rfl⟩ := Option.map_eq_some_iff.1 hx
    have hd : (parts.drop (d.upto keep)).flatten = b ++ (parts.drop (d.upto keep + 1)).flatten := by
      rw [List.drop_eq_getElem_cons (by omega)]
      rw [(List.getElem?_eq_some_iff.1 hb).2]
      rfl
    have hno : ¬ (parts.length : Int) ≤ keep := by
      intro h
      have : d.upto keep = d.wait.length := by unfold Dk.upto; omega
      omega
    have H : ∀ N : List UInt8, N = ((d.kept.all (d.wait.take (d.upto keep))).torn ⟨2, b⟩ tear).tape → (P.tape <+: N) ∧ (N <+: P.tape ++ parts.flatten) ∧ ((parts.length : Int) ≤ keep → N = P.tape ++ parts.flatten) := by
      intro N hN
      unfold Plate.torn at hN
      split at hN
      · rw [hN, ht]
        exact ⟨List.prefix_append _ _, by rw [hsp, ← List.append_assoc]; exact List.prefix_append _ _, fun h => absurd h hno⟩
      · have e : ((d.kept.all (d.wait.take (d.upto keep))).does ((⟨2, b⟩ : DAct).cut tear)).tape = (P.tape ++ (parts.take (d.upto keep)).flatten) ++ b.take tear.toNat := by
          rw [← ht]
          simp [Plate.does, DAct.cut]
        rw [hN, e]
        refine ⟨by rw [List.append_assoc]; exact List.prefix_append _ _, ?_, fun h => absurd h hno⟩
        rw [hsp, hd, ← List.append_assoc]
        exact (List.prefix_append_right_inj _).2 ((List.take_prefix _ _).trans (List.prefix_append _ _))
    exact H _ rfl
theorem info30 : (Try.prog.info? 30).map (fun i => (i.zero, i.size, i.bytes)) = some (some (.slice none 0 0), bytesK.sz, 24) := by kernel_rfl
theorem app_parts {w : World} {ops : Array Oper} {rest : List Oper} {o : Oper} {a : Act} {Q : Exit → Act → World → Prop} {ok1 ok2 : Nat → Prop} {vT vx : Value} {T : List UInt8} {ys : List (List UInt8)} (hgd : o.guard = none) (s x : Operand)
    (ho : o.op = .call { callee := .builtin .append, args := #[s, x], argTypes := #[70, 70] }) (hs : a.eval s = .slice (some ⟨w.heap.size, 0, none⟩) 1 1) (hx : a.eval x = vx)
    (hT : Rd Kd.u8 w ok1 vT T) (Y : Rd bytesK w ok2 vx ys) (hl : ys.length ≤ 1000000)
    (h : ∀ A n c w', Hid (n = (T :: ys).length) → Hid (Rd bytesK w' (fun _ => True) (.slice A n c) (T :: ys)) → Hid (Ext Non w w') → wpList Try.prog ops Q rest (a.put o.dst (.slice A n c)) w') : wpList Try.prog ops Q (o :: rest) a (w.alloc (.cells #[vT] 30)) := by
  have eA : Ext Non w (w.alloc (.cells #[vT] 30)) := (Ext.refl Non w).alloc _
  have hr : Reps bytesK w (fun _ => True) [T] [vT] := Reps.single (d := bytesK) (cs := [vT]) ⟨vT, rfl, hT.mono (fun _ _ => trivial)⟩
  have G : Own bytesK 30 (w.alloc (.cells #[vT] 30)) w.heap.size (fun _ => True) (.slice (some ⟨w.heap.size, 0, none⟩) 1 1) [T] := Own.lit hr (Nat.le_refl _) (by simp) trivial
  refine wpList_app bytesK (v := .slice (some ⟨w.heap.size, 0, none⟩) 1 1) (vx := vx) (ok := fun _ => True) (xs := [T]) (ys := ys) w.heap.size hgd s x 70 30 _ 24 ho Try.underlying70 info30 rfl (by decide) hs hx G ((Y.bound.ext0 eA).mono fun k hk => ⟨trivial, fun e => by simp [Value.ownBlock] at e; have := hk.2; omega⟩) (fun k hk => trivial) (by simp; omega) (by simp; omega) (by simp) ?_
  intro v' w' hown hext hblk
  obtain ⟨A, c, rfl, _, _⟩ := hown.slice
  refine h A _ c w' rfl hown.rd (eA.trans hext (fun i hi e => ?_))
  simp [Value.ownBlock] at e
  omega
end Go.Proofs.Ytpmncppfopbaaaa
