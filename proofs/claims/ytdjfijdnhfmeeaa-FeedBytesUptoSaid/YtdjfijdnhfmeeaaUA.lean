/- PLAIN: what holds of a feed behind any calls; a list of events of one's own whose keys are written over. What the bound on an input's bulk gives: the sizes of the filters' texts. -/
import Derived.Test.YtdjfijdnhfmeeaaT8
import Derived.Test.YtdjfijdnhfmeeaaSB
import Derived.Test.YtdjfijdnhfmeeaaSA
import Derived.Test.YtdjfijdnhfmeeaaRB
import Derived.Test.YtdjfijdnhfmeeaaRows
namespace Go.Proofs.Ytdjfijdnhfmeeaa
open Go.RowKit Go.TM
theorem evict_sub : ∀ {k : Nat} {D : Fdr}, ∀ e ∈ (evict k D).evs, e ∈ D.evs
  | 0, _, _, h => h
  | k + 1, D, e, h => by
    unfold Proofs.Ytdjfijdnhfmeeaa.evict at h
    split at h
    · have h1 := evict_sub e h
      have h2 := trimE_sub _ _ e h1
      rcases goneD_eq D with e' | ⟨a, _, e'⟩ <;> rw [e'] at h2 <;> exact h2
    · exact h
theorem step_mem {n : Nat} {D : Fdr} {k : Dc} {e : Ev} (h : e ∈ (stepR n D k).2.evs) : e ∈ D.evs ∨ ∃ y ∈ k.evs, e = toPos (nextP D k) y := by
  unfold stepR at h
  split at h
  · left
    show e ∈ D.evs
    have h' : e ∈ (addR n D k.q).2.evs := h
    unfold addR at h'
    repeat (first | exact h' | split at h')
  · split at h
    · left
      unfold dropR at h
      split at h
      · exact h
      · exact trimE_sub _ _ e h
    · split at h
      · left
        unfold ackR at h
        split at h
        · exact h
        · split at h
          · exact h
          · split at h
            · exact h
            · exact trimE_sub _ _ e h
      · split at h
        · exact .inl h
        · unfold noteR at h
          split at h
          · exact .inl h
          · split at h
            · exact .inl h
            · have h1 := trimE_sub _ _ e (evict_sub e h)
              rcases List.mem_append.1 h1 with h1 | h1
              · exact .inl h1
              · obtain ⟨y, hy, rfl⟩ := List.mem_map.1 h1
                exact .inr ⟨y, hy, rfl⟩
theorem step_evord {n : Nat} {D : Fdr} {k : Dc} (h : EvOrd D) : EvOrd (stepR n D k).2 := by
  unfold stepR
  split
  · show EvOrd (addR n D k.q).2
    unfold addR
    repeat (first | exact h | exact ⟨h.ord, h.top⟩ | split)
  · split
    · unfold dropR
      split
      · exact h
      · exact EvOrd.trim ⟨h.ord, h.top⟩
    · split
      · unfold ackR
        split
        · exact h
        · split
          · exact h
          · split
            · exact h
            · exact EvOrd.trim ⟨h.ord, h.top⟩
      · split
        · exact h
        · exact note_evord h _ _
/-- What holds of a feed behind any calls. -/
structure Fine (n : Nat) (D : Fdr) : Prop where
  good : Good n D
  ord : Ord D
  ev : EvOrd D
  key : ∀ e ∈ D.evs, e.key.size ≤ 32768
theorem newD_fine (n : Nat) : Fine n newD := ⟨newD_good n, newD_ord, ⟨List.Pairwise.nil, fun e he => (by cases he)⟩, fun e he => (by cases he)⟩
theorem step_fine {n : Nat} {D : Fdr} {k : Dc} (h : Fine n D) (hk : CallOk n k) (hky : ∀ e ∈ k.evs, e.key.size ≤ 32768) : Fine n (stepR n D k).2 := by
  refine ⟨step_good h.good hk, step_ord h.good h.ord, step_evord h.ev, fun e he => ?_⟩
  rcases step_mem he with he | ⟨y, hy, rfl⟩
  · exact h.key e he
  · exact hky y hy
theorem fine_fold {n : Nat} : ∀ {l : List Dc} {D : Fdr}, Fine n D → (∀ k ∈ l, CallOk n k) → (∀ k ∈ l, ∀ e ∈ k.evs, e.key.size ≤ 32768) → Fine n (l.foldl (fun D k => (stepR n D k).2) D)
  | [], _, h, _, _ => h
  | k :: l, _, h, hk, hy => fine_fold (l := l) (step_fine h (hk k (List.mem_cons_self ..)) (hy k (List.mem_cons_self ..))) (fun y hm => hk y (List.mem_cons_of_mem _ hm)) (fun y hm => hy y (List.mem_cons_of_mem _ hm))
theorem made_fine {n : Nat} {l : List Dc} (h : ∀ k ∈ l, CallOk n k) (hy : ∀ k ∈ l, ∀ e ∈ k.evs, e.key.size ≤ 32768) : Fine n (madeD n l) := fine_fold (newD_fine n) h hy
/-- A row of events of one's own: none, or a block. -/
theorem own_key {w : World} {base : Nat} {ok : Nat → Prop} {B : Option Addr} {m d : Nat} {l : List Ev} (h : Own evK 43 w base ok (.slice B m d) l) (h0 : 0 < m) :
    ∃ b cur, B = some ⟨b, 0, none⟩ ∧ base ≤ b ∧ w.heap[b]? = some (.cells cur 43 (0, 0)) ∧ cur.size = d * 6 ∧ m ≤ d := by
  obtain ⟨A, c, hs, hc, -⟩ := h.slice
  simp only [Value.slice.injEq] at hs
  obtain ⟨-, hm, hd⟩ := hs
  obtain ⟨b, rfl⟩ := own_some h (by omega)
  obtain ⟨-, hb, cur, zs, T, -, hp⟩ := h.to_prow
  exact ⟨b, cur, rfl, hb, hp.blk, hp.size, by omega⟩
/-- Sizes of a filter's texts, all the way down. -/
def okT : Nat → Flt → Prop
  | 0, _ => True
  | n + 1, f => f.key.size ≤ 1048576 ∧ f.val.size ≤ 1048576 ∧ ∀ k ∈ f.kids, okT n k
theorem okT_le : ∀ {n m : Nat} {f : Flt}, okF n f → n ≤ m → okT n f → okT m f
  | 0, _, _, h, _, _ => h.elim
  | n + 1, 0, _, _, h, _ => by omega
  | n + 1, m + 1, f, hf, h, ht => ⟨ht.1, ht.2.1, fun k hk => okT_le (hf.2.2.2.2 k hk) (by omega) (ht.2.2 k hk)⟩
theorem okL_of : ∀ {n : Nat} {f : Flt}, okF n f → okK n f → okT n f → okL n f
  | 0, _, h, _, _ => h.elim
  | n + 1, f, hf, hk, ht => ⟨hf.1, ht.1, ht.2.1, Nat.le_trans hk.1 (by omega), fun k h => okL_of (hf.2.2.2.2 k h) (hk.2 k h) (ht.2.2 k h)⟩
end Go.Proofs.Ytdjfijdnhfmeeaa

namespace Go.Proofs.Ytdjfijdnhfmeeaa
open Go.RowKit Go.TM Go.ChangeShapes Go.WideShapes Go.ChangeAt Go.Deep
theorem bulk_part {H : Type} {d : DataW H} {l : List (DataW H)} (h : d ∈ l) : Rows.uptoBulk d ≤ Rows.uptoBulkAll l := by
  induction l with
  | nil => cases h
  | cons x r ih =>
    simp only [Rows.uptoBulkAll]
    rcases List.mem_cons.1 h with e | e
    · subst e; omega
    · have := ih e; omega
section
variable {H : Type} {enc : TypeId × Value → H} {w : World} {base b0 : Nat} {spare : Nat → Bool} {held : Bool} {r : Reach}
/-- An element of a list: its cells are trodden, and weigh no more than the list. -/
theorem elem_bulk {α : Type} {d : Kd α} {ok : Nat → Prop} {t e : TypeId} {fuel : Nat} {v : Value} {l : List α} {y : DataW H × List MemPlace} (ht : Try.prog.underlying t = some (.slice e)) (hC : Try.prog.cellsOf e = d.sz)
    (hr : Rd d w ok v l) (h : DataW.trod enc Try.prog w base spare held fuel t [v] = some y) {j : Nat} {x : α} (hx : l[j]? = some x) :
    ∃ cs n z, d.K w ok x cs ∧ DataW.trod enc Try.prog w base spare held n e cs = some z ∧ Rows.uptoBulk z.1 ≤ Rows.uptoBulk y.1 := by
  obtain ⟨A, len, cap, rfl, hlen⟩ := rd_abs hr
  have hj := (List.getElem?_eq_some_iff.1 hx).1
  obtain ⟨g, off, cs, rfl, hg, hgl, hk, hcs⟩ := hr.at_ hx
  rcases DataW.trod_slice ht h with ⟨hcn, -⟩ | ⟨a, len', cap', elems, rest, n, hfu, hcn, hy, hb, hl, hm, hel, hi, -, -⟩
  · simp at hcn
  · simp only [List.cons.injEq, Value.slice.injEq, Option.some.injEq, and_true] at hcn
    obtain ⟨rfl, rfl, rfl⟩ := hcn
    have key := hi j (by omega)
    rw [List.getElem?_eq_getElem (by omega)] at key
    obtain ⟨cs', h1, h2⟩ := Option.bind_eq_some_iff.1 key
    rw [hC] at h1
    obtain ⟨_, hcl, hat⟩ := World.cells?_some h1
    have hcc : cs' = cs := by
      apply List.ext_getElem?
      intro i
      by_cases hi' : i < d.sz
      · have hil : i < cs.length := by rw [d.len hk]; exact hi'
        have hu := hcs i _ (List.getElem?_eq_getElem hil)
        have h3 := hat i hi'
        have hadd : ((⟨g, off, none⟩ : Addr).add (j * d.sz)).add i = ⟨g, off + (j * d.sz + i), none⟩ := by
          rw [Go.Deep.add_add]
          unfold Addr.add
          split <;> simp_all
        rw [hadd, hu] at h3
        rw [List.getElem?_eq_getElem hil]
        exact h3.symm
      · rw [List.getElem?_eq_none (by omega), List.getElem?_eq_none (by rw [d.len hk]; omega)]
    subst hcc
    refine ⟨cs', n, _, hk, h2, ?_⟩
    rw [hy]
    have := bulk_part (H := H) (d := elems[j].1) (l := elems.map (·.1)) (List.mem_map_of_mem (List.getElem_mem _))
    simp only [Rows.uptoBulk]
    omega
theorem flt_bulk {ok : Nat → Prop} : ∀ (n : Nat) {fuel : Nat} {x : Flt} {cs : List Value} {y : DataW H × List MemPlace}, (fltK n).K w ok x cs → DataW.trod enc Try.prog w base spare held fuel 24 cs = some y → Rows.uptoBulk y.1 ≤ 1048576 → okT n x
  | 0, _, _, _, _, _, _, _ => trivial
  | n + 1, fuel, x, cs, y, hk, ht, hb => by
    obtain ⟨v, rfl, hr⟩ := hk
    obtain ⟨xs, m, rfl, rfl, hl, hlen, hf⟩ := DataW.trod_struct Try.underlying24 ht
    have hC0 : Try.prog.cellsOf 3 = 1 := by kernel_rfl
    have hC1 : Try.prog.cellsOf 9 = 1 := by kernel_rfl
    have hC2 : Try.prog.cellsOf 22 = 1 := by kernel_rfl
    match xs, hlen with
    | [y0, y1, y2, y3], _ =>
      have h1 := hf 1 _ rfl
      have h2 := hf 2 _ rfl
      have h3 := hf 3 _ rfl
      simp [hC1, hC2] at h1 h2 h3
      obtain ⟨s1, g1, z1, _⟩ := DataW.trod_string Try.underlying9 h1
      obtain ⟨s2, g2, z2, _⟩ := DataW.trod_string Try.underlying9 h2
      simp only [List.cons.injEq, Value.string.injEq, and_true] at g1 g2
      have b1 := bulk_part (H := H) (d := y1.1) (l := [y0.1, y1.1, y2.1, y3.1]) (by simp)
      have b2 := bulk_part (H := H) (d := y2.1) (l := [y0.1, y1.1, y2.1, y3.1]) (by simp)
      have b3 := bulk_part (H := H) (d := y3.1) (l := [y0.1, y1.1, y2.1, y3.1]) (by simp)
      simp only [Rows.uptoBulk, List.map_cons, List.map_nil] at hb
      have e1 : Rows.uptoBulk y1.1 = s1.size + 1 := by rw [z1]; simp [Rows.uptoBulk]
      have e2 : Rows.uptoBulk y2.1 = s2.size + 1 := by rw [z2]; simp [Rows.uptoBulk]
      refine ⟨by rw [g1]; omega, by rw [g2]; omega, fun k hk => ?_⟩
      obtain ⟨j, hj⟩ := List.getElem?_of_mem hk
      obtain ⟨cs, m', z, hkk, htt, hbb⟩ := elem_bulk Try.underlying22 (by rw [fltK_sz]; kernel_rfl) hr h3 hj
      exact flt_bulk n hkk htt (by omega)
theorem do_bulk {ok : Nat → Prop} {n fuel : Nat} {k : Dc} {cs : List Value} {y : DataW H × List MemPlace} (hk : (doK n).K w ok k cs) (ht : DataW.trod enc Try.prog w base spare held fuel 36 cs = some y) (hb : Rows.uptoBulk y.1 ≤ 1048576) : okT (n + 1) k.q := by
  obtain ⟨u, v, rfl, hu, hr⟩ := hk
  obtain ⟨xs, m, rfl, rfl, hl, hlen, hf⟩ := DataW.trod_struct Try.underlying36 ht
  have hC2 : Try.prog.cellsOf 24 = 4 := by kernel_rfl
  match xs, hlen with
  | [y0, y1, y2, y3, y4, y5, y6], _ =>
    have h6 := hf 6 _ rfl
    simp [hC2] at h6
    have b6 := bulk_part (H := H) (d := y6.1) (l := [y0.1, y1.1, y2.1, y3.1, y4.1, y5.1, y6.1]) (by simp)
    simp only [Rows.uptoBulk, List.map_cons, List.map_nil] at hb
    have hkq : (fltK (n + 1)).K w ok k.q [.int .i64 k.q.op, .string k.q.key, .string k.q.val, v] := ⟨v, rfl, hr⟩
    exact flt_bulk (n + 1) hkq h6 (by omega)
theorem dos_bulk {ok : Nat → Prop} {n : Nat} {v : Value} {l : List Dc} {d : DataW H} {p : List MemPlace} (hr : Rd (doK n) w ok v l) (h : DataW.Trod enc Try.prog w base spare held 25 v d p) (hb : Rows.uptoBulk d ≤ 1048576) : ∀ k ∈ l, okT (n + 1) k.q := by
  obtain ⟨fuel, hf⟩ := h
  intro k hk
  obtain ⟨j, hj⟩ := List.getElem?_of_mem hk
  obtain ⟨A, len, cap, rfl, -⟩ := rd_abs hr
  have hf : DataW.trod enc Try.prog w base spare held fuel 25 [.slice A len cap] = some (d, p) := hf
  obtain ⟨cs, m', z, hkk, htt, hbb⟩ := elem_bulk Try.underlying25 (by kernel_rfl) hr hf hj
  exact do_bulk hkk htt (Nat.le_trans hbb hb)
end
end Go.Proofs.Ytdjfijdnhfmeeaa

