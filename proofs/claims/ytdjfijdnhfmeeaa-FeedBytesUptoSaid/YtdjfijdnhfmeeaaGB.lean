/- Filters that may be: plain. How a filter made ready lies in memory. A filter made ready: parts without kids, and what may not be. A filter made ready: the contract; too deep; its nodes. -/
import Derived.Test.YtdjfijdnhfmeeaaGA
namespace Go.TM
open Go.RowKit
/-- A filter made ready, as it lies in memory: one cell, an interface. -/
def oneN (d : Kd Flt) : Kd Flt where
  sz := 1
  K := fun w ok x cs =>
    (x.op = 0 ∧ cs = [.iface 120 (.agg #[])]) ∨ (x.op = 1 ∧ cs = [.iface 122 (.agg #[.string x.val])]) ∨ (x.op = 2 ∧ cs = [.iface 124 (.agg #[.string x.key, .string x.val])]) ∨ (x.op = 3 ∧ cs = [.iface 125 (.agg #[])]) ∨
    (x.op = 4 ∧ ∃ k u, x.kids = [k] ∧ cs = [.iface 129 (.agg #[u])] ∧ d.K w ok k [u]) ∨ (x.op = 5 ∧ ∃ s, cs = [.iface 131 (.agg #[s])] ∧ Rd d w ok s x.kids) ∨ (x.op = 6 ∧ ∃ s, cs = [.iface 132 (.agg #[s])] ∧ Rd d w ok s x.kids)
  len := fun h => by
    rcases h with ⟨_, h⟩ | ⟨_, h⟩ | ⟨_, h⟩ | ⟨_, h⟩ | ⟨_, _, _, _, h, _⟩ | ⟨_, _, h, _⟩ | ⟨_, _, h, _⟩ <;> rw [h] <;> rfl
  one := fun h u hu => by
    rcases h with ⟨_, h⟩ | ⟨_, h⟩ | ⟨_, h⟩ | ⟨_, h⟩ | ⟨_, _, _, _, h, _⟩ | ⟨_, _, h, _⟩ | ⟨_, _, h, _⟩ <;> rw [h] at hu <;> (simp only [List.mem_cons, List.not_mem_nil, or_false] at hu) <;> (subst hu) <;> rfl
  mono := fun hok h => by
    rcases h with h | h | h | h | ⟨h0, k, u, h1, h2, h3⟩ | ⟨h0, s, h1, h2⟩ | ⟨h0, s, h1, h2⟩
    · exact .inl h
    · exact .inr (.inl h)
    · exact .inr (.inr (.inl h))
    · exact .inr (.inr (.inr (.inl h)))
    · exact .inr (.inr (.inr (.inr (.inl ⟨h0, k, u, h1, h2, d.mono hok h3⟩))))
    · exact .inr (.inr (.inr (.inr (.inr (.inl ⟨h0, s, h1, h2.mono hok⟩)))))
    · exact .inr (.inr (.inr (.inr (.inr (.inr ⟨h0, s, h1, h2.mono hok⟩)))))
  bound := fun h => by
    rcases h with h | h | h | h | ⟨h0, k, u, h1, h2, h3⟩ | ⟨h0, s, h1, h2⟩ | ⟨h0, s, h1, h2⟩
    · exact .inl h
    · exact .inr (.inl h)
    · exact .inr (.inr (.inl h))
    · exact .inr (.inr (.inr (.inl h)))
    · exact .inr (.inr (.inr (.inr (.inl ⟨h0, k, u, h1, h2, d.bound h3⟩))))
    · exact .inr (.inr (.inr (.inr (.inr (.inl ⟨h0, s, h1, h2.bound⟩)))))
    · exact .inr (.inr (.inr (.inr (.inr (.inr ⟨h0, s, h1, h2.bound⟩)))))
  move := fun hm h => by
    rcases h with h | h | h | h | ⟨h0, k, u, h1, h2, h3⟩ | ⟨h0, s, h1, h2⟩ | ⟨h0, s, h1, h2⟩
    · exact .inl h
    · exact .inr (.inl h)
    · exact .inr (.inr (.inl h))
    · exact .inr (.inr (.inr (.inl h)))
    · exact .inr (.inr (.inr (.inr (.inl ⟨h0, k, u, h1, h2, d.move hm h3⟩))))
    · exact .inr (.inr (.inr (.inr (.inr (.inl ⟨h0, s, h1, h2.move' hm⟩)))))
    · exact .inr (.inr (.inr (.inr (.inr (.inr ⟨h0, s, h1, h2.move' hm⟩)))))
def noN : Kd Flt where
  sz := 1
  K := fun _ _ _ _ => False
  len := fun h => h.elim
  one := fun h => h.elim
  mono := fun _ h => h.elim
  bound := fun h => h.elim
  move := fun _ h => h.elim
def ndK : Nat → Kd Flt
  | 0 => noN
  | n + 1 => oneN (ndK n)
theorem ndK_sz : ∀ n, (ndK n).sz = 1
  | 0 => rfl
  | _ + 1 => rfl
end Go.TM
namespace Go.Proofs.Ytdjfijdnhfmeeaa
open Go.RowKit Go.TM
/-- May a part be, whatever its kids are? -/
def bare (key val : ByteArray) : Bool := decide (key.toList = []) && decide (val.toList = [])
def mayW (op : Int) (key val : ByteArray) (len : Nat) : Bool :=
  if op = 0 then bare key val && decide (len = 0)
  else if op = 1 then decide (len = 0) && decide (key.toList = []) && decide (keyE val = 0)
  else if op = 2 then decide (len = 0) && decide (nameE key = 0) && decide (valE val = 0)
  else if op = 3 then bare key val && decide (len = 0)
  else if op = 4 then bare key val && decide (len = 1)
  else if op = 5 then bare key val
  else if op = 6 then bare key val
  else false
def mayF (f : Flt) : Bool := mayW f.op f.key f.val f.kids.length
def foldE (F : Flt → Int → Int × Int) : List Flt → Int → Int × Int
  | [], c => (0, c)
  | k :: ks, c => if (F k c).1 = 0 then foldE F ks (F k c).2 else F k c
theorem foldE_yes {F : Flt → Int → Int × Int} {k : Flt} {ks : List Flt} {c c' : Int} (h : F k c = (0, c')) : foldE F (k :: ks) c = foldE F ks c' := by
  unfold foldE
  rw [h, if_pos rfl]
  cases ks <;> rfl
theorem foldE_no {F : Flt → Int → Int × Int} {k : Flt} {ks : List Flt} {c : Int} (h : (F k c).1 ≠ 0) : foldE F (k :: ks) c = F k c := by
  unfold foldE
  rw [if_neg h]
/-- The first error of the parts gone through, and the count behind. -/
def chk : Nat → Flt → Int → Int → Int × Int
  | 0, _, _, c => (0, c)
  | n + 1, f, d, c => if 6 < d ∨ 24 ≤ c then (51, c) else if mayF f = false then (50, c) else foldE (fun k c => chk n k (d + 1) c) f.kids (c + 1)
theorem chk_deep {n : Nat} {f : Flt} {d c : Int} (h : 6 < d ∨ 24 ≤ c) : chk (n + 1) f d c = (51, c) := if_pos h
theorem chk_bad {n : Nat} {f : Flt} {d c : Int} (h : ¬ (6 < d ∨ 24 ≤ c)) (hm : mayF f = false) : chk (n + 1) f d c = (50, c) := (if_neg h).trans (if_pos hm)
theorem chk_go {n : Nat} {f : Flt} {d c : Int} (h : ¬ (6 < d ∨ 24 ≤ c)) (hm : mayF f = true) : chk (n + 1) f d c = foldE (fun k c => chk n k (d + 1) c) f.kids (c + 1) := (if_neg h).trans (if_neg (by rw [hm]; simp))
theorem foldE_le {F : Flt → Int → Int × Int} (h : ∀ k c, 0 ≤ c → c ≤ 24 → (F k c).1 = 0 → 0 ≤ (F k c).2 ∧ (F k c).2 ≤ 24) : ∀ (l : List Flt) (c : Int), 0 ≤ c → c ≤ 24 → (foldE F l c).1 = 0 → 0 ≤ (foldE F l c).2 ∧ (foldE F l c).2 ≤ 24
  | [], c, h0, h1, _ => ⟨h0, h1⟩
  | k :: ks, c, h0, h1, hb => by
    by_cases hk : (F k c).1 = 0
    · have hf : foldE F (k :: ks) c = foldE F ks (F k c).2 := foldE_yes (by rw [← hk])
      rw [hf] at hb ⊢
      obtain ⟨a, b⟩ := h k c h0 h1 hk
      exact foldE_le h ks _ a b hb
    · rw [foldE_no hk] at hb
      exact absurd hb hk
theorem chk_le : ∀ (n : Nat) (f : Flt) (d c : Int), 0 ≤ c → c ≤ 24 → (chk n f d c).1 = 0 → 0 ≤ (chk n f d c).2 ∧ (chk n f d c).2 ≤ 24
  | 0, _, _, _, h0, h1, _ => ⟨h0, h1⟩
  | n + 1, f, d, c, h0, h1, h => by
    unfold chk at h ⊢
    by_cases c1 : 6 < d ∨ 24 ≤ c
    · rw [if_pos c1] at h
      cases h
    · rw [if_neg c1] at h ⊢
      by_cases c2 : mayF f = false
      · rw [if_pos c2] at h
        cases h
      · rw [if_neg c2] at h ⊢
        exact foldE_le (fun k c h0 h1 hb => chk_le n k (d + 1) c h0 h1 hb) _ _ (by omega) (by omega) h
theorem foldE_ge {F : Flt → Int → Int × Int} (h : ∀ k c, (F k c).1 = 0 → c ≤ (F k c).2) : ∀ (l : List Flt) (c : Int), (foldE F l c).1 = 0 → c ≤ (foldE F l c).2
  | [], _, _ => Int.le_refl _
  | k :: ks, c, hb => by
    by_cases hk : (F k c).1 = 0
    · have hf : foldE F (k :: ks) c = foldE F ks (F k c).2 := foldE_yes (by rw [← hk])
      rw [hf] at hb ⊢
      exact Int.le_trans (h k c hk) (foldE_ge h ks _ hb)
    · rw [foldE_no hk] at hb
      exact absurd hb hk
theorem chk_ge : ∀ (n : Nat) (f : Flt) (d c : Int), (chk n f d c).1 = 0 → c ≤ (chk n f d c).2
  | 0, _, _, _, _ => Int.le_refl _
  | n + 1, f, d, c, h => by
    by_cases c1 : 6 < d ∨ 24 ≤ c
    · rw [chk_deep c1] at h
      cases h
    · cases c2 : mayF f with
      | false =>
        rw [chk_bad c1 c2] at h
        cases h
      | true =>
        rw [chk_go c1 c2] at h ⊢
        have := foldE_ge (F := fun k c => chk n k (d + 1) c) (fun k c hb => chk_ge n k (d + 1) c hb) _ _ h
        omega
theorem chk_up {n : Nat} {f : Flt} {d c : Int} (h : (chk (n + 1) f d c).1 = 0) : c + 1 ≤ (chk (n + 1) f d c).2 := by
  by_cases c1 : 6 < d ∨ 24 ≤ c
  · rw [chk_deep c1] at h
    cases h
  · cases c2 : mayF f with
    | false =>
      rw [chk_bad c1 c2] at h
      cases h
    | true =>
      rw [chk_go c1 c2] at h ⊢
      exact foldE_ge (F := fun k c => chk n k (d + 1) c) (fun k c hb => chk_ge n k (d + 1) c hb) _ _ h
end Go.Proofs.Ytdjfijdnhfmeeaa

namespace Go.Proofs.Ytdjfijdnhfmeeaa
open Go.RowKit Go.TM
def HeadPost (op : Int) (key val : ByteArray) (len : Nat) (leaf : Value) (c : Int) (g : Nat) (w : World) (e : Ending) (w' : World) : Prop :=
  ∃ x err, e = .returned (.tuple #[x, .int .i64 err]) ∧ Ext (Only g) w w' ∧ Ctr w' g (c + 1) ∧ ((mayW op key val len = true ∧ err = 0 ∧ x = leaf) ∨ (mayW op key val len = false ∧ err = 50 ∧ x = .nilIface))
theorem ctr_set {w : World} {g : Nat} {c : Int} (h : Ctr w g c) (o : Obj) (c' : Int) : Ctr ((w.setCell ⟨g, 0, none⟩ (.int .i64 c')).alloc o) g c' := blk_alloc (blk_set h 0 _) o
theorem ext_set (w : World) (g : Nat) (o : Obj) (u : Value) : Ext (Only g) w ((w.setCell ⟨g, 0, none⟩ u).alloc o) := ((Ext.setCell (Ext.refl (Only g) w) (p := ⟨g, 0, none⟩) (fun _ => rfl) u).alloc o)
theorem boxed {M : Nat → Prop} {w w5 : World} {g : Nat} {u : Value} {cs : Array Value} {t : TypeId} (he : Ext M ((w.setCell ⟨g, 0, none⟩ u).alloc (.cells cs t)) w5) (hm : ¬ M w.heap.size) (i : Nat) : w5.cell? ⟨w.heap.size, i, none⟩ = cs[i]? := by
  have h := blk_new (w.setCell ⟨g, 0, none⟩ u) (.cells cs t)
  rw [size_fin] at h
  exact blk_cell (he.obj h hm) i
section
variable {w : World} {A : Option Addr} {len cap : Nat} {d c op : Int} {g : Nat} {key val : ByteArray}
set_option maxRecDepth 100000 in
set_option maxHeartbeats 4000000 in
theorem head0 (hc : Ctr w g c) (hd : d ≤ 6) (hc1 : c < 24) (hc0 : 0 ≤ c) :
   Calls Try.prog 83 #[.agg #[.int .i64 0, .string key, .string val, .slice A len cap], .int .i64 d, .pointer (some ⟨g, 0, none⟩)] w (HeadPost 0 key val len (.iface 120 (.agg #[])) c g w) := by
  have hg := blk_lt hc
  have b0 : w.cell? ⟨g, 0, none⟩ = some (.int .i64 c) := blk_cell hc 0
  have bf := blk_frozen hc 0
  have HC := Lib.hid hc
  clear hc
  go_enter Try.func83, Try.ntmps83
  go_wp2_with fail
  all_goals go_ret2
  all_goals first
    | exact ⟨_, 0, rfl, ext_set _ _ _ _, ctr_set HC.out _ _, .inl ⟨(by first | (simp [mayW, bare, *]; done) | (simp [mayW, bare, *]; exact List.isEmpty_iff.1 (by assumption))), rfl, rfl⟩⟩
    | exact ⟨.nilIface, 50, rfl, ext_set _ _ _ _, ctr_set HC.out _ _, .inr ⟨(by first | (simp [mayW, bare, *]; done) | (simp [mayW, bare, *]; intro hq; have hz : val.toList.isEmpty = false := (by assumption); rw [hq] at hz; cases hz)), rfl, rfl⟩⟩
set_option maxRecDepth 100000 in
set_option maxHeartbeats 4000000 in
theorem head3 (hc : Ctr w g c) (hd : d ≤ 6) (hc1 : c < 24) (hc0 : 0 ≤ c) :
   Calls Try.prog 83 #[.agg #[.int .i64 3, .string key, .string val, .slice A len cap], .int .i64 d, .pointer (some ⟨g, 0, none⟩)] w (HeadPost 3 key val len (.iface 125 (.agg #[])) c g w) := by
  have hg := blk_lt hc
  have b0 : w.cell? ⟨g, 0, none⟩ = some (.int .i64 c) := blk_cell hc 0
  have bf := blk_frozen hc 0
  have HC := Lib.hid hc
  clear hc
  go_enter Try.func83, Try.ntmps83
  go_wp2_with fail
  all_goals go_ret2
  all_goals first
    | exact ⟨_, 0, rfl, ext_set _ _ _ _, ctr_set HC.out _ _, .inl ⟨(by first | (simp [mayW, bare, *]; done) | (simp [mayW, bare, *]; exact List.isEmpty_iff.1 (by assumption))), rfl, rfl⟩⟩
    | exact ⟨.nilIface, 50, rfl, ext_set _ _ _ _, ctr_set HC.out _ _, .inr ⟨(by first | (simp [mayW, bare, *]; done) | (simp [mayW, bare, *]; intro hq; have hz : val.toList.isEmpty = false := (by assumption); rw [hq] at hz; cases hz)), rfl, rfl⟩⟩
set_option maxRecDepth 100000 in
set_option maxHeartbeats 4000000 in
theorem head7 (hc : Ctr w g c) (hd : d ≤ 6) (hc1 : c < 24) (hc0 : 0 ≤ c) (hop : op < 0 ∨ 6 < op) :
   Calls Try.prog 83 #[.agg #[.int .i64 op, .string key, .string val, .slice A len cap], .int .i64 d, .pointer (some ⟨g, 0, none⟩)] w (HeadPost op key val len .nilIface c g w) := by
  have hg := blk_lt hc
  have b0 : w.cell? ⟨g, 0, none⟩ = some (.int .i64 c) := blk_cell hc 0
  have bf := blk_frozen hc 0
  have HC := Lib.hid hc
  clear hc
  have n0 : ¬ op = 0 := by omega
  have n1 : ¬ op = 1 := by omega
  have n2 : ¬ op = 2 := by omega
  have n3 : ¬ op = 3 := by omega
  have n4 : ¬ op = 4 := by omega
  have n5 : ¬ op = 5 := by omega
  have n6 : ¬ op = 6 := by omega
  go_enter Try.func83, Try.ntmps83
  go_wp2_with fail
  all_goals go_ret2
  all_goals first
    | exact ⟨_, 0, rfl, ext_set _ _ _ _, ctr_set HC.out _ _, .inl ⟨(by first | (simp [mayW, *]; done) | (simp [mayW, *]; exact List.isEmpty_iff.1 (by assumption))), rfl, rfl⟩⟩
    | exact ⟨.nilIface, 50, rfl, ext_set _ _ _ _, ctr_set HC.out _ _, .inr ⟨(by first | (simp [mayW, *]; done) | (simp [mayW, *]; intro hq; have hz : val.toList.isEmpty = false := (by assumption); rw [hq] at hz; cases hz)), rfl, rfl⟩⟩
set_option maxRecDepth 100000 in
set_option maxHeartbeats 4000000 in
theorem head1 (hc : Ctr w g c) (hd : d ≤ 6) (hc1 : c < 24) (hc0 : 0 ≤ c) :
   Calls Try.prog 83 #[.agg #[.int .i64 1, .string key, .string val, .slice A len cap], .int .i64 d, .pointer (some ⟨g, 0, none⟩)] w (HeadPost 1 key val len (.iface 122 (.agg #[.string val])) c g w) := by
  have hg := blk_lt hc
  have b0 : w.cell? ⟨g, 0, none⟩ = some (.int .i64 c) := blk_cell hc 0
  have bf := blk_frozen hc 0
  have HC := Lib.hid hc
  clear hc
  by_cases hlk : len = 0 ∧ key.toList = []
  · obtain ⟨rfl, hk⟩ := hlk
    obtain ⟨z, hz⟩ : ∃ z, keyE val = z := ⟨_, rfl⟩
    have HZ := Lib.hid hz
    clear hz
    go_enter Try.func83, Try.ntmps83
    go_wp2_with fail
    refine (Key_calls _ val).mono ?_
    rw [HZ.out]
    rintro e w5 ⟨rfl, he⟩
    have HE := Lib.hid he
    have x0 : w5.cell? ⟨w.heap.size, 0, none⟩ = some (.int .i64 1) := boxed he (fun h => h) 0
    have x1 : w5.cell? ⟨w.heap.size, 1, none⟩ = some (.string key) := boxed he (fun h => h) 1
    have x2 : w5.cell? ⟨w.heap.size, 2, none⟩ = some (.string val) := boxed he (fun h => h) 2
    have x3 : w5.cell? ⟨w.heap.size, 3, none⟩ = some (.slice A 0 cap) := boxed he (fun h => h) 3
    clear he
    by_cases hz0 : z = 0
    · subst hz0
      have hmay : Hid (mayW 1 key val 0 = true) := by
        show mayW 1 key val 0 = true
        simp [mayW, hk, HZ.out]
      go_wp2_with fail
      go_ret2
      exact ⟨_, 0, rfl, (ext_set _ _ _ _).trans0 HE.out, (ctr_set HC.out _ _).ext HE.out (fun h => h), .inl ⟨hmay.out, rfl, rfl⟩⟩
    · have hmay : Hid (mayW 1 key val 0 = false) := by
        show mayW 1 key val 0 = false
        simp [mayW, hk, HZ.out, hz0]
      go_wp2_with fail
      all_goals go_ret2
      all_goals exact ⟨.nilIface, 50, rfl, (ext_set _ _ _ _).trans0 HE.out, (ctr_set HC.out _ _).ext HE.out (fun h => h), .inr ⟨hmay.out, rfl, rfl⟩⟩
  · have hmay : Hid (mayW 1 key val len = false) := by
      show mayW 1 key val len = false
      by_cases h1 : len = 0
      · by_cases h2 : key.toList = []
        · exact absurd ⟨h1, h2⟩ hlk
        · simp [mayW, h2]
      · simp [mayW, h1]
    rcases (show ¬ len = 0 ∨ ¬ key.toList = [] by
      by_cases h1 : len = 0
      · exact .inr (fun h2 => hlk ⟨h1, h2⟩)
      · exact .inl h1) with hn | hn
    · clear hlk
      go_enter Try.func83, Try.ntmps83
      go_wp2_with fail
      all_goals go_ret2
      all_goals exact ⟨.nilIface, 50, rfl, ext_set _ _ _ _, ctr_set HC.out _ _, .inr ⟨hmay.out, rfl, rfl⟩⟩
    · clear hlk
      go_enter Try.func83, Try.ntmps83
      go_wp2_with fail
      all_goals go_ret2
      all_goals exact ⟨.nilIface, 50, rfl, ext_set _ _ _ _, ctr_set HC.out _ _, .inr ⟨hmay.out, rfl, rfl⟩⟩
set_option maxRecDepth 100000 in
set_option maxHeartbeats 4000000 in
theorem head2 (hc : Ctr w g c) (hd : d ≤ 6) (hc1 : c < 24) (hc0 : 0 ≤ c) :
   Calls Try.prog 83 #[.agg #[.int .i64 2, .string key, .string val, .slice A len cap], .int .i64 d, .pointer (some ⟨g, 0, none⟩)] w (HeadPost 2 key val len (.iface 124 (.agg #[.string key, .string val])) c g w) := by
  have hg := blk_lt hc
  have b0 : w.cell? ⟨g, 0, none⟩ = some (.int .i64 c) := blk_cell hc 0
  have bf := blk_frozen hc 0
  have HC := Lib.hid hc
  clear hc
  by_cases hn : len = 0
  · subst hn
    obtain ⟨z, hz⟩ : ∃ z, nameE key = z := ⟨_, rfl⟩
    have HZ := Lib.hid hz
    clear hz
    go_enter Try.func83, Try.ntmps83
    go_wp2_with fail
    refine (Name_calls _ key).mono ?_
    rw [HZ.out]
    rintro e w5 ⟨rfl, he⟩
    have HE := Lib.hid he
    have z5x0 : w5.cell? ⟨w.heap.size, 0, none⟩ = some (.int .i64 2) := boxed he (fun h => h) 0
    have z5x1 : w5.cell? ⟨w.heap.size, 1, none⟩ = some (.string key) := boxed he (fun h => h) 1
    have z5x2 : w5.cell? ⟨w.heap.size, 2, none⟩ = some (.string val) := boxed he (fun h => h) 2
    have z5x3 : w5.cell? ⟨w.heap.size, 3, none⟩ = some (.slice A 0 cap) := boxed he (fun h => h) 3
    clear he
    by_cases hz0 : z = 0
    · subst hz0
      obtain ⟨y, hy⟩ : ∃ y, valE val = y := ⟨_, rfl⟩
      have HY := Lib.hid hy
      clear hy
      go_wp2_with fail
      refine (Value_calls _ val).mono ?_
      rw [HY.out]
      rintro e w6 ⟨rfl, he⟩
      have HF := Lib.hid (HE.out.trans0 he)
      have z6x0 : w6.cell? ⟨w.heap.size, 0, none⟩ = some (.int .i64 2) := boxed HF.out (fun h => h) 0
      have z6x1 : w6.cell? ⟨w.heap.size, 1, none⟩ = some (.string key) := boxed HF.out (fun h => h) 1
      have z6x2 : w6.cell? ⟨w.heap.size, 2, none⟩ = some (.string val) := boxed HF.out (fun h => h) 2
      have z6x3 : w6.cell? ⟨w.heap.size, 3, none⟩ = some (.slice A 0 cap) := boxed HF.out (fun h => h) 3
      clear he
      by_cases hy0 : y = 0
      · subst hy0
        have hmay : Hid (mayW 2 key val 0 = true) := by
          show mayW 2 key val 0 = true
          simp [mayW, HZ.out, HY.out]
        go_wp2_with fail
        go_ret2
        exact ⟨_, 0, rfl, (ext_set _ _ _ _).trans0 HF.out, (ctr_set HC.out _ _).ext HF.out (fun h => h), .inl ⟨hmay.out, rfl, rfl⟩⟩
      · have hmay : Hid (mayW 2 key val 0 = false) := by
          show mayW 2 key val 0 = false
          simp [mayW, HZ.out, HY.out, hy0]
        go_wp2_with fail
        all_goals go_ret2
        all_goals exact ⟨.nilIface, 50, rfl, (ext_set _ _ _ _).trans0 HF.out, (ctr_set HC.out _ _).ext HF.out (fun h => h), .inr ⟨hmay.out, rfl, rfl⟩⟩
    · have hmay : Hid (mayW 2 key val 0 = false) := by
        show mayW 2 key val 0 = false
        simp [mayW, HZ.out, hz0]
      go_wp2_with fail
      all_goals go_ret2
      all_goals exact ⟨.nilIface, 50, rfl, (ext_set _ _ _ _).trans0 HE.out, (ctr_set HC.out _ _).ext HE.out (fun h => h), .inr ⟨hmay.out, rfl, rfl⟩⟩
  · have hmay : Hid (mayW 2 key val len = false) := by
      show mayW 2 key val len = false
      simp [mayW, hn]
    go_enter Try.func83, Try.ntmps83
    go_wp2_with fail
    all_goals go_ret2
    all_goals exact ⟨.nilIface, 50, rfl, ext_set _ _ _ _, ctr_set HC.out _ _, .inr ⟨hmay.out, rfl, rfl⟩⟩
end
end Go.Proofs.Ytdjfijdnhfmeeaa

namespace Go.Proofs.Ytdjfijdnhfmeeaa
open Go.RowKit Go.TM
def BuildPost (n : Nat) (f : Flt) (d c : Int) (g : Nat) (w : World) (e : Ending) (w' : World) : Prop :=
  ∃ x err c', e = .returned (.tuple #[x, .int .i64 err]) ∧ Ext (Only g) w w' ∧ Ctr w' g c' ∧ err = (chk (n + 1) f d c).1 ∧
    ((err ≠ 0 ∧ x = .nilIface) ∨ (err = 0 ∧ c' = (chk (n + 1) f d c).2 ∧ (ndK (n + 1)).K w' (fun k => w.heap.size ≤ k) f [x]))
def BuildAt (n : Nat) : Prop := ∀ (f : Flt) (w : World) (ok : Nat → Prop) (v : Value) (d c : Int) (g : Nat), Rd (fltK n) w ok v f.kids → okF (n + 1) f → Ctr w g c →
    ¬ ok g → 1 ≤ d → d ≤ 7 → 0 ≤ c → c ≤ 24 →
    Calls Try.prog 83 #[.agg #[.int .i64 f.op, .string f.key, .string f.val, v], .int .i64 d, .pointer (some ⟨g, 0, none⟩)] w (BuildPost n f d c g w)
def isQ (t : TypeId) : Prop := t = 120 ∨ t = 122 ∨ t = 124 ∨ t = 125 ∨ t = 129 ∨ t = 131 ∨ t = 132
theorem assert_yes {t : TypeId} (h : isQ t) (p : Value) (w : World) : (Instr.typeAssert (.iface t p) 20 91 true).run Try.prog w = .ok (.tuple #[.iface t p, .bool true]) w := by
  rcases h with rfl | rfl | rfl | rfl | rfl | rfl | rfl <;> kernel_rfl
theorem assert_one {t : TypeId} (h : isQ t) (p : Value) (w : World) : (Instr.typeAssert (.iface t p) 20 91 false).run Try.prog w = .ok (.iface t p) w := by
  rcases h with rfl | rfl | rfl | rfl | rfl | rfl | rfl <;> kernel_rfl
theorem nd_iface {n : Nat} {w : World} {ok : Nat → Prop} {f : Flt} {u : Value} (h : (ndK n).K w ok f [u]) : ∃ t p, u = .iface t p ∧ isQ t := by
  cases n with
  | zero => exact h.elim
  | succ n =>
    rcases h with ⟨_, h⟩ | ⟨_, h⟩ | ⟨_, h⟩ | ⟨_, h⟩ | ⟨_, _, _, _, h, _⟩ | ⟨_, _, h, _⟩ | ⟨_, _, h, _⟩ <;> simp only [List.cons.injEq, and_true] at h <;> subst h <;> exact ⟨_, _, rfl, by simp [isQ]⟩
theorem info91 : (Try.prog.info? 91).map (fun i => (i.zero, i.size, i.bytes)) = some (some .nilIface, 1, 16) := by kernel_rfl
theorem infoq (n : Nat) : (Try.prog.info? 91).map (fun i => (i.zero, i.size, i.bytes)) = some (some .nilIface, (ndK n).sz, 16) := by rw [ndK_sz]; exact info91
section
variable {w : World} {A : Option Addr} {len cap : Nat} {d c op : Int} {g : Nat} {key val : ByteArray}
set_option maxRecDepth 100000 in
set_option maxHeartbeats 4000000 in
theorem deep (hc : Ctr w g c) (hd : 6 < d ∨ 24 ≤ c) (hd1 : 1 ≤ d) (hd7 : d ≤ 7) (hc1 : c ≤ 24) (hc0 : 0 ≤ c) :
   Calls Try.prog 83 #[.agg #[.int .i64 op, .string key, .string val, .slice A len cap], .int .i64 d, .pointer (some ⟨g, 0, none⟩)] w (fun e w' => e = .returned (.tuple #[.nilIface, .int .i64 51]) ∧ Ext (Only g) w w' ∧ Ctr w' g (c + 1)) := by
  have hg := blk_lt hc
  have b0 : w.cell? ⟨g, 0, none⟩ = some (.int .i64 c) := blk_cell hc 0
  have bf := blk_frozen hc 0
  have HC := Lib.hid hc
  clear hc
  rcases hd with hd | hd
  all_goals
    go_enter Try.func83, Try.ntmps83
    go_wp2_with fail
    all_goals go_ret2
    all_goals exact ⟨rfl, ext_set _ _ _ _, ctr_set HC.out _ _⟩
end
end Go.Proofs.Ytdjfijdnhfmeeaa

