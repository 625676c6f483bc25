/- FilterLogic: not of not is the filter, not of all is some of the nots; all of none holds always, some of none never: for all filters and events. -/
import Derived.Test.YtooafilbmjnfmaaP1
import Derived.Test.YtooafilbmjnfmaaI
import Derived.Test.YtooafilbmjnfmaaK0
import Derived.Test.YtooafilbmjnfmaaM4
import Derived.Test.YtooafilbmjnfmaaN1
import Derived.Deep.CutBlock
import Derived.Deep.CutRange
namespace Go.Proofs.Ytooafilbmjnfmaa
open Go.RowKit Go.TM
theorem _root_.Go.TM.Ext.drewN {M : Nat → Prop} {a b : World} (h : Ext M a b) (n : Nat) : Ext M a (b.drewN n) := h.trans0 ⟨rfl, rfl, rfl, Nat.le_refl _, fun _ _ _ => rfl⟩
theorem FV.any {n : Nat} {w : World} {ok : Nat → Prop} {x : Value} {f : Flt} (h : FV n w ok x f) : FV n w (fun _ => True) x f := by
  obtain ⟨v, rfl, hr⟩ := h
  exact ⟨v, rfl, hr.mono (fun _ _ => trivial)⟩
/-- What the operations leave that lay filters out, and in which blocks it lives. -/
def SlQ (ok : Nat → Prop) (k m : Nat) (l : List Flt) (v : Value) (W : World) : Prop := ∃ A, v = .slice A k k ∧ Rd (fltK m) W ok (.slice A k k) l
def KdQ (ok : Nat → Prop) (op : Int) (m : Nat) (l : List Flt) (v : Value) (W : World) : Prop := ∃ A k c, v = .agg #[.int .i64 op, .string ⟨#[]⟩, .string ⟨#[]⟩, .slice A k c] ∧ Rd (fltK m) W ok (.slice A k c) l
def PtSp (base : Nat) (v : Value) (W : World) : Prop := ∃ b, v = .pointer (some ⟨b, 0, none⟩) ∧ base ≤ b ∧ W.heap[b]? = some (.cells #[.int .i64 0, .string ⟨#[]⟩, .string ⟨#[]⟩, .slice none 0 0] 24 (0, 0))
def lgQ (ok : Nat → Prop) (n : Nat) (f g : Flt) : Nat → Value → World → Prop
  | 2 => SlQ ok 2 (n + 1) [f, g]
  | 3 => KdQ ok 5 (n + 1) [f, g]
  | 4 => SlQ ok 1 (n + 2) [kindF 5 [f, g]]
  | 5 => KdQ ok 4 (n + 2) [kindF 5 [f, g]]
  | 7 => SlQ ok 1 (n + 1) [f]
  | 8 => KdQ ok 4 (n + 1) [f]
  | 10 => SlQ ok 1 (n + 1) [g]
  | 11 => KdQ ok 4 (n + 1) [g]
  | 12 => SlQ ok 2 (n + 2) [kindF 4 [f], kindF 4 [g]]
  | 13 => KdQ ok 6 (n + 2) [kindF 4 [f], kindF 4 [g]]
  | _ => fun _ _ => True
def lgSp (n base : Nat) (f g : Flt) : Nat → Value → World → Prop
  | 14 => PtSp base
  | 15 => PtSp base
  | j => lgQ (fun _ => True) n f g j
theorem SlQ.ext0 {ok : Nat → Prop} {k m : Nat} {l : List Flt} {v : Value} {W W' : World} (h : SlQ ok k m l v W) (he : Ext Non W W') : SlQ ok k m l v W' := by
  obtain ⟨A, h1, h2⟩ := h
  exact ⟨A, h1, h2.ext0 he⟩
theorem KdQ.ext0 {ok : Nat → Prop} {op : Int} {m : Nat} {l : List Flt} {v : Value} {W W' : World} (h : KdQ ok op m l v W) (he : Ext Non W W') : KdQ ok op m l v W' := by
  obtain ⟨A, k, c, h1, h2⟩ := h
  exact ⟨A, k, c, h1, h2.ext0 he⟩
theorem SlQ.lt {ok ok' : Nat → Prop} {k m : Nat} {l : List Flt} {v : Value} {W : World} (h : SlQ ok k m l v W) (hk : ∀ i, ok i → i < W.heap.size → ok' i) : SlQ ok' k m l v W := by
  obtain ⟨A, h1, h2⟩ := h
  exact ⟨A, h1, h2.bound.mono (fun i hi => hk i hi.1 hi.2)⟩
theorem KdQ.lt {ok ok' : Nat → Prop} {op : Int} {m : Nat} {l : List Flt} {v : Value} {W : World} (h : KdQ ok op m l v W) (hk : ∀ i, ok i → i < W.heap.size → ok' i) : KdQ ok' op m l v W := by
  obtain ⟨A, k, c, h1, h2⟩ := h
  exact ⟨A, k, c, h1, h2.bound.mono (fun i hi => hk i hi.1 hi.2)⟩
theorem SlQ.rd {ok : Nat → Prop} {k m : Nat} {l : List Flt} {A : Option Addr} {v : Value} {W : World} (h : SlQ ok k m l v W) (e : v = .slice A k k) : Rd (fltK m) W ok (.slice A k k) l := by
  obtain ⟨A', h1, h2⟩ := h
  rw [e] at h1
  simp only [Value.slice.injEq, and_true] at h1
  rw [h1]
  exact h2
theorem KdQ.rd {ok : Nat → Prop} {op : Int} {m : Nat} {l : List Flt} {A : Option Addr} {k c : Nat} {v : Value} {W : World} (h : KdQ ok op m l v W) (e : v = .agg #[.int .i64 op, .string ⟨#[]⟩, .string ⟨#[]⟩, .slice A k c]) : Rd (fltK m) W ok (.slice A k c) l := by
  obtain ⟨A', k', c', h1, h2⟩ := h
  rw [e] at h1
  simp at h1
  obtain ⟨rfl, rfl, rfl⟩ := h1
  exact h2
theorem PtSp.ext0 {base : Nat} {v : Value} {W W' : World} (h : PtSp base v W) (he : Ext Non W W') : PtSp base v W' := by
  obtain ⟨b, h1, h2, h3⟩ := h
  exact ⟨b, h1, h2, he.obj h3 (fun e => e)⟩
theorem lgQ_ext0 {ok : Nat → Prop} {n : Nat} {f g : Flt} {j : Nat} {v : Value} {w w' : World} (h : lgQ ok n f g j v w) (he : Ext Non w w') : lgQ ok n f g j v w' := by
  unfold lgQ at h ⊢
  split at h <;> first | exact SlQ.ext0 h he | exact KdQ.ext0 h he | exact h
theorem lgQ_lt {ok ok' : Nat → Prop} {n : Nat} {f g : Flt} {j : Nat} {v : Value} {w : World} (h : lgQ ok n f g j v w) (hk : ∀ i, ok i → i < w.heap.size → ok' i) : lgQ ok' n f g j v w := by
  unfold lgQ at h ⊢
  split at h <;> first | exact SlQ.lt h hk | exact KdQ.lt h hk | exact h
theorem lgSp_mono (n base : Nat) (f g : Flt) : ∀ j v w w', Ext Non w w' → lgSp n base f g j v w → lgSp n base f g j v w' := by
  intro j v w w' he h
  unfold lgSp at h ⊢
  split at h <;> first | exact PtSp.ext0 h he | exact lgQ_ext0 h he
def lgPr (n : Nat) (f g : Flt) (i j : Nat) (u v : Value) (W : World) : Prop := ((i = 14 ∨ i = 15) → (j = 14 ∨ j = 15) → u ≠ v) ∧ ∀ b, (j = 14 ∨ j = 15) → v = .pointer (some ⟨b, 0, none⟩) → lgQ (fun k => k ≠ b) n f g i u W
theorem lgPr_mono (n : Nat) (f g : Flt) : ∀ i j u v w w', Ext Non w w' → lgPr n f g i j u v w → lgPr n f g i j u v w' := fun _ _ _ _ _ _ he h => ⟨h.1, fun b hj hv => lgQ_ext0 (h.2 b hj hv) he⟩
theorem lg_pt {n base : Nat} {f g : Flt} {q : Nat} {W : World} {u : Value} (hq : q = 14 ∨ q = 15) (h : lgSp n base f g q u W) : PtSp base u W := by rcases hq with e' | e' <;> rw [e'] at h <;> exact h
theorem lgPr_step {n base : Nat} {f g : Flt} {i : Nat} (hi : i ≠ 14 ∧ i ≠ 15) {q : Nat} {u v : Value} {W W' : World} (hq : lgSp n base f g q u W)
    (hF : ∀ b, (q = 14 ∨ q = 15) → u = .pointer (some ⟨b, 0, none⟩) → base ≤ b → b < W.heap.size → lgQ (fun k => k ≠ b) n f g i v W') : lgPr n f g i q v u W' ∧ lgPr n f g q i u v W' := by
  refine ⟨⟨fun h1 _ => by omega, fun b hj hv => ?_⟩, ⟨fun _ h1 => by omega, fun _ h1 => by omega⟩⟩
  obtain ⟨b', h1, h2, h3⟩ := lg_pt hj hq
  rw [hv] at h1
  simp only [Value.pointer.injEq, Option.some.injEq, Addr.mk.injEq, and_true] at h1
  subst h1
  exact hF b hj hv h2 (blk_lt h3)
theorem lgPr_new {n base : Nat} {f g : Flt} {i : Nat} (hi : i = 14 ∨ i = 15) {q : Nat} {W W' : World} {u : Value} (he : Ext Non W W') (h : lgSp n base f g q u W) : lgPr n f g i q (.pointer (some ⟨W.heap.size, 0, none⟩)) u W' ∧ lgPr n f g q i u (.pointer (some ⟨W.heap.size, 0, none⟩)) W' := by
  have key : (q = 14 ∨ q = 15) → u ≠ .pointer (some ⟨W.heap.size, 0, none⟩) := fun hq e => by
    obtain ⟨b, h1, h2, h3⟩ := lg_pt hq h
    rw [h1] at e
    have := blk_lt h3
    simp only [Value.pointer.injEq, Option.some.injEq, Addr.mk.injEq, and_true] at e
    omega
  refine ⟨⟨fun _ hq e => key hq e.symm, fun b _ _ => ?_⟩, ⟨fun hq _ e => key hq e, fun b _ hb => ?_⟩⟩
  · rcases hi with rfl | rfl <;> exact trivial
  · simp only [Value.pointer.injEq, Option.some.injEq, Addr.mk.injEq, and_true] at hb
    subst hb
    by_cases hq : q = 14 ∨ q = 15
    · rcases hq with rfl | rfl <;> exact trivial
    · have hs : lgQ (fun _ => True) n f g q u W := by
        unfold lgSp at h
        split at h
        · exact absurd (.inl rfl) hq
        · exact absurd (.inr rfl) hq
        · exact h
      exact lgQ_ext0 (lgQ_lt hs (fun k _ hk => by omega)) he
/-- The boxes of the two filters and of the event. -/
structure LgB (W : World) (q1 q2 q3 : Nat) (c1 c2 c3 : Array Value) : Prop where
  f : W.heap[q1]? = some (.cells c1 24 (0, 0))
  g : W.heap[q2]? = some (.cells c2 24 (0, 0))
  e : W.heap[q3]? = some (.cells c3 42 (0, 0))
theorem LgB.ext0 {W W' : World} {q1 q2 q3 : Nat} {c1 c2 c3 : Array Value} (h : LgB W q1 q2 q3 c1 c2 c3) (he : Ext Non W W') : LgB W' q1 q2 q3 c1 c2 c3 := ⟨he.obj h.f (fun e => e), he.obj h.g (fun e => e), he.obj h.e (fun e => e)⟩
theorem lgS7 {W : World} {q1 q2 q3 p3 p4 : Nat} {a0 a1 a2 a3 b0 b1 b2 b3 e0 e1 e2 e3 e4 e5 t0 t1 t2 t3 s0 s1 s2 s3 : Value} (h : LgB W q1 q2 q3 #[a0, a1, a2, a3] #[b0, b1, b2, b3] #[e0, e1, e2, e3, e4, e5]) (k : W.heap[p3]? = some (.cells #[t0, t1, t2, t3] 24 (0, 0))) (kk : W.heap[p4]? = some (.cells #[s0, s1, s2, s3] 24 (0, 0))) :
    W.cell? ⟨q1, 0, none⟩ = some a0 ∧ W.cell? ⟨q1, 1, none⟩ = some a1 ∧ W.cell? ⟨q1, 2, none⟩ = some a2 ∧ W.cell? ⟨q1, 3, none⟩ = some a3 ∧ W.cell? ⟨q2, 0, none⟩ = some b0 ∧ W.cell? ⟨q2, 1, none⟩ = some b1 ∧ W.cell? ⟨q2, 2, none⟩ = some b2 ∧ W.cell? ⟨q2, 3, none⟩ = some b3 ∧ W.cell? ⟨q3, 0, none⟩ = some e0 ∧ W.cell? ⟨q3, 1, none⟩ = some e1 ∧ W.cell? ⟨q3, 2, none⟩ = some e2 ∧ W.cell? ⟨q3, 3, none⟩ = some e3 ∧ W.cell? ⟨q3, 4, none⟩ = some e4 ∧ W.cell? ⟨q3, 5, none⟩ = some e5 ∧ W.cell? ⟨p3, 0, none⟩ = some t0 ∧ W.cell? ⟨p3, 1, none⟩ = some t1 ∧ W.cell? ⟨p3, 2, none⟩ = some t2 ∧ W.cell? ⟨p3, 3, none⟩ = some t3 ∧ W.cell? ⟨p4, 0, none⟩ = some s0 ∧ W.cell? ⟨p4, 1, none⟩ = some s1 ∧ W.cell? ⟨p4, 2, none⟩ = some s2 ∧ W.cell? ⟨p4, 3, none⟩ = some s3 :=
  ⟨blk_cell h.f 0, blk_cell h.f 1, blk_cell h.f 2, blk_cell h.f 3, blk_cell h.g 0, blk_cell h.g 1, blk_cell h.g 2, blk_cell h.g 3, blk_cell h.e 0, blk_cell h.e 1, blk_cell h.e 2, blk_cell h.e 3, blk_cell h.e 4, blk_cell h.e 5, blk_cell k 0, blk_cell k 1, blk_cell k 2, blk_cell k 3, blk_cell kk 0, blk_cell kk 1, blk_cell kk 2, blk_cell kk 3⟩
theorem lgS6 {W : World} {q1 q2 q3 p3 : Nat} {a0 a1 a2 a3 b0 b1 b2 b3 e0 e1 e2 e3 e4 e5 t0 t1 t2 t3 : Value} (h : LgB W q1 q2 q3 #[a0, a1, a2, a3] #[b0, b1, b2, b3] #[e0, e1, e2, e3, e4, e5]) (k : W.heap[p3]? = some (.cells #[t0, t1, t2, t3] 24 (0, 0))) :
    W.cell? ⟨q1, 0, none⟩ = some a0 ∧ W.cell? ⟨q1, 1, none⟩ = some a1 ∧ W.cell? ⟨q1, 2, none⟩ = some a2 ∧ W.cell? ⟨q1, 3, none⟩ = some a3 ∧ W.cell? ⟨q2, 0, none⟩ = some b0 ∧ W.cell? ⟨q2, 1, none⟩ = some b1 ∧ W.cell? ⟨q2, 2, none⟩ = some b2 ∧ W.cell? ⟨q2, 3, none⟩ = some b3 ∧ W.cell? ⟨q3, 0, none⟩ = some e0 ∧ W.cell? ⟨q3, 1, none⟩ = some e1 ∧ W.cell? ⟨q3, 2, none⟩ = some e2 ∧ W.cell? ⟨q3, 3, none⟩ = some e3 ∧ W.cell? ⟨q3, 4, none⟩ = some e4 ∧ W.cell? ⟨q3, 5, none⟩ = some e5 ∧ W.cell? ⟨p3, 0, none⟩ = some t0 ∧ W.cell? ⟨p3, 1, none⟩ = some t1 ∧ W.cell? ⟨p3, 2, none⟩ = some t2 ∧ W.cell? ⟨p3, 3, none⟩ = some t3 :=
  ⟨blk_cell h.f 0, blk_cell h.f 1, blk_cell h.f 2, blk_cell h.f 3, blk_cell h.g 0, blk_cell h.g 1, blk_cell h.g 2, blk_cell h.g 3, blk_cell h.e 0, blk_cell h.e 1, blk_cell h.e 2, blk_cell h.e 3, blk_cell h.e 4, blk_cell h.e 5, blk_cell k 0, blk_cell k 1, blk_cell k 2, blk_cell k 3⟩
theorem lgS {W : World} {q1 q2 q3 : Nat} {a0 a1 a2 a3 b0 b1 b2 b3 e0 e1 e2 e3 e4 e5 : Value} (h : LgB W q1 q2 q3 #[a0, a1, a2, a3] #[b0, b1, b2, b3] #[e0, e1, e2, e3, e4, e5]) :
    W.cell? ⟨q1, 0, none⟩ = some a0 ∧ W.cell? ⟨q1, 1, none⟩ = some a1 ∧ W.cell? ⟨q1, 2, none⟩ = some a2 ∧ W.cell? ⟨q1, 3, none⟩ = some a3 ∧ W.cell? ⟨q2, 0, none⟩ = some b0 ∧ W.cell? ⟨q2, 1, none⟩ = some b1 ∧ W.cell? ⟨q2, 2, none⟩ = some b2 ∧ W.cell? ⟨q2, 3, none⟩ = some b3 ∧ W.cell? ⟨q3, 0, none⟩ = some e0 ∧ W.cell? ⟨q3, 1, none⟩ = some e1 ∧ W.cell? ⟨q3, 2, none⟩ = some e2 ∧ W.cell? ⟨q3, 3, none⟩ = some e3 ∧ W.cell? ⟨q3, 4, none⟩ = some e4 ∧ W.cell? ⟨q3, 5, none⟩ = some e5 :=
  ⟨blk_cell h.f 0, blk_cell h.f 1, blk_cell h.f 2, blk_cell h.f 3, blk_cell h.g 0, blk_cell h.g 1, blk_cell h.g 2, blk_cell h.g 3, blk_cell h.e 0, blk_cell h.e 1, blk_cell h.e 2, blk_cell h.e 3, blk_cell h.e 4, blk_cell h.e 5⟩
set_option maxRecDepth 100000 in
set_option maxHeartbeats 32000000 in
theorem logic_calls {n0 n1 : Nat} {f g : Flt} {e : Ev} {w : World} {okf okg : Nat → Prop} {x y : Value} (hx0 : FV n0 w okf x f) (hok0 : okF (n0 + 1) f) (hy0 : FV n1 w okg y g) (hog0 : okF (n1 + 1) g) (heo : e.ok) :
    Calls Try.prog 5 #[x, y, evV e] w fun e w' => e = .returned (.bool true) ∧ Ext Non w w' := by
  obtain ⟨n, hn⟩ : ∃ n, max n0 n1 = n := ⟨_, rfl⟩
  have hx : FV n w (fun _ => True) x f := (hx0.up (by omega)).any
  have hy : FV n w (fun _ => True) y g := (hy0.up (by omega)).any
  have HOF : Hid (okF (n + 1) f) := okF_le (by omega) hok0
  have HOG : Hid (okF (n + 1) g) := okF_le (by omega) hog0
  have HEO := Lib.hid heo
  clear hx0 hy0 hok0 hog0 hn heo
  have HX := Lib.hid hx
  have HY := Lib.hid hy
  obtain ⟨v, rfl, hr⟩ := hx
  obtain ⟨op, key, val, kids⟩ := f
  obtain ⟨A, m, c, rfl, -⟩ := rd_abs hr
  obtain ⟨v', rfl, hr'⟩ := hy
  obtain ⟨op', key', val', kids'⟩ := g
  obtain ⟨A', m', c', rfl, -⟩ := rd_abs hr'
  have RF0 : Hid (Rd (fltK n) w (fun _ => True) (.slice A m c) kids) := hr
  have RG0 : Hid (Rd (fltK n) w (fun _ => True) (.slice A' m' c') kids') := hr'
  clear hr hr'
  dsimp only [Flt.op, Flt.key, Flt.val] at HX HY ⊢
  show Calls Try.prog 5 #[.agg #[.int .i64 op, .string key, .string val, .slice A m c], .agg #[.int .i64 op', .string key', .string val', .slice A' m' c'], .agg #[.int .i64 e.pos, .string e.key, .bool e.had, .string e.old, .bool e.has, .string e.now]] w _
  obtain ⟨b1, hb1⟩ : ∃ b, lightF (n + 1) (.mk op key val kids) = b := ⟨_, rfl⟩
  obtain ⟨b2, hb2⟩ : ∃ b, lightF (n + 1) (.mk op' key' val' kids') = b := ⟨_, rfl⟩
  have HB1 := Lib.hid hb1
  have HB2 := Lib.hid hb2
  clear hb1 hb2
  obtain ⟨q1, hq1⟩ : ∃ q, w.heap.size = q := ⟨_, rfl⟩
  obtain ⟨w1, hw1⟩ : ∃ w1, w.alloc (.cells #[.int .i64 op, .string key, .string val, .slice A m c] 24) = w1 := ⟨_, rfl⟩
  obtain ⟨q2, hq2⟩ : ∃ q, w1.heap.size = q := ⟨_, rfl⟩
  obtain ⟨w2, hw2⟩ : ∃ w2, w1.alloc (.cells #[.int .i64 op', .string key', .string val', .slice A' m' c'] 24) = w2 := ⟨_, rfl⟩
  obtain ⟨q3, hq3⟩ : ∃ q, w2.heap.size = q := ⟨_, rfl⟩
  obtain ⟨w3, hw3⟩ : ∃ w3, w2.alloc (.cells #[.int .i64 e.pos, .string e.key, .bool e.had, .string e.old, .bool e.has, .string e.now] 42) = w3 := ⟨_, rfl⟩
  have X1 : Ext Non w w1 := by rw [← hw1]; exact (Ext.refl _ _).alloc _
  have X2 : Ext Non w1 w2 := by rw [← hw2]; exact (Ext.refl _ _).alloc _
  have X3 : Ext Non w2 w3 := by rw [← hw3]; exact (Ext.refl _ _).alloc _
  have K1 : w1.heap[q1]? = some (.cells #[.int .i64 op, .string key, .string val, .slice A m c] 24 (0, 0)) := by rw [← hw1, ← hq1]; exact blk_new w _
  have K2 : w2.heap[q2]? = some (.cells #[.int .i64 op', .string key', .string val', .slice A' m' c'] 24 (0, 0)) := by rw [← hw2, ← hq2]; exact blk_new w1 _
  have K3 : w3.heap[q3]? = some (.cells #[.int .i64 e.pos, .string e.key, .bool e.had, .string e.old, .bool e.has, .string e.now] 42 (0, 0)) := by rw [← hw3, ← hq3]; exact blk_new w2 _
  have B3 : Hid (LgB w3 q1 q2 q3 #[.int .i64 op, .string key, .string val, .slice A m c] #[.int .i64 op', .string key', .string val', .slice A' m' c'] #[.int .i64 e.pos, .string e.key, .bool e.had, .string e.old, .bool e.has, .string e.now]) := ⟨X3.obj (X2.obj K1 (fun e => e)) (fun e => e), X3.obj K2 (fun e => e), K3⟩
  have EW : Hid (Ext Non w w3) := (X1.trans0 X2).trans0 X3
  have VF : Hid (FV n w3 (fun _ => True) (.agg #[.int .i64 op, .string key, .string val, .slice A m c]) (.mk op key val kids)) := HX.out.ext0 EW.out
  have VG : Hid (FV n w3 (fun _ => True) (.agg #[.int .i64 op', .string key', .string val', .slice A' m' c']) (.mk op' key' val' kids')) := HY.out.ext0 EW.out
  have RF : Hid (Rd (fltK n) w3 (fun _ => True) (.slice A m c) kids) := RF0.out.ext0 EW.out
  have RG : Hid (Rd (fltK n) w3 (fun _ => True) (.slice A' m' c') kids') := RG0.out.ext0 EW.out
  have AWW : Hid (∀ W, Ext Non w3 W → (Calls Try.prog 16 #[] W fun e w' => e = .returned (.bool true) ∧ Ext Non w w')) := fun W h => (awake_calls W).mono (fun _ _ hh => ⟨hh.1, (EW.out.trans0 h).trans0 hh.2⟩)
  clear X1 X2 X3 K1 K2 K3 HX HY RF0 RG0
  obtain ⟨a0, a1, a2, a3, b0, b1', b2', b3, e0, e1, e2, e3, e4, e5⟩ := lgS B3.out
  go_enter Try.func5, Try.ntmps5
  go_wp2_with fail
  refine (light_calls VF.out HOF.out).mono ?_
  rw [HB1.out]
  rintro e' w4 ⟨rfl, he⟩
  have Ew4 : Hid (Ext Non w3 w4) := he
  have Bw4 := Lib.hid (B3.out.ext0 he)
  clear he hw1 hw2 hw3 hq1 hq2 hq3 a0 a1 a2 a3 b0 b1' b2' b3 e0 e1 e2 e3 e4 e5
  cases b1 with
  | false =>
    go_wp2_with fail
    refine (AWW.out _ Ew4.out).mono ?_
    rintro e' wz ⟨rfl, he⟩
    have EZ := Lib.hid he
    clear he
    go_wp2_with fail
    go_ret
    exact ⟨rfl, EZ.out⟩
  | true =>
    obtain ⟨a0, a1, a2, a3, b0, b1, b2', b3, e0, e1, e2, e3, e4, e5⟩ := lgS Bw4.out
    go_wp2_with fail
    refine (light_calls (VG.out.ext0 Ew4.out) HOG.out).mono ?_
    rw [HB2.out]
    rintro e' w5 ⟨rfl, he⟩
    have Ew5 : Hid (Ext Non w3 w5) := Ew4.out.trans0 he
    have Bw5 := Lib.hid (Bw4.out.ext0 he)
    clear he a0 a1 a2 a3 b0 b1 b2' b3 e0 e1 e2 e3 e4 e5
    cases b2 with
    | false =>
      go_wp2_with fail
      refine (AWW.out _ Ew5.out).mono ?_
      rintro e' wz ⟨rfl, he⟩
      have EZ := Lib.hid he
      clear he
      go_wp2_with fail
      go_ret
      exact ⟨rfl, EZ.out⟩
    | true =>
      obtain ⟨a0, a1, a2, a3, b0, b1, b2, b3, e0, e1, e2, e3, e4, e5⟩ := lgS Bw5.out
      go_wp2_with fail
      refine (few_calls (ok := fun _ => True) (l := [e]) (Rd.lit_at (cs := e.cells) (blk_new w5 _) rfl trivial) (by simpa using HEO.out)).mono ?_
      rintro e' w6 ⟨b3', rfl, he, hfw⟩
      have Ew6 : Hid (Ext Non w3 w6) := (Ew5.out.alloc _).trans0 he
      have Bw6 := Lib.hid (B3.out.ext0 Ew6.out)
      have HFW := Lib.hid hfw
      clear he hfw a0 a1 a2 a3 b0 b1 b2 b3 e0 e1 e2 e3 e4 e5
      cases b3' with
      | false =>
        go_wp2_with fail
        refine (AWW.out _ Ew6.out).mono ?_
        rintro e' wz ⟨rfl, he⟩
        have EZ := Lib.hid he
        clear he
        go_wp2_with fail
        go_ret
        exact ⟨rfl, EZ.out⟩
      | true =>
        have HES : Hid (e.now.size ≤ 1000000) := by have := ((HFW.out rfl).2 e (by simp)).2.2; show _ ≤ _; omega
        have HLF : Hid (okL (n + 1) (.mk op key val kids)) := light_ok HOF.out HB1.out
        have HLG : Hid (okL (n + 1) (.mk op' key' val' kids')) := light_ok HOG.out HB2.out
        clear HFW
        go_wp2_with fail
        refine Last.start_ (S := fun W => W.cell? ⟨q1, 0, none⟩ = some (.int .i64 op) ∧ W.cell? ⟨q1, 1, none⟩ = some (.string key) ∧ W.cell? ⟨q1, 2, none⟩ = some (.string val) ∧ W.cell? ⟨q1, 3, none⟩ = some (.slice A m c) ∧ W.cell? ⟨q2, 0, none⟩ = some (.int .i64 op') ∧ W.cell? ⟨q2, 1, none⟩ = some (.string key') ∧ W.cell? ⟨q2, 2, none⟩ = some (.string val') ∧ W.cell? ⟨q2, 3, none⟩ = some (.slice A' m' c') ∧ W.cell? ⟨q3, 0, none⟩ = some (.int .i64 e.pos) ∧ W.cell? ⟨q3, 1, none⟩ = some (.string e.key) ∧ W.cell? ⟨q3, 2, none⟩ = some (.bool e.had) ∧ W.cell? ⟨q3, 3, none⟩ = some (.string e.old) ∧ W.cell? ⟨q3, 4, none⟩ = some (.bool e.has) ∧ W.cell? ⟨q3, 5, none⟩ = some (.string e.now)) (ds := []) #[false, false, false, false, false, false, false, false, false] (by kernel_rfl) (by rfl) (by rfl) (lgS (Bw6.out.ext0 (Ext.refl Non w6).drew)) (fun hS => ?_)
        refine Last.take_ (i := 1) (N := some 26) (v := .agg #[.int .i64 e.pos, .string e.key, .bool e.had, .string e.old, .bool e.has, .string e.now]) #[false, true, false, false, false, false, false, false, false] (by simp only [List.getElem?_toArray, List.getElem?_cons_zero, List.getElem?_cons_succ]; rfl) rfl (by kernel_rfl) (by exact fun _ _ _ h => h) (Or.inl ⟨by rfl, fun W hW => by first | rfl | (try dsimp only at hW); go_simp⟩) hS rfl ?_
        simp only [Act.put, List.setIfInBounds_toArray, List.set_cons_zero, List.set_cons_succ]
        refine Last.one_ (i := 0) (N := some 25) #[true, true, false, false, false, false, false, false, false] (by simp only [List.getElem?_toArray, List.getElem?_cons_zero]; rfl) rfl (by kernel_rfl) (by decide) (fun K hK => ?_)
        refine Last.goes_ Try.func25 (by kernel_rfl) rfl #[.int .i64 5, .slice none 0 0] (by rfl) rfl rfl (by simp [Act.eval]) ?_
        refine (kind_calls _ 5 none 0 0).mono ?_
        rintro e' w7 ⟨rfl, he⟩
        have X7 : Hid (Ext Non w6 w7) := (Ext.refl Non w6).drew.trans0 he
        clear he
        refine ⟨_, rfl, ?_⟩
        refine hK.out _ _ (lgS (Bw6.out.ext0 X7.out)) (fun hS => ?_)
        try simp only [Act.put, List.setIfInBounds_toArray, List.set_cons_zero, List.set_cons_succ]
        refine Last.one_ (i := 2) (N := some 27) #[true, true, true, false, false, false, false, false, false] (by simp only [List.getElem?_toArray, List.getElem?_cons_zero, List.getElem?_cons_succ]; rfl) rfl (by kernel_rfl) (by decide) (fun K hK => ?_)
        refine Last.goes_ Try.func24 (by kernel_rfl) rfl #[.agg #[.int .i64 5, .string ⟨#[]⟩, .string ⟨#[]⟩, .slice none 0 0], .agg #[.int .i64 e.pos, .string e.key, .bool e.had, .string e.old, .bool e.has, .string e.now]] (by rfl) rfl rfl (by simp [Act.eval]) ?_
        refine (Holds_calls (fp := fieldF) (n := 0) (e := e) (f := kindF 5 []) (ok := fun _ => True) (kind_fv (Rd.nil _ _ _)) (kindF_okF (inI_lit 5 (by omega)) (by simp) (fun k hk => by cases hk)) (.inr Field_calls) HES.out).mono ?_
        rw [all_none]
        rintro e' w8 ⟨rfl, he⟩
        have X8 : Hid (Ext Non w6 w8) := X7.out.trans0 he
        clear he
        refine ⟨_, rfl, ?_⟩
        refine hK.out _ _ (lgS (Bw6.out.ext0 X8.out)) (fun hS => ?_)
        try simp only [Act.put, List.setIfInBounds_toArray, List.set_cons_zero, List.set_cons_succ]
        refine Last.take_ (i := 3) (N := some 28) (v := .bool false) #[true, true, true, true, false, false, false, false, false] (by simp only [List.getElem?_toArray, List.getElem?_cons_zero, List.getElem?_cons_succ]; rfl) rfl (by kernel_rfl) (by exact fun _ _ _ h => h) (Or.inl ⟨by rfl, fun W hW => by first | rfl | (try dsimp only at hW); go_simp⟩) hS rfl ?_
        simp only [Act.put, List.setIfInBounds_toArray, List.set_cons_zero, List.set_cons_succ]
        refine Last.take_ (i := 4) (N := some 29) (v := .bool false) #[true, true, true, true, true, false, false, false, false] (by simp only [List.getElem?_toArray, List.getElem?_cons_zero, List.getElem?_cons_succ]; rfl) rfl (by kernel_rfl) (by exact fun _ _ _ h => h) (Or.inl ⟨by rfl, fun W hW => by first | rfl | (try dsimp only at hW); go_simp⟩) hS rfl ?_
        simp only [Act.put, List.setIfInBounds_toArray, List.set_cons_zero, List.set_cons_succ]
        refine Last.take_ (i := 6) (N := some 31) (v := .agg #[.int .i64 e.pos, .string e.key, .bool e.had, .string e.old, .bool e.has, .string e.now]) #[true, true, true, true, true, false, true, false, false] (by simp only [List.getElem?_toArray, List.getElem?_cons_zero, List.getElem?_cons_succ]; rfl) rfl (by kernel_rfl) (by exact fun _ _ _ h => h) (Or.inl ⟨by rfl, fun W hW => by first | rfl | (try dsimp only at hW); go_simp⟩) hS rfl ?_
        simp only [Act.put, List.setIfInBounds_toArray, List.set_cons_zero, List.set_cons_succ]
        refine Last.one_ (i := 5) (N := some 30) #[true, true, true, true, true, true, true, false, false] (by simp only [List.getElem?_toArray, List.getElem?_cons_zero, List.getElem?_cons_succ]; rfl) rfl (by kernel_rfl) (by decide) (fun K hK => ?_)
        refine Last.goes_ Try.func25 (by kernel_rfl) rfl #[.int .i64 6, .slice none 0 0] (by rfl) rfl rfl (by simp [Act.eval]) ?_
        refine (kind_calls _ 6 none 0 0).mono ?_
        rintro e' w9 ⟨rfl, he⟩
        have X9 : Hid (Ext Non w6 w9) := X8.out.trans0 he
        clear he
        refine ⟨_, rfl, ?_⟩
        refine hK.out _ _ (lgS (Bw6.out.ext0 X9.out)) (fun hS => ?_)
        try simp only [Act.put, List.setIfInBounds_toArray, List.set_cons_zero, List.set_cons_succ]
        refine Last.one_ (i := 7) (N := some 32) #[true, true, true, true, true, true, true, true, false] (by simp only [List.getElem?_toArray, List.getElem?_cons_zero, List.getElem?_cons_succ]; rfl) rfl (by kernel_rfl) (by decide) (fun K hK => ?_)
        refine Last.goes_ Try.func24 (by kernel_rfl) rfl #[.agg #[.int .i64 6, .string ⟨#[]⟩, .string ⟨#[]⟩, .slice none 0 0], .agg #[.int .i64 e.pos, .string e.key, .bool e.had, .string e.old, .bool e.has, .string e.now]] (by rfl) rfl rfl (by simp [Act.eval]) ?_
        refine (Holds_calls (fp := fieldF) (n := 0) (e := e) (f := kindF 6 []) (ok := fun _ => True) (kind_fv (Rd.nil _ _ _)) (kindF_okF (inI_lit 6 (by omega)) (by simp) (fun k hk => by cases hk)) (.inr Field_calls) HES.out).mono ?_
        rw [some_none]
        rintro e' w10 ⟨rfl, he⟩
        have X10 : Hid (Ext Non w6 w10) := X9.out.trans0 he
        clear he
        refine ⟨_, rfl, ?_⟩
        refine hK.out _ _ (lgS (Bw6.out.ext0 X10.out)) (fun hS => ?_)
        try simp only [Act.put, List.setIfInBounds_toArray, List.set_cons_zero, List.set_cons_succ]
        refine Last.take_ (i := 8) (N := some 33) (v := .bool false) #[true, true, true, true, true, true, true, true, true] (by simp only [List.getElem?_toArray, List.getElem?_cons_zero, List.getElem?_cons_succ]; rfl) rfl (by kernel_rfl) (by exact fun _ _ _ h => h) (Or.inl ⟨by rfl, fun W hW => by first | rfl | (try dsimp only at hW); go_simp⟩) hS rfl ?_
        simp only [Act.put, List.setIfInBounds_toArray, List.set_cons_zero, List.set_cons_succ]
        refine Last.done_ (by kernel_rfl) ?_
        have Ew10 : Hid (Ext Non w3 w10) := Ew6.out.trans0 X10.out
        have Bw10 := Lib.hid (B3.out.ext0 Ew10.out)
        clear hS X7 X8 X9 X10
        obtain ⟨a0, a1, a2, a3, b0, b1, b2, b3, e0, e1, e2, e3, e4, e5⟩ := lgS Bw10.out
        obtain ⟨p1, hp1⟩ : ∃ p, w10.heap.size = p := ⟨_, rfl⟩
        obtain ⟨w11, hw11⟩ : ∃ W, w10.alloc (.cells #[.int .i64 op, .string key, .string val, .slice A m c] 24) = W := ⟨_, rfl⟩
        have X11 : Ext Non w10 w11 := by rw [← hw11]; exact (Ext.refl _ _).alloc _
        have K11 : Hid (w11.heap[p1]? = some (.cells #[.int .i64 op, .string key, .string val, .slice A m c] 24 (0, 0))) := by rw [← hw11, ← hp1]; exact blk_new w10 _
        have Ew11 : Hid (Ext Non w3 w11) := Ew10.out.trans0 X11
        clear X11
        go_wp2_with fail
        refine (kind_calls _ 4 (some ⟨p1, 0, none⟩) 1 1).mono ?_
        rintro e' w12 ⟨rfl, he⟩
        have Ew12 : Hid (Ext Non w3 w12) := Ew11.out.trans0 he
        have R12 : Hid (Rd (fltK (n + 1)) w12 (fun _ => True) (.slice (some ⟨p1, 0, none⟩) 1 1) [.mk op key val kids]) := one_kid (he.obj K11.out (fun e => e)) trivial (RF.out.ext0 Ew12.out)
        clear he hw11 hp1 K11 Ew11 a0 a1 a2 a3 b0 b1 b2 b3 e0 e1 e2 e3 e4 e5
        obtain ⟨p2, hp2⟩ : ∃ p, w12.heap.size = p := ⟨_, rfl⟩
        obtain ⟨w13, hw13⟩ : ∃ W, w12.alloc (.cells #[.int .i64 4, .string ⟨#[]⟩, .string ⟨#[]⟩, .slice (some ⟨p1, 0, none⟩) 1 1] 24) = W := ⟨_, rfl⟩
        have X13 : Ext Non w12 w13 := by rw [← hw13]; exact (Ext.refl _ _).alloc _
        have K13 : Hid (w13.heap[p2]? = some (.cells #[.int .i64 4, .string ⟨#[]⟩, .string ⟨#[]⟩, .slice (some ⟨p1, 0, none⟩) 1 1] 24 (0, 0))) := by rw [← hw13, ← hp2]; exact blk_new w12 _
        have Ew13 : Hid (Ext Non w3 w13) := Ew12.out.trans0 X13
        have R13 : Hid (Rd (fltK (n + 1)) w13 (fun _ => True) (.slice (some ⟨p1, 0, none⟩) 1 1) [.mk op key val kids]) := R12.out.ext0 X13
        clear X13
        go_wp2_with fail
        refine (kind_calls _ 4 (some ⟨p2, 0, none⟩) 1 1).mono ?_
        rintro e' w14 ⟨rfl, he⟩
        have Ew14 : Hid (Ext Non w3 w14) := Ew13.out.trans0 he
        have R14 : Hid (Rd (fltK (n + 2)) w14 (fun _ => True) (.slice (some ⟨p2, 0, none⟩) 1 1) [kindF 4 [.mk op key val kids]]) := one_kid (he.obj K13.out (fun e => e)) trivial (R13.out.ext0 he)
        clear he hw13 hp2 K13 Ew13 R12 R13 Ew12
        obtain ⟨p3, hp3⟩ : ∃ p, w14.heap.size = p := ⟨_, rfl⟩
        obtain ⟨w15, hw15⟩ : ∃ W, w14.alloc (.cells #[.int .i64 4, .string ⟨#[]⟩, .string ⟨#[]⟩, .slice (some ⟨p2, 0, none⟩) 1 1] 24) = W := ⟨_, rfl⟩
        have X15 : Ext Non w14 w15 := by rw [← hw15]; exact (Ext.refl _ _).alloc _
        have K15 : Hid (w15.heap[p3]? = some (.cells #[.int .i64 4, .string ⟨#[]⟩, .string ⟨#[]⟩, .slice (some ⟨p2, 0, none⟩) 1 1] 24 (0, 0))) := by rw [← hw15, ← hp3]; exact blk_new w14 _
        have Ew15 : Hid (Ext Non w3 w15) := Ew14.out.trans0 X15
        have VT : Hid (FV (n + 2) w15 (fun _ => True) (.agg #[.int .i64 4, .string ⟨#[]⟩, .string ⟨#[]⟩, .slice (some ⟨p2, 0, none⟩) 1 1]) (kindF 4 [kindF 4 [.mk op key val kids]])) := kind_fv (R14.out.ext0 X15)
        clear X15 R14
        go_upto_region 6 with fail
        go_cut [50] from 39 to 50 (fun s50 wx => s50 = .bool false ∧ Ext Non w3 wx)
        case first =>
          have O4 : Hid (okF (n + 3) (kindF 4 [kindF 4 [.mk op key val kids]])) := kindF_okF (inI_lit 4 (by omega)) (by simp) (fun k hk => by
            rw [List.mem_singleton] at hk
            subst hk
            exact kindF_okF (inI_lit 4 (by omega)) (by simp) (fun k hk => by rw [List.mem_singleton] at hk; subst hk; exact HOF.out))
          by_cases hc : checkE (n + 3) (kindF 4 [kindF 4 [.mk op key val kids]]) = 0
          · obtain ⟨hv, hhv⟩ : ∃ hv, holdsP fieldF (n + 1) (.mk op key val kids) e = hv := ⟨_, rfl⟩
            have HV := Lib.hid hhv
            have HV2 : Hid (holdsP fieldF (n + 3) (kindF 4 [kindF 4 [.mk op key val kids]]) e = hv) := (twice_law HLF.out hc).trans hhv
            have HCK := Lib.hid hc
            clear hc hhv
            refine Last.start_ (S := fun W => W.cell? ⟨q1, 0, none⟩ = some (.int .i64 op) ∧ W.cell? ⟨q1, 1, none⟩ = some (.string key) ∧ W.cell? ⟨q1, 2, none⟩ = some (.string val) ∧ W.cell? ⟨q1, 3, none⟩ = some (.slice A m c) ∧ W.cell? ⟨q2, 0, none⟩ = some (.int .i64 op') ∧ W.cell? ⟨q2, 1, none⟩ = some (.string key') ∧ W.cell? ⟨q2, 2, none⟩ = some (.string val') ∧ W.cell? ⟨q2, 3, none⟩ = some (.slice A' m' c') ∧ W.cell? ⟨q3, 0, none⟩ = some (.int .i64 e.pos) ∧ W.cell? ⟨q3, 1, none⟩ = some (.string e.key) ∧ W.cell? ⟨q3, 2, none⟩ = some (.bool e.had) ∧ W.cell? ⟨q3, 3, none⟩ = some (.string e.old) ∧ W.cell? ⟨q3, 4, none⟩ = some (.bool e.has) ∧ W.cell? ⟨q3, 5, none⟩ = some (.string e.now) ∧ W.cell? ⟨p3, 0, none⟩ = some (.int .i64 4) ∧ W.cell? ⟨p3, 1, none⟩ = some (.string ⟨#[]⟩) ∧ W.cell? ⟨p3, 2, none⟩ = some (.string ⟨#[]⟩) ∧ W.cell? ⟨p3, 3, none⟩ = some (.slice (some ⟨p2, 0, none⟩) 1 1)) (ds := []) #[false, false, false, false, false, false, false, false, false, false, false, false] (by kernel_rfl) (by rfl) (by rfl) (lgS6 (B3.out.ext0 (Ew15.out.trans0 (Ext.refl Non w15).drew)) ((Ext.refl Non w15).drew.obj K15.out (fun e => e))) (fun hS => ?_)
            refine Last.take_ (i := 0) (N := some 39) (v := .agg #[.int .i64 4, .string ⟨#[]⟩, .string ⟨#[]⟩, .slice (some ⟨p2, 0, none⟩) 1 1]) #[true, false, false, false, false, false, false, false, false, false, false, false] (by simp only [List.getElem?_toArray, List.getElem?_cons_zero]; rfl) rfl (by kernel_rfl) (by exact fun _ _ _ h => h) (Or.inl ⟨by rfl, fun W hW => by first | rfl | (try dsimp only at hW); go_simp⟩) hS rfl ?_
            simp only [Act.put, List.setIfInBounds_toArray, List.set_cons_zero, List.set_cons_succ]
            refine Last.one_ (i := 1) (N := some 40) #[true, true, false, false, false, false, false, false, false, false, false, false] (by simp only [List.getElem?_toArray, List.getElem?_cons_zero, List.getElem?_cons_succ]; rfl) rfl (by kernel_rfl) (by decide) (fun K hK => ?_)
            refine Last.goes_ Try.func14 (by kernel_rfl) rfl #[.agg #[.int .i64 4, .string ⟨#[]⟩, .string ⟨#[]⟩, .slice (some ⟨p2, 0, none⟩) 1 1]] (by rfl) rfl rfl (by simp [Act.eval]) ?_
            refine (Check_calls (VT.out.ext0 (Ext.refl Non w15).drew) O4.out).mono ?_
            rw [HCK.out]
            rintro e' w16 ⟨rfl, he⟩
            have Y16 : Hid (Ext Non w15 w16) := (Ext.refl Non w15).drew.trans0 he
            clear he
            refine ⟨_, rfl, ?_⟩
            refine hK.out _ _ (lgS6 (B3.out.ext0 (Ew15.out.trans0 Y16.out)) (Y16.out.obj K15.out (fun e => e))) (fun hS => ?_)
            try simp only [Act.put, List.setIfInBounds_toArray, List.set_cons_zero, List.set_cons_succ]
            refine Last.take_ (i := 2) (N := some 41) (v := .bool true) #[true, true, true, false, false, false, false, false, false, false, false, false] (by simp only [List.getElem?_toArray, List.getElem?_cons_zero, List.getElem?_cons_succ]; rfl) rfl (by kernel_rfl) (by exact fun _ _ _ h => h) (Or.inl ⟨by rfl, fun W hW => by first | rfl | (try dsimp only at hW); go_simp⟩) hS rfl ?_
            simp only [Act.put, List.setIfInBounds_toArray, List.set_cons_zero, List.set_cons_succ]
            refine Last.take_ (i := 3) (N := some 42) (v := .bool true) #[true, true, true, true, false, false, false, false, false, false, false, false] (by simp only [List.getElem?_toArray, List.getElem?_cons_zero, List.getElem?_cons_succ]; rfl) rfl (by kernel_rfl) (by exact fun _ _ _ h => h) (Or.inl ⟨by rfl, fun W hW => by first | rfl | (try dsimp only at hW); go_simp⟩) hS rfl ?_
            simp only [Act.put, List.setIfInBounds_toArray, List.set_cons_zero, List.set_cons_succ]
            refine Last.take_ (i := 4) (N := some 43) (v := .agg #[.int .i64 4, .string ⟨#[]⟩, .string ⟨#[]⟩, .slice (some ⟨p2, 0, none⟩) 1 1]) #[true, true, true, true, true, false, false, false, false, false, false, false] (by simp only [List.getElem?_toArray, List.getElem?_cons_zero, List.getElem?_cons_succ]; rfl) rfl (by kernel_rfl) (by exact fun _ _ _ h => h) (Or.inl ⟨by rfl, fun W hW => by first | rfl | (try dsimp only at hW); go_simp⟩) hS rfl ?_
            simp only [Act.put, List.setIfInBounds_toArray, List.set_cons_zero, List.set_cons_succ]
            refine Last.take_ (i := 5) (N := some 44) (v := .agg #[.int .i64 e.pos, .string e.key, .bool e.had, .string e.old, .bool e.has, .string e.now]) #[true, true, true, true, true, true, false, false, false, false, false, false] (by simp only [List.getElem?_toArray, List.getElem?_cons_zero, List.getElem?_cons_succ]; rfl) rfl (by kernel_rfl) (by exact fun _ _ _ h => h) (Or.inl ⟨by rfl, fun W hW => by first | rfl | (try dsimp only at hW); go_simp⟩) hS rfl ?_
            simp only [Act.put, List.setIfInBounds_toArray, List.set_cons_zero, List.set_cons_succ]
            refine Last.take_ (i := 7) (N := some 46) (v := .agg #[.int .i64 op, .string key, .string val, .slice A m c]) #[true, true, true, true, true, true, false, true, false, false, false, false] (by simp only [List.getElem?_toArray, List.getElem?_cons_zero, List.getElem?_cons_succ]; rfl) rfl (by kernel_rfl) (by exact fun _ _ _ h => h) (Or.inl ⟨by rfl, fun W hW => by first | rfl | (try dsimp only at hW); go_simp⟩) hS rfl ?_
            simp only [Act.put, List.setIfInBounds_toArray, List.set_cons_zero, List.set_cons_succ]
            refine Last.take_ (i := 8) (N := some 47) (v := .agg #[.int .i64 e.pos, .string e.key, .bool e.had, .string e.old, .bool e.has, .string e.now]) #[true, true, true, true, true, true, false, true, true, false, false, false] (by simp only [List.getElem?_toArray, List.getElem?_cons_zero, List.getElem?_cons_succ]; rfl) rfl (by kernel_rfl) (by exact fun _ _ _ h => h) (Or.inl ⟨by rfl, fun W hW => by first | rfl | (try dsimp only at hW); go_simp⟩) hS rfl ?_
            simp only [Act.put, List.setIfInBounds_toArray, List.set_cons_zero, List.set_cons_succ]
            refine Last.one_ (i := 6) (N := some 45) #[true, true, true, true, true, true, true, true, true, false, false, false] (by simp only [List.getElem?_toArray, List.getElem?_cons_zero, List.getElem?_cons_succ]; rfl) rfl (by kernel_rfl) (by decide) (fun K hK => ?_)
            refine Last.goes_ Try.func24 (by kernel_rfl) rfl #[.agg #[.int .i64 4, .string ⟨#[]⟩, .string ⟨#[]⟩, .slice (some ⟨p2, 0, none⟩) 1 1], .agg #[.int .i64 e.pos, .string e.key, .bool e.had, .string e.old, .bool e.has, .string e.now]] (by rfl) rfl rfl (by simp [Act.eval]) ?_
            refine (Holds_calls (fp := fieldF) (e := e) (VT.out.ext0 Y16.out) O4.out (.inr Field_calls) HES.out).mono ?_
            rw [HV2.out]
            rintro e' w17 ⟨rfl, he⟩
            have Y17 : Hid (Ext Non w15 w17) := Y16.out.trans0 he
            clear he
            refine ⟨_, rfl, ?_⟩
            refine hK.out _ _ (lgS6 (B3.out.ext0 (Ew15.out.trans0 Y17.out)) (Y17.out.obj K15.out (fun e => e))) (fun hS => ?_)
            try simp only [Act.put, List.setIfInBounds_toArray, List.set_cons_zero, List.set_cons_succ]
            refine Last.one_ (i := 9) (N := some 48) #[true, true, true, true, true, true, true, true, true, true, false, false] (by simp only [List.getElem?_toArray, List.getElem?_cons_zero, List.getElem?_cons_succ]; rfl) rfl (by kernel_rfl) (by decide) (fun K hK => ?_)
            refine Last.goes_ Try.func24 (by kernel_rfl) rfl #[.agg #[.int .i64 op, .string key, .string val, .slice A m c], .agg #[.int .i64 e.pos, .string e.key, .bool e.had, .string e.old, .bool e.has, .string e.now]] (by rfl) rfl rfl (by simp [Act.eval]) ?_
            refine (Holds_calls (fp := fieldF) (e := e) (VF.out.ext0 (Ew15.out.trans0 Y17.out)) HOF.out (.inr Field_calls) HES.out).mono ?_
            rw [HV.out]
            rintro e' w18 ⟨rfl, he⟩
            have Y18 : Hid (Ext Non w15 w18) := Y17.out.trans0 he
            clear he
            refine ⟨_, rfl, ?_⟩
            refine hK.out _ _ (lgS6 (B3.out.ext0 (Ew15.out.trans0 Y18.out)) (Y18.out.obj K15.out (fun e => e))) (fun hS => ?_)
            try simp only [Act.put, List.setIfInBounds_toArray, List.set_cons_zero, List.set_cons_succ]
            refine Last.take_ (i := 10) (N := some 49) (v := .bool false) #[true, true, true, true, true, true, true, true, true, true, true, false] (by simp only [List.getElem?_toArray, List.getElem?_cons_zero, List.getElem?_cons_succ]; rfl) rfl (by kernel_rfl) (by exact fun _ _ _ h => h) (Or.inl ⟨by rfl, fun W hW => by first | rfl | (try dsimp only at hW); go_simp⟩) hS rfl ?_
            simp only [Act.put, List.setIfInBounds_toArray, List.set_cons_zero, List.set_cons_succ]
            refine Last.take_ (i := 11) (N := some 50) (v := .bool false) #[true, true, true, true, true, true, true, true, true, true, true, true] (by simp only [List.getElem?_toArray, List.getElem?_cons_zero, List.getElem?_cons_succ]; rfl) rfl (by kernel_rfl) (by exact fun _ _ _ h => h) (Or.inl ⟨by rfl, fun W hW => by first | rfl | (try dsimp only at hW); go_simp⟩) hS rfl ?_
            simp only [Act.put, List.setIfInBounds_toArray, List.set_cons_zero, List.set_cons_succ]
            refine Last.done_ (by kernel_rfl) ?_
            go_wp2_with fail
            go_meet
            exact ⟨rfl, Ew15.out.trans0 Y18.out⟩
          · obtain ⟨cv, hcv⟩ : ∃ cv, checkE (n + 3) (kindF 4 [kindF 4 [.mk op key val kids]]) = cv := ⟨_, rfl⟩
            have HCK := Lib.hid hcv
            rw [hcv] at hc
            have ev : (cv == 0) = false := beq_eq_false_iff_ne.2 hc
            clear hc hcv
            refine Last.start_ (S := fun W => W.cell? ⟨q1, 0, none⟩ = some (.int .i64 op) ∧ W.cell? ⟨q1, 1, none⟩ = some (.string key) ∧ W.cell? ⟨q1, 2, none⟩ = some (.string val) ∧ W.cell? ⟨q1, 3, none⟩ = some (.slice A m c) ∧ W.cell? ⟨q2, 0, none⟩ = some (.int .i64 op') ∧ W.cell? ⟨q2, 1, none⟩ = some (.string key') ∧ W.cell? ⟨q2, 2, none⟩ = some (.string val') ∧ W.cell? ⟨q2, 3, none⟩ = some (.slice A' m' c') ∧ W.cell? ⟨q3, 0, none⟩ = some (.int .i64 e.pos) ∧ W.cell? ⟨q3, 1, none⟩ = some (.string e.key) ∧ W.cell? ⟨q3, 2, none⟩ = some (.bool e.had) ∧ W.cell? ⟨q3, 3, none⟩ = some (.string e.old) ∧ W.cell? ⟨q3, 4, none⟩ = some (.bool e.has) ∧ W.cell? ⟨q3, 5, none⟩ = some (.string e.now) ∧ W.cell? ⟨p3, 0, none⟩ = some (.int .i64 4) ∧ W.cell? ⟨p3, 1, none⟩ = some (.string ⟨#[]⟩) ∧ W.cell? ⟨p3, 2, none⟩ = some (.string ⟨#[]⟩) ∧ W.cell? ⟨p3, 3, none⟩ = some (.slice (some ⟨p2, 0, none⟩) 1 1)) (ds := []) #[false, false, false, false, false, false, false, false, false, false, false, false] (by kernel_rfl) (by rfl) (by rfl) (lgS6 (B3.out.ext0 (Ew15.out.trans0 (Ext.refl Non w15).drew)) ((Ext.refl Non w15).drew.obj K15.out (fun e => e))) (fun hS => ?_)
            refine Last.take_ (i := 0) (N := some 39) (v := .agg #[.int .i64 4, .string ⟨#[]⟩, .string ⟨#[]⟩, .slice (some ⟨p2, 0, none⟩) 1 1]) #[true, false, false, false, false, false, false, false, false, false, false, false] (by simp only [List.getElem?_toArray, List.getElem?_cons_zero]; rfl) rfl (by kernel_rfl) (by exact fun _ _ _ h => h) (Or.inl ⟨by rfl, fun W hW => by first | rfl | (try dsimp only at hW); go_simp⟩) hS rfl ?_
            simp only [Act.put, List.setIfInBounds_toArray, List.set_cons_zero, List.set_cons_succ]
            refine Last.one_ (i := 1) (N := some 40) #[true, true, false, false, false, false, false, false, false, false, false, false] (by simp only [List.getElem?_toArray, List.getElem?_cons_zero, List.getElem?_cons_succ]; rfl) rfl (by kernel_rfl) (by decide) (fun K hK => ?_)
            refine Last.goes_ Try.func14 (by kernel_rfl) rfl #[.agg #[.int .i64 4, .string ⟨#[]⟩, .string ⟨#[]⟩, .slice (some ⟨p2, 0, none⟩) 1 1]] (by rfl) rfl rfl (by simp [Act.eval]) ?_
            refine (Check_calls (VT.out.ext0 (Ext.refl Non w15).drew) O4.out).mono ?_
            rw [HCK.out]
            rintro e' w16 ⟨rfl, he⟩
            have Y16 : Hid (Ext Non w15 w16) := (Ext.refl Non w15).drew.trans0 he
            clear he
            refine ⟨_, rfl, ?_⟩
            refine hK.out _ _ (lgS6 (B3.out.ext0 (Ew15.out.trans0 Y16.out)) (Y16.out.obj K15.out (fun e => e))) (fun hS => ?_)
            try simp only [Act.put, List.setIfInBounds_toArray, List.set_cons_zero, List.set_cons_succ]
            refine Last.take_ (i := 2) (N := some 41) (v := .bool false) #[true, true, true, false, false, false, false, false, false, false, false, false] (by simp only [List.getElem?_toArray, List.getElem?_cons_zero, List.getElem?_cons_succ]; rfl) rfl (by kernel_rfl) (by exact fun _ _ _ h => h) (Or.inl ⟨by rfl, fun W hW => by first | rfl | (try dsimp only at hW); go_simp⟩) hS rfl ?_
            simp only [Act.put, List.setIfInBounds_toArray, List.set_cons_zero, List.set_cons_succ]
            refine Last.take_ (i := 3) (N := some 42) (v := .bool false) #[true, true, true, true, false, false, false, false, false, false, false, false] (by simp only [List.getElem?_toArray, List.getElem?_cons_zero, List.getElem?_cons_succ]; rfl) rfl (by kernel_rfl) (by exact fun _ _ _ h => h) (Or.inl ⟨by rfl, fun W hW => by first | rfl | (try dsimp only at hW); go_simp⟩) hS rfl ?_
            simp only [Act.put, List.setIfInBounds_toArray, List.set_cons_zero, List.set_cons_succ]
            refine Last.take_ (i := 4) (N := some 43) (v := undef) #[true, true, true, true, true, false, false, false, false, false, false, false] (by simp only [List.getElem?_toArray, List.getElem?_cons_zero, List.getElem?_cons_succ]; rfl) rfl (by kernel_rfl) (by exact fun _ _ _ h => h) (Or.inr ⟨by rfl, rfl⟩) hS rfl ?_
            simp only [Act.put, List.setIfInBounds_toArray, List.set_cons_zero, List.set_cons_succ]
            refine Last.take_ (i := 5) (N := some 44) (v := undef) #[true, true, true, true, true, true, false, false, false, false, false, false] (by simp only [List.getElem?_toArray, List.getElem?_cons_zero, List.getElem?_cons_succ]; rfl) rfl (by kernel_rfl) (by exact fun _ _ _ h => h) (Or.inr ⟨by rfl, rfl⟩) hS rfl ?_
            simp only [Act.put, List.setIfInBounds_toArray, List.set_cons_zero, List.set_cons_succ]
            refine Last.take_ (i := 6) (N := some 45) (v := undef) #[true, true, true, true, true, true, true, false, false, false, false, false] (by simp only [List.getElem?_toArray, List.getElem?_cons_zero, List.getElem?_cons_succ]; rfl) rfl (by kernel_rfl) (by exact fun _ _ _ h => h) (Or.inr ⟨by rfl, rfl⟩) hS rfl ?_
            simp only [Act.put, List.setIfInBounds_toArray, List.set_cons_zero, List.set_cons_succ]
            refine Last.take_ (i := 7) (N := some 46) (v := undef) #[true, true, true, true, true, true, true, true, false, false, false, false] (by simp only [List.getElem?_toArray, List.getElem?_cons_zero, List.getElem?_cons_succ]; rfl) rfl (by kernel_rfl) (by exact fun _ _ _ h => h) (Or.inr ⟨by rfl, rfl⟩) hS rfl ?_
            simp only [Act.put, List.setIfInBounds_toArray, List.set_cons_zero, List.set_cons_succ]
            refine Last.take_ (i := 8) (N := some 47) (v := undef) #[true, true, true, true, true, true, true, true, true, false, false, false] (by simp only [List.getElem?_toArray, List.getElem?_cons_zero, List.getElem?_cons_succ]; rfl) rfl (by kernel_rfl) (by exact fun _ _ _ h => h) (Or.inr ⟨by rfl, rfl⟩) hS rfl ?_
            simp only [Act.put, List.setIfInBounds_toArray, List.set_cons_zero, List.set_cons_succ]
            refine Last.take_ (i := 9) (N := some 48) (v := undef) #[true, true, true, true, true, true, true, true, true, true, false, false] (by simp only [List.getElem?_toArray, List.getElem?_cons_zero, List.getElem?_cons_succ]; rfl) rfl (by kernel_rfl) (by exact fun _ _ _ h => h) (Or.inr ⟨by rfl, rfl⟩) hS rfl ?_
            simp only [Act.put, List.setIfInBounds_toArray, List.set_cons_zero, List.set_cons_succ]
            refine Last.take_ (i := 10) (N := some 49) (v := undef) #[true, true, true, true, true, true, true, true, true, true, true, false] (by simp only [List.getElem?_toArray, List.getElem?_cons_zero, List.getElem?_cons_succ]; rfl) rfl (by kernel_rfl) (by exact fun _ _ _ h => h) (Or.inr ⟨by rfl, rfl⟩) hS rfl ?_
            simp only [Act.put, List.setIfInBounds_toArray, List.set_cons_zero, List.set_cons_succ]
            refine Last.take_ (i := 11) (N := some 50) (v := .bool false) #[true, true, true, true, true, true, true, true, true, true, true, true] (by simp only [List.getElem?_toArray, List.getElem?_cons_zero, List.getElem?_cons_succ]; rfl) rfl (by kernel_rfl) (by exact fun _ _ _ h => h) (Or.inl ⟨by rfl, fun W hW => by first | rfl | (try dsimp only at hW); go_simp⟩) hS rfl ?_
            simp only [Act.put, List.setIfInBounds_toArray, List.set_cons_zero, List.set_cons_succ]
            refine Last.done_ (by kernel_rfl) ?_
            go_wp2_with fail
            go_meet
            exact ⟨rfl, Ew15.out.trans0 Y16.out⟩
        case rest =>
          obtain ⟨rfl, hec⟩ := hcut
          have Ewc : Hid (Ext Non w3 wc) := hec
          have Bwc := Lib.hid (B3.out.ext0 hec)
          clear hec VT K15
          go_wp2_with fail
          refine Last.start_ (S := fun W => W.cell? ⟨q1, 0, none⟩ = some (.int .i64 op) ∧ W.cell? ⟨q1, 1, none⟩ = some (.string key) ∧ W.cell? ⟨q1, 2, none⟩ = some (.string val) ∧ W.cell? ⟨q1, 3, none⟩ = some (.slice A m c) ∧ W.cell? ⟨q2, 0, none⟩ = some (.int .i64 op') ∧ W.cell? ⟨q2, 1, none⟩ = some (.string key') ∧ W.cell? ⟨q2, 2, none⟩ = some (.string val') ∧ W.cell? ⟨q2, 3, none⟩ = some (.slice A' m' c') ∧ W.cell? ⟨q3, 0, none⟩ = some (.int .i64 e.pos) ∧ W.cell? ⟨q3, 1, none⟩ = some (.string e.key) ∧ W.cell? ⟨q3, 2, none⟩ = some (.bool e.had) ∧ W.cell? ⟨q3, 3, none⟩ = some (.string e.old) ∧ W.cell? ⟨q3, 4, none⟩ = some (.bool e.has) ∧ W.cell? ⟨q3, 5, none⟩ = some (.string e.now)) (ds := []) #[false, false, false, false, false, false, false, false, false, false, false, false, false, false, false, false, false, false] (by kernel_rfl) (by rfl) (by rfl) (lgS (Bwc.out.ext0 (Ext.refl Non wc).drew)) (fun hS => ?_)
          refine Last.take_ (i := 0) (N := some 51) (v := .agg #[.int .i64 op, .string key, .string val, .slice A m c]) #[true, false, false, false, false, false, false, false, false, false, false, false, false, false, false, false, false, false] (by simp only [List.getElem?_toArray, List.getElem?_cons_zero]; rfl) rfl (by kernel_rfl) (by exact fun _ _ _ h => h) (Or.inl ⟨by rfl, fun W hW => by first | rfl | (try dsimp only at hW); go_simp⟩) hS rfl ?_
          simp only [Act.put, List.setIfInBounds_toArray, List.set_cons_zero, List.set_cons_succ]
          refine Last.take_ (i := 1) (N := some 52) (v := .agg #[.int .i64 op', .string key', .string val', .slice A' m' c']) #[true, true, false, false, false, false, false, false, false, false, false, false, false, false, false, false, false, false] (by simp only [List.getElem?_toArray, List.getElem?_cons_zero, List.getElem?_cons_succ]; rfl) rfl (by kernel_rfl) (by exact fun _ _ _ h => h) (Or.inl ⟨by rfl, fun W hW => by first | rfl | (try dsimp only at hW); go_simp⟩) hS rfl ?_
          simp only [Act.put, List.setIfInBounds_toArray, List.set_cons_zero, List.set_cons_succ]
          refine Last.take_ (i := 6) (N := some 57) (v := .agg #[.int .i64 op, .string key, .string val, .slice A m c]) #[true, true, false, false, false, false, true, false, false, false, false, false, false, false, false, false, false, false] (by simp only [List.getElem?_toArray, List.getElem?_cons_zero, List.getElem?_cons_succ]; rfl) rfl (by kernel_rfl) (by exact fun _ _ _ h => h) (Or.inl ⟨by rfl, fun W hW => by first | rfl | (try dsimp only at hW); go_simp⟩) hS rfl ?_
          simp only [Act.put, List.setIfInBounds_toArray, List.set_cons_zero, List.set_cons_succ]
          refine Last.take_ (i := 9) (N := some 60) (v := .agg #[.int .i64 op', .string key', .string val', .slice A' m' c']) #[true, true, false, false, false, false, true, false, false, true, false, false, false, false, false, false, false, false] (by simp only [List.getElem?_toArray, List.getElem?_cons_zero, List.getElem?_cons_succ]; rfl) rfl (by kernel_rfl) (by exact fun _ _ _ h => h) (Or.inl ⟨by rfl, fun W hW => by first | rfl | (try dsimp only at hW); go_simp⟩) hS rfl ?_
          simp only [Act.put, List.setIfInBounds_toArray, List.set_cons_zero, List.set_cons_succ]
          obtain ⟨wy, hwy⟩ : ∃ wy, wc.drew = wy := ⟨_, rfl⟩
          have EY : Hid (Ext Non wc wy) := by rw [← hwy]; exact (Ext.refl Non wc).drew
          rw [hwy] at hS ⊢
          clear hwy
          have hb3 : w3.heap.size ≤ wy.heap.size := Nat.le_trans Ewc.out.size EY.out.size
          refine Last.spec_ (f1 := 2) #[true, true, true, true, true, true, true, true, true, true, true, true, true, true, true, true, false, false] [(2, 53), (3, 54), (4, 55), (5, 56), (7, 58), (8, 59), (10, 61), (11, 62), (12, 63), (13, 64), (14, 8), (15, 9)] (lgSp n wy.heap.size (.mk op key val kids) (.mk op' key' val' kids')) (lgPr n (.mk op key val kids) (.mk op' key' val' kids')) rfl (by kernel_rfl) (lgSp_mono _ _ _ _) (lgPr_mono _ _ _) (fun X Y he h => ?_) ?_ ?_
          · obtain ⟨h0, h1, h2, h3, h4, h5, h6, h7, h8, h9, h10, h11, h12, h13⟩ := h
            exact ⟨he.cell h0 (fun e => e), he.cell h1 (fun e => e), he.cell h2 (fun e => e), he.cell h3 (fun e => e), he.cell h4 (fun e => e), he.cell h5 (fun e => e), he.cell h6 (fun e => e), he.cell h7 (fun e => e), he.cell h8 (fun e => e), he.cell h9 (fun e => e), he.cell h10 (fun e => e), he.cell h11 (fun e => e), he.cell h12 (fun e => e), he.cell h13 (fun e => e)⟩
          · intro p hp o ho a W L he hkn K hK
            have hsz := he.size
            rcases (by simpa using hp : p = (2, 53) ∨ p = (3, 54) ∨ p = (4, 55) ∨ p = (5, 56) ∨ p = (7, 58) ∨ p = (8, 59) ∨ p = (10, 61) ∨ p = (11, 62) ∨ p = (12, 63) ∨ p = (13, 64) ∨ p = (14, 8) ∨ p = (15, 9)) with rfl | rfl | rfl | rfl | rfl | rfl | rfl | rfl | rfl | rfl | rfl | rfl
            · obtain rfl := Option.some.inj (ho.symm.trans (by simp only [List.getElem?_toArray, List.getElem?_cons_zero, List.getElem?_cons_succ]; rfl))
              clear ho hp
              have h51 : a.eval (.tmp 51) = .agg #[.int .i64 op, .string key, .string val, .slice A m c] := (hkn.same 51 (by simp)).trans (by simp [Act.eval])
              have h51' : a.tmps[51]?.getD undef = .agg #[.int .i64 op, .string key, .string val, .slice A m c] := by simpa [Act.eval] using h51
              have h52 : a.eval (.tmp 52) = .agg #[.int .i64 op', .string key', .string val', .slice A' m' c'] := (hkn.same 52 (by simp)).trans (by simp [Act.eval])
              have h52' : a.tmps[52]?.getD undef = .agg #[.int .i64 op', .string key', .string val', .slice A' m' c'] := by simpa [Act.eval] using h52
              have HKN := Lib.hid hkn
              have H51 := Lib.hid h51
              have H52 := Lib.hid h52
              clear hkn h51 h52
              refine Last.value_ (N := some 53) (by rfl) rfl (v := .slice (some ⟨W.heap.size, 0, none⟩) 2 2) (w1 := W.alloc (.cells #[.int .i64 op, .string key, .string val, .slice A m c, .int .i64 op', .string key', .string val', .slice A' m' c'] 24)) (by go_simp) ?_
              have hnx := (Ext.refl Non W).alloc (.cells #[.int .i64 op, .string key, .string val, .slice A m c, .int .i64 op', .string key', .string val', .slice A' m' c'] 24)
              exact hK.out _ _ hnx ⟨_, rfl, two_kids (blk_new W _) trivial ((RF.out.ext0 (Ewc.out.trans0 (EY.out.trans0 he))).ext0 hnx) ((RG.out.ext0 (Ewc.out.trans0 (EY.out.trans0 he))).ext0 hnx)⟩ (fun q hq => lgPr_step (by decide) (HKN.out.spec q hq) (fun b hq' hu hb hl => ⟨_, rfl, two_kids (blk_new W _) (show W.heap.size ≠ b by omega) (((RF.out.bound.ext0 (Ewc.out.trans0 (EY.out.trans0 he))).ext0 hnx).mono (fun k hk => show k ≠ b by have := hk.2; omega)) (((RG.out.bound.ext0 (Ewc.out.trans0 (EY.out.trans0 he))).ext0 hnx).mono (fun k hk => show k ≠ b by have := hk.2; omega))⟩))
            · obtain rfl := Option.some.inj (ho.symm.trans (by simp only [List.getElem?_toArray, List.getElem?_cons_zero, List.getElem?_cons_succ]; rfl))
              clear ho hp
              have hL := hkn.after ⟨2, .data⟩ (by simp) (by rfl) 53 (by simp)
              obtain ⟨A0, h0, hr0⟩ : SlQ (fun _ => True) 2 (n + 1) [(.mk op key val kids), (.mk op' key' val' kids')] (a.eval (.tmp 53)) W := hkn.spec (2, 53) hL
              have h0' : a.tmps[53]?.getD undef = .slice A0 2 2 := by simpa [Act.eval] using h0
              refine Last.goes_ Try.func25 (by kernel_rfl) rfl #[.int .i64 5, .slice A0 2 2] (by rfl) rfl rfl (by simp [Act.eval, h0']) ?_
              refine (kind_calls W 5 A0 2 2).mono ?_
              rintro e' W' ⟨rfl, he'⟩
              exact ⟨_, rfl, hK.out _ _ he' ⟨A0, 2, 2, rfl, hr0.ext0 he'⟩ (fun q hq => lgPr_step (by decide) (hkn.spec q hq) (fun b hq' hu hb hl => ⟨A0, 2, 2, rfl, (SlQ.rd ((hkn.pair (2, 53) q hL hq (fun e => by subst e; revert hq'; decide)).2 b hq' hu) h0).ext0 he'⟩))⟩
            · obtain rfl := Option.some.inj (ho.symm.trans (by simp only [List.getElem?_toArray, List.getElem?_cons_zero, List.getElem?_cons_succ]; rfl))
              clear ho hp
              have hLx := hkn.after ⟨3, .data⟩ (by simp) (by rfl) 54 (by simp)
              obtain ⟨Ax, kx, cx, h54, hrx⟩ : KdQ (fun _ => True) 5 (n + 1) [(.mk op key val kids), (.mk op' key' val' kids')] (a.eval (.tmp 54)) W := hkn.spec (3, 54) hLx
              have h54' : a.tmps[54]?.getD undef = .agg #[.int .i64 5, .string ⟨#[]⟩, .string ⟨#[]⟩, .slice Ax kx cx] := by simpa [Act.eval] using h54
              have HKN := Lib.hid hkn
              have H54 := Lib.hid h54
              clear hkn h54
              refine Last.value_ (N := some 55) (by rfl) rfl (v := .slice (some ⟨W.heap.size, 0, none⟩) 1 1) (w1 := W.alloc (.cells #[.int .i64 5, .string ⟨#[]⟩, .string ⟨#[]⟩, .slice Ax kx cx] 24)) (by go_simp) ?_
              have hnx := (Ext.refl Non W).alloc (.cells #[.int .i64 5, .string ⟨#[]⟩, .string ⟨#[]⟩, .slice Ax kx cx] 24)
              exact hK.out _ _ hnx ⟨_, rfl, one_kid (blk_new W _) trivial (hrx.ext0 hnx)⟩ (fun q hq => lgPr_step (by decide) (HKN.out.spec q hq) (fun b hq' hu hb hl => ⟨_, rfl, one_kid (blk_new W _) (show W.heap.size ≠ b by omega) ((KdQ.rd ((HKN.out.pair (3, 54) q hLx hq (fun e => by subst e; revert hq'; decide)).2 b hq' hu) H54.out).ext0 hnx)⟩))
            · obtain rfl := Option.some.inj (ho.symm.trans (by simp only [List.getElem?_toArray, List.getElem?_cons_zero, List.getElem?_cons_succ]; rfl))
              clear ho hp
              have hL := hkn.after ⟨4, .data⟩ (by simp) (by rfl) 55 (by simp)
              obtain ⟨A0, h0, hr0⟩ : SlQ (fun _ => True) 1 (n + 2) [kindF 5 [(.mk op key val kids), (.mk op' key' val' kids')]] (a.eval (.tmp 55)) W := hkn.spec (4, 55) hL
              have h0' : a.tmps[55]?.getD undef = .slice A0 1 1 := by simpa [Act.eval] using h0
              refine Last.goes_ Try.func25 (by kernel_rfl) rfl #[.int .i64 4, .slice A0 1 1] (by rfl) rfl rfl (by simp [Act.eval, h0']) ?_
              refine (kind_calls W 4 A0 1 1).mono ?_
              rintro e' W' ⟨rfl, he'⟩
              exact ⟨_, rfl, hK.out _ _ he' ⟨A0, 1, 1, rfl, hr0.ext0 he'⟩ (fun q hq => lgPr_step (by decide) (hkn.spec q hq) (fun b hq' hu hb hl => ⟨A0, 1, 1, rfl, (SlQ.rd ((hkn.pair (4, 55) q hL hq (fun e => by subst e; revert hq'; decide)).2 b hq' hu) h0).ext0 he'⟩))⟩
            · obtain rfl := Option.some.inj (ho.symm.trans (by simp only [List.getElem?_toArray, List.getElem?_cons_zero, List.getElem?_cons_succ]; rfl))
              clear ho hp
              have h57 : a.eval (.tmp 57) = .agg #[.int .i64 op, .string key, .string val, .slice A m c] := (hkn.same 57 (by simp)).trans (by simp [Act.eval])
              have h57' : a.tmps[57]?.getD undef = .agg #[.int .i64 op, .string key, .string val, .slice A m c] := by simpa [Act.eval] using h57
              have HKN := Lib.hid hkn
              have H57 := Lib.hid h57
              clear hkn h57
              refine Last.value_ (N := some 58) (by rfl) rfl (v := .slice (some ⟨W.heap.size, 0, none⟩) 1 1) (w1 := W.alloc (.cells #[.int .i64 op, .string key, .string val, .slice A m c] 24)) (by go_simp) ?_
              have hnx := (Ext.refl Non W).alloc (.cells #[.int .i64 op, .string key, .string val, .slice A m c] 24)
              exact hK.out _ _ hnx ⟨_, rfl, one_kid (blk_new W _) trivial ((RF.out.ext0 (Ewc.out.trans0 (EY.out.trans0 he))).ext0 hnx)⟩ (fun q hq => lgPr_step (by decide) (HKN.out.spec q hq) (fun b hq' hu hb hl => ⟨_, rfl, one_kid (blk_new W _) (show W.heap.size ≠ b by omega) (((RF.out.bound.ext0 (Ewc.out.trans0 (EY.out.trans0 he))).ext0 hnx).mono (fun k hk => show k ≠ b by have := hk.2; omega))⟩))
            · obtain rfl := Option.some.inj (ho.symm.trans (by simp only [List.getElem?_toArray, List.getElem?_cons_zero, List.getElem?_cons_succ]; rfl))
              clear ho hp
              have hL := hkn.after ⟨7, .data⟩ (by simp) (by rfl) 58 (by simp)
              obtain ⟨A0, h0, hr0⟩ : SlQ (fun _ => True) 1 (n + 1) [(.mk op key val kids)] (a.eval (.tmp 58)) W := hkn.spec (7, 58) hL
              have h0' : a.tmps[58]?.getD undef = .slice A0 1 1 := by simpa [Act.eval] using h0
              refine Last.goes_ Try.func25 (by kernel_rfl) rfl #[.int .i64 4, .slice A0 1 1] (by rfl) rfl rfl (by simp [Act.eval, h0']) ?_
              refine (kind_calls W 4 A0 1 1).mono ?_
              rintro e' W' ⟨rfl, he'⟩
              exact ⟨_, rfl, hK.out _ _ he' ⟨A0, 1, 1, rfl, hr0.ext0 he'⟩ (fun q hq => lgPr_step (by decide) (hkn.spec q hq) (fun b hq' hu hb hl => ⟨A0, 1, 1, rfl, (SlQ.rd ((hkn.pair (7, 58) q hL hq (fun e => by subst e; revert hq'; decide)).2 b hq' hu) h0).ext0 he'⟩))⟩
            · obtain rfl := Option.some.inj (ho.symm.trans (by simp only [List.getElem?_toArray, List.getElem?_cons_zero, List.getElem?_cons_succ]; rfl))
              clear ho hp
              have h60 : a.eval (.tmp 60) = .agg #[.int .i64 op', .string key', .string val', .slice A' m' c'] := (hkn.same 60 (by simp)).trans (by simp [Act.eval])
              have h60' : a.tmps[60]?.getD undef = .agg #[.int .i64 op', .string key', .string val', .slice A' m' c'] := by simpa [Act.eval] using h60
              have HKN := Lib.hid hkn
              have H60 := Lib.hid h60
              clear hkn h60
              refine Last.value_ (N := some 61) (by rfl) rfl (v := .slice (some ⟨W.heap.size, 0, none⟩) 1 1) (w1 := W.alloc (.cells #[.int .i64 op', .string key', .string val', .slice A' m' c'] 24)) (by go_simp) ?_
              have hnx := (Ext.refl Non W).alloc (.cells #[.int .i64 op', .string key', .string val', .slice A' m' c'] 24)
              exact hK.out _ _ hnx ⟨_, rfl, one_kid (blk_new W _) trivial ((RG.out.ext0 (Ewc.out.trans0 (EY.out.trans0 he))).ext0 hnx)⟩ (fun q hq => lgPr_step (by decide) (HKN.out.spec q hq) (fun b hq' hu hb hl => ⟨_, rfl, one_kid (blk_new W _) (show W.heap.size ≠ b by omega) (((RG.out.bound.ext0 (Ewc.out.trans0 (EY.out.trans0 he))).ext0 hnx).mono (fun k hk => show k ≠ b by have := hk.2; omega))⟩))
            · obtain rfl := Option.some.inj (ho.symm.trans (by simp only [List.getElem?_toArray, List.getElem?_cons_zero, List.getElem?_cons_succ]; rfl))
              clear ho hp
              have hL := hkn.after ⟨10, .data⟩ (by simp) (by rfl) 61 (by simp)
              obtain ⟨A0, h0, hr0⟩ : SlQ (fun _ => True) 1 (n + 1) [(.mk op' key' val' kids')] (a.eval (.tmp 61)) W := hkn.spec (10, 61) hL
              have h0' : a.tmps[61]?.getD undef = .slice A0 1 1 := by simpa [Act.eval] using h0
              refine Last.goes_ Try.func25 (by kernel_rfl) rfl #[.int .i64 4, .slice A0 1 1] (by rfl) rfl rfl (by simp [Act.eval, h0']) ?_
              refine (kind_calls W 4 A0 1 1).mono ?_
              rintro e' W' ⟨rfl, he'⟩
              exact ⟨_, rfl, hK.out _ _ he' ⟨A0, 1, 1, rfl, hr0.ext0 he'⟩ (fun q hq => lgPr_step (by decide) (hkn.spec q hq) (fun b hq' hu hb hl => ⟨A0, 1, 1, rfl, (SlQ.rd ((hkn.pair (10, 61) q hL hq (fun e => by subst e; revert hq'; decide)).2 b hq' hu) h0).ext0 he'⟩))⟩
            · obtain rfl := Option.some.inj (ho.symm.trans (by simp only [List.getElem?_toArray, List.getElem?_cons_zero, List.getElem?_cons_succ]; rfl))
              clear ho hp
              have hLx := hkn.after ⟨8, .data⟩ (by simp) (by rfl) 59 (by simp)
              obtain ⟨Ax, kx, cx, h59, hrx⟩ : KdQ (fun _ => True) 4 (n + 1) [(.mk op key val kids)] (a.eval (.tmp 59)) W := hkn.spec (8, 59) hLx
              have h59' : a.tmps[59]?.getD undef = .agg #[.int .i64 4, .string ⟨#[]⟩, .string ⟨#[]⟩, .slice Ax kx cx] := by simpa [Act.eval] using h59
              have hLy := hkn.after ⟨11, .data⟩ (by simp) (by rfl) 62 (by simp)
              obtain ⟨Ay, ky, cy, h62, hry⟩ : KdQ (fun _ => True) 4 (n + 1) [(.mk op' key' val' kids')] (a.eval (.tmp 62)) W := hkn.spec (11, 62) hLy
              have h62' : a.tmps[62]?.getD undef = .agg #[.int .i64 4, .string ⟨#[]⟩, .string ⟨#[]⟩, .slice Ay ky cy] := by simpa [Act.eval] using h62
              have HKN := Lib.hid hkn
              have H59 := Lib.hid h59
              have H62 := Lib.hid h62
              clear hkn h59 h62
              refine Last.value_ (N := some 63) (by rfl) rfl (v := .slice (some ⟨W.heap.size, 0, none⟩) 2 2) (w1 := W.alloc (.cells #[.int .i64 4, .string ⟨#[]⟩, .string ⟨#[]⟩, .slice Ax kx cx, .int .i64 4, .string ⟨#[]⟩, .string ⟨#[]⟩, .slice Ay ky cy] 24)) (by go_simp) ?_
              have hnx := (Ext.refl Non W).alloc (.cells #[.int .i64 4, .string ⟨#[]⟩, .string ⟨#[]⟩, .slice Ax kx cx, .int .i64 4, .string ⟨#[]⟩, .string ⟨#[]⟩, .slice Ay ky cy] 24)
              exact hK.out _ _ hnx ⟨_, rfl, two_kids (blk_new W _) trivial (hrx.ext0 hnx) (hry.ext0 hnx)⟩ (fun q hq => lgPr_step (by decide) (HKN.out.spec q hq) (fun b hq' hu hb hl => ⟨_, rfl, two_kids (blk_new W _) (show W.heap.size ≠ b by omega) ((KdQ.rd ((HKN.out.pair (8, 59) q hLx hq (fun e => by subst e; revert hq'; decide)).2 b hq' hu) H59.out).ext0 hnx) ((KdQ.rd ((HKN.out.pair (11, 62) q hLy hq (fun e => by subst e; revert hq'; decide)).2 b hq' hu) H62.out).ext0 hnx)⟩))
            · obtain rfl := Option.some.inj (ho.symm.trans (by simp only [List.getElem?_toArray, List.getElem?_cons_zero, List.getElem?_cons_succ]; rfl))
              clear ho hp
              have hL := hkn.after ⟨12, .data⟩ (by simp) (by rfl) 63 (by simp)
              obtain ⟨A0, h0, hr0⟩ : SlQ (fun _ => True) 2 (n + 2) [kindF 4 [(.mk op key val kids)], kindF 4 [(.mk op' key' val' kids')]] (a.eval (.tmp 63)) W := hkn.spec (12, 63) hL
              have h0' : a.tmps[63]?.getD undef = .slice A0 2 2 := by simpa [Act.eval] using h0
              refine Last.goes_ Try.func25 (by kernel_rfl) rfl #[.int .i64 6, .slice A0 2 2] (by rfl) rfl rfl (by simp [Act.eval, h0']) ?_
              refine (kind_calls W 6 A0 2 2).mono ?_
              rintro e' W' ⟨rfl, he'⟩
              exact ⟨_, rfl, hK.out _ _ he' ⟨A0, 2, 2, rfl, hr0.ext0 he'⟩ (fun q hq => lgPr_step (by decide) (hkn.spec q hq) (fun b hq' hu hb hl => ⟨A0, 2, 2, rfl, (SlQ.rd ((hkn.pair (12, 63) q hL hq (fun e => by subst e; revert hq'; decide)).2 b hq' hu) h0).ext0 he'⟩))⟩
            · obtain rfl := Option.some.inj (ho.symm.trans (by simp only [List.getElem?_toArray, List.getElem?_cons_zero, List.getElem?_cons_succ]; rfl))
              clear ho hp
              have HKN := Lib.hid hkn
              clear hkn
              refine Last.value_ (N := some 8) (by rfl) rfl (v := .pointer (some ⟨W.heap.size, 0, none⟩)) (w1 := W.alloc (.cells #[.int .i64 0, .string ⟨#[]⟩, .string ⟨#[]⟩, .slice none 0 0] 24)) (by go_simp) ?_
              exact hK.out _ _ ((Ext.refl Non W).alloc _) ⟨_, rfl, hsz, blk_new W _⟩ (fun q hq => lgPr_new (by decide) ((Ext.refl Non W).alloc _) (HKN.out.spec q hq))
            · obtain rfl := Option.some.inj (ho.symm.trans (by simp only [List.getElem?_toArray, List.getElem?_cons_zero, List.getElem?_cons_succ]; rfl))
              clear ho hp
              have HKN := Lib.hid hkn
              clear hkn
              refine Last.value_ (N := some 9) (by rfl) rfl (v := .pointer (some ⟨W.heap.size, 0, none⟩)) (w1 := W.alloc (.cells #[.int .i64 0, .string ⟨#[]⟩, .string ⟨#[]⟩, .slice none 0 0] 24)) (by go_simp) ?_
              exact hK.out _ _ ((Ext.refl Non W).alloc _) ⟨_, rfl, hsz, blk_new W _⟩ (fun q hq => lgPr_new (by decide) ((Ext.refl Non W).alloc _) (HKN.out.spec q hq))
          intro vs W he hsp hpr
          obtain ⟨A5, k5, c5, h5, -⟩ : KdQ (fun _ => True) 4 (n + 2) [kindF 5 [(.mk op key val kids), (.mk op' key' val' kids')]] (vs 5) W := hsp (5, 56) (by simp)
          obtain ⟨A6, k6, c6, h13, -⟩ : KdQ (fun _ => True) 6 (n + 2) [kindF 4 [(.mk op key val kids)], kindF 4 [(.mk op' key' val' kids')]] (vs 13) W := hsp (13, 64) (by simp)
          obtain ⟨b8, h14, hb8, k8⟩ : PtSp wy.heap.size (vs 14) W := hsp (14, 8) (by simp)
          obtain ⟨b9, h15, hb9, k9⟩ : PtSp wy.heap.size (vs 15) W := hsp (15, 9) (by simp)
          have hne : b8 ≠ b9 := fun e => (hpr (14, 8) (by simp) (15, 9) (by simp) (by decide)).1 (.inl rfl) (.inr rfl) (by rw [h14, h15, e])
          have r5 : Rd (fltK (n + 2)) W (fun k => k ≠ b8 ∧ k ≠ b9) (.slice A5 k5 c5) [kindF 5 [(.mk op key val kids), (.mk op' key' val' kids')]] := flts_and (KdQ.rd ((hpr (5, 56) (by simp) (14, 8) (by simp) (by decide)).2 b8 (.inl rfl) h14) h5) (KdQ.rd ((hpr (5, 56) (by simp) (15, 9) (by simp) (by decide)).2 b9 (.inr rfl) h15) h5)
          have r13 : Rd (fltK (n + 2)) W (fun k => k ≠ b8 ∧ k ≠ b9) (.slice A6 k6 c6) [kindF 4 [(.mk op key val kids)], kindF 4 [(.mk op' key' val' kids')]] := flts_and (KdQ.rd ((hpr (13, 64) (by simp) (14, 8) (by simp) (by decide)).2 b8 (.inl rfl) h14) h13) (KdQ.rd ((hpr (13, 64) (by simp) (15, 9) (by simp) (by decide)).2 b9 (.inr rfl) h15) h13)
          obtain ⟨v2, hv2⟩ : ∃ v, vs 2 = v := ⟨_, rfl⟩
          obtain ⟨v3, hv3⟩ : ∃ v, vs 3 = v := ⟨_, rfl⟩
          obtain ⟨v4, hv4⟩ : ∃ v, vs 4 = v := ⟨_, rfl⟩
          obtain ⟨v7, hv7⟩ : ∃ v, vs 7 = v := ⟨_, rfl⟩
          obtain ⟨v8, hv8⟩ : ∃ v, vs 8 = v := ⟨_, rfl⟩
          obtain ⟨v10, hv10⟩ : ∃ v, vs 10 = v := ⟨_, rfl⟩
          obtain ⟨v11, hv11⟩ : ∃ v, vs 11 = v := ⟨_, rfl⟩
          obtain ⟨v12, hv12⟩ : ∃ v, vs 12 = v := ⟨_, rfl⟩
          have EWW : Hid (Ext Non wc W) := EY.out.trans0 he
          have hS := lgS (Bwc.out.ext0 EWW.out)
          simp only [Last.fill, hv2, hv3, hv4, hv7, hv8, hv10, hv11, hv12, h5, h13, h14, h15, Act.put, List.setIfInBounds_toArray, List.set_cons_zero, List.set_cons_succ]
          have K8 := Lib.hid k8
          have K9 := Lib.hid k9
          have R5 := Lib.hid r5
          have R13 := Lib.hid r13
          have HNE := Lib.hid hne
          have hq3 : q1 < wc.heap.size ∧ q2 < wc.heap.size ∧ q3 < wc.heap.size := ⟨blk_lt Bwc.out.f, blk_lt Bwc.out.g, blk_lt Bwc.out.e⟩
          have hyc : wc.heap.size ≤ wy.heap.size := EY.out.size
          have hl8 := blk_lt k8
          have hl9 := blk_lt k9
          obtain ⟨y0, y1, y2, y3⟩ : W.cell? ⟨b8, 0, none⟩ = some (.int .i64 0) ∧ W.cell? ⟨b8, 1, none⟩ = some (.string ⟨#[]⟩) ∧ W.cell? ⟨b8, 2, none⟩ = some (.string ⟨#[]⟩) ∧ W.cell? ⟨b8, 3, none⟩ = some (.slice none 0 0) := ⟨blk_cell k8 0, blk_cell k8 1, blk_cell k8 2, blk_cell k8 3⟩
          have z0 := blk_frozen k8 0
          have z1 := blk_frozen k8 1
          have z2 := blk_frozen k8 2
          have z3 := blk_frozen k8 3
          clear hsp hpr hv2 hv3 hv4 hv7 hv8 hv10 hv11 hv12 h5 h13 h14 h15 k8 k9 r5 r13 hne he
          refine Last.one_ (i := 16) (N := none) #[true, true, true, true, true, true, true, true, true, true, true, true, true, true, true, true, true, false] (by simp only [List.getElem?_toArray, List.getElem?_cons_zero, List.getElem?_cons_succ]; rfl) rfl (by kernel_rfl) (by decide) (fun K hK => ?_)
          go_simp
          obtain ⟨Wa, hWa⟩ : ∃ Wa, ((((W.setCell ⟨b8, 0, none⟩ (.int .i64 4)).setCell ⟨b8, 1, none⟩ (.string ⟨#[]⟩)).setCell ⟨b8, 2, none⟩ (.string ⟨#[]⟩)).setCell ⟨b8, 3, none⟩ (.slice A5 k5 c5)) = Wa := ⟨_, rfl⟩
          have EA : Hid (Ext (Only b8) W Wa) := by rw [← hWa]; exact ((((Ext.refl (Only b8) _).setCell (p := ⟨b8, 0, none⟩) (fun _ => rfl) _).setCell (p := ⟨b8, 1, none⟩) (fun _ => rfl) _).setCell (p := ⟨b8, 2, none⟩) (fun _ => rfl) _).setCell (p := ⟨b8, 3, none⟩) (fun _ => rfl) _
          have KA8 : Hid (Wa.heap[b8]? = some (.cells #[.int .i64 4, .string ⟨#[]⟩, .string ⟨#[]⟩, .slice A5 k5 c5] 24 (0, 0))) := by
            rw [← hWa]
            have := blk_set (blk_set (blk_set (blk_set K8.out 0 (.int .i64 4)) 1 (.string ⟨#[]⟩)) 2 (.string ⟨#[]⟩)) 3 (.slice A5 k5 c5)
            simpa [Hid] using this
          have KA9 := Lib.hid (EA.out.obj K9.out (fun e => HNE.out (Eq.symm e)))
          have R5a := Lib.hid (R5.out.ext EA.out (fun k hk _ e => hk.1 e))
          have R13a := Lib.hid (R13.out.ext EA.out (fun k hk _ e => hk.1 e))
          have EWA : Hid (Ext Non wc Wa) := EWW.out.trans EA.out (fun i hi e => by have e' : i = b8 := e; omega)
          rw [hWa]
          have hs8 : W.heap.size ≤ Wa.heap.size := EA.out.size
          clear hWa y0 y1 y2 y3 z0 z1 z2 z3
          have hl8 : b8 < Wa.heap.size := by omega
          have hl9 : b9 < Wa.heap.size := by omega
          obtain ⟨y0, y1, y2, y3⟩ : Wa.cell? ⟨b9, 0, none⟩ = some (.int .i64 0) ∧ Wa.cell? ⟨b9, 1, none⟩ = some (.string ⟨#[]⟩) ∧ Wa.cell? ⟨b9, 2, none⟩ = some (.string ⟨#[]⟩) ∧ Wa.cell? ⟨b9, 3, none⟩ = some (.slice none 0 0) := ⟨blk_cell KA9.out 0, blk_cell KA9.out 1, blk_cell KA9.out 2, blk_cell KA9.out 3⟩
          have z0 := blk_frozen KA9.out 0
          have z1 := blk_frozen KA9.out 1
          have z2 := blk_frozen KA9.out 2
          have z3 := blk_frozen KA9.out 3
          refine hK.out _ _ (lgS (Bwc.out.ext0 EWA.out)) (fun hS => ?_)
          try simp only [Act.put, List.setIfInBounds_toArray, List.set_cons_zero, List.set_cons_succ]
          refine Last.one_ (i := 17) (N := none) #[true, true, true, true, true, true, true, true, true, true, true, true, true, true, true, true, true, true] (by simp only [List.getElem?_toArray, List.getElem?_cons_zero, List.getElem?_cons_succ]; rfl) rfl (by kernel_rfl) (by decide) (fun K hK => ?_)
          go_simp
          obtain ⟨Wb, hWb⟩ : ∃ Wb, ((((Wa.setCell ⟨b9, 0, none⟩ (.int .i64 6)).setCell ⟨b9, 1, none⟩ (.string ⟨#[]⟩)).setCell ⟨b9, 2, none⟩ (.string ⟨#[]⟩)).setCell ⟨b9, 3, none⟩ (.slice A6 k6 c6)) = Wb := ⟨_, rfl⟩
          have EB : Hid (Ext (Only b9) Wa Wb) := by rw [← hWb]; exact ((((Ext.refl (Only b9) _).setCell (p := ⟨b9, 0, none⟩) (fun _ => rfl) _).setCell (p := ⟨b9, 1, none⟩) (fun _ => rfl) _).setCell (p := ⟨b9, 2, none⟩) (fun _ => rfl) _).setCell (p := ⟨b9, 3, none⟩) (fun _ => rfl) _
          have KB9 : Hid (Wb.heap[b9]? = some (.cells #[.int .i64 6, .string ⟨#[]⟩, .string ⟨#[]⟩, .slice A6 k6 c6] 24 (0, 0))) := by
            rw [← hWb]
            have := blk_set (blk_set (blk_set (blk_set KA9.out 0 (.int .i64 6)) 1 (.string ⟨#[]⟩)) 2 (.string ⟨#[]⟩)) 3 (.slice A6 k6 c6)
            simpa [Hid] using this
          have KB8 := Lib.hid (EB.out.obj KA8.out (fun e => HNE.out e))
          have VA : Hid (FV (n + 2) Wb (fun _ => True) (.agg #[.int .i64 4, .string ⟨#[]⟩, .string ⟨#[]⟩, .slice A5 k5 c5]) (kindF 4 [kindF 5 [(.mk op key val kids), (.mk op' key' val' kids')]])) := kind_fv ((R5a.out.ext EB.out (fun k hk _ e => hk.2 e)).mono (fun _ _ => trivial))
          have VB : Hid (FV (n + 2) Wb (fun _ => True) (.agg #[.int .i64 6, .string ⟨#[]⟩, .string ⟨#[]⟩, .slice A6 k6 c6]) (kindF 6 [kindF 4 [(.mk op key val kids)], kindF 4 [(.mk op' key' val' kids')]])) := kind_fv ((R13a.out.ext EB.out (fun k hk _ e => hk.2 e)).mono (fun _ _ => trivial))
          have EWB : Hid (Ext Non wc Wb) := EWA.out.trans EB.out (fun i hi e => by have e' : i = b9 := e; omega)
          rw [hWb]
          clear hWb y0 y1 y2 y3 z0 z1 z2 z3
          refine hK.out _ _ (lgS (Bwc.out.ext0 EWB.out)) (fun hS => ?_)
          try simp only [Act.put, List.setIfInBounds_toArray, List.set_cons_zero, List.set_cons_succ]
          refine Last.done_ (by kernel_rfl) ?_
          have Ewb : Hid (Ext Non w3 Wb) := Ewc.out.trans0 EWB.out
          have OC : Hid (okF (n + 2) (kindF 5 [(.mk op key val kids), (.mk op' key' val' kids')])) := kindF_okF (inI_lit 5 (by omega)) (by simp) (fun k hk => by rcases List.mem_cons.1 hk with rfl | hk; exact HOF.out; rw [List.mem_singleton] at hk; subst hk; exact HOG.out)
          have OA : Hid (okF (n + 3) (kindF 4 [kindF 5 [(.mk op key val kids), (.mk op' key' val' kids')]])) := kindF_okF (inI_lit 4 (by omega)) (by simp) (fun k hk => by rw [List.mem_singleton] at hk; subst hk; exact OC.out)
          have ON : ∀ h, okF (n + 1) h → okF (n + 2) (kindF 4 [h]) := fun h hh => kindF_okF (inI_lit 4 (by omega)) (by simp) (fun k hk => by rw [List.mem_singleton] at hk; subst hk; exact hh)
          have OB : Hid (okF (n + 3) (kindF 6 [kindF 4 [(.mk op key val kids)], kindF 4 [(.mk op' key' val' kids')]])) := kindF_okF (inI_lit 6 (by omega)) (by simp) (fun k hk => by rcases List.mem_cons.1 hk with rfl | hk; exact ON _ HOF.out; rw [List.mem_singleton] at hk; subst hk; exact ON _ HOG.out)
          have Bwb := Lib.hid (B3.out.ext0 Ewb.out)
          obtain ⟨x0, x1, x2, x3⟩ : Wb.cell? ⟨b8, 0, none⟩ = some (.int .i64 4) ∧ Wb.cell? ⟨b8, 1, none⟩ = some (.string ⟨#[]⟩) ∧ Wb.cell? ⟨b8, 2, none⟩ = some (.string ⟨#[]⟩) ∧ Wb.cell? ⟨b8, 3, none⟩ = some (.slice A5 k5 c5) := ⟨blk_cell KB8.out 0, blk_cell KB8.out 1, blk_cell KB8.out 2, blk_cell KB8.out 3⟩
          clear ON hS R5 R13 R5a R13a KA8 KA9 EA EB EWA hs8 hl8 hl9 hq3 hyc hb3 hb8 hb9 K8 K9 EWW EY Bwc
          have HA0 := Lib.hid (Check_calls VA.out OA.out)
          have HBC : Hid (∀ V, Ext Non Wb V → Calls Try.prog 14 #[.agg #[.int .i64 6, .string ⟨#[]⟩, .string ⟨#[]⟩, .slice A6 k6 c6]] V fun e w' => e = .returned (.int .i64 (checkE (n + 3) (kindF 6 [kindF 4 [(.mk op key val kids)], kindF 4 [(.mk op' key' val' kids')]]))) ∧ Ext Non V w') := fun V hv => Check_calls (VB.out.ext0 hv) OB.out
          go_wp2_with fail
          refine HA0.out.mono ?_
          rintro e' wj ⟨rfl, he⟩
          have Ewj : Hid (Ext Non w3 wj) := Ewb.out.trans0 he
          have Zwj : Hid (Ext Non Wb wj) := he
          clear he x0 x1 x2 x3 HA0
          by_cases ca : checkE (n + 3) (kindF 4 [kindF 5 [(.mk op key val kids), (.mk op' key' val' kids')]]) = 0
          · rw [ca]
            obtain ⟨y0, y1, y2, y3⟩ : wj.cell? ⟨b9, 0, none⟩ = some (.int .i64 6) ∧ wj.cell? ⟨b9, 1, none⟩ = some (.string ⟨#[]⟩) ∧ wj.cell? ⟨b9, 2, none⟩ = some (.string ⟨#[]⟩) ∧ wj.cell? ⟨b9, 3, none⟩ = some (.slice A6 k6 c6) := by
              have := Zwj.out.obj KB9.out (fun e => e)
              exact ⟨blk_cell this 0, blk_cell this 1, blk_cell this 2, blk_cell this 3⟩
            have HCA := Lib.hid ca
            clear ca
            go_wp2_with fail
            refine (HBC.out _ Zwj.out).mono ?_
            rintro e' wl ⟨rfl, he⟩
            have Ewl : Hid (Ext Non w3 wl) := Ewj.out.trans0 he
            have Zl : Hid (Ext Non Wb wl) := Zwj.out.trans0 he
            clear he y0 y1 y2 y3
            by_cases cb : checkE (n + 3) (kindF 6 [kindF 4 [(.mk op key val kids)], kindF 4 [(.mk op' key' val' kids')]]) = 0
            · rw [cb]
              obtain ⟨hL1, hL2⟩ := logic_law (fp := fieldF) (e := e) HLF.out HLG.out HCA.out cb
              obtain ⟨hv, hhv⟩ : ∃ hv, holdsP fieldF (n + 3) (kindF 4 [kindF 5 [(.mk op key val kids), (.mk op' key' val' kids')]]) e = hv := ⟨_, rfl⟩
              rw [hhv] at hL1
              have HV1 := Lib.hid hhv
              have HV2 : Hid (holdsP fieldF (n + 3) (kindF 6 [kindF 4 [(.mk op key val kids)], kindF 4 [(.mk op' key' val' kids')]]) e = hv) := hL1.symm
              obtain ⟨hf, hhf⟩ : ∃ hf, holdsP fieldF (n + 1) (.mk op key val kids) e = hf := ⟨_, rfl⟩
              obtain ⟨hg, hhg⟩ : ∃ hg, holdsP fieldF (n + 1) (.mk op' key' val' kids') e = hg := ⟨_, rfl⟩
              rw [hhf, hhg] at hL2
              have HV4 := Lib.hid hhf
              have HV5 := Lib.hid hhg
              have VA2 := Lib.hid (VA.out.ext0 Zl.out)
              have VB2 := Lib.hid (VB.out.ext0 Zl.out)
              have Bwl := Lib.hid (B3.out.ext0 Ewl.out)
              have KL8 := Lib.hid (Zl.out.obj KB8.out (fun e => e))
              have KL9 := Lib.hid (Zl.out.obj KB9.out (fun e => e))
              clear cb hL1 hhv hhf hhg
              go_wp2_with fail
              cases hf with
              | true =>
                have HV3 : Hid (holdsP fieldF (n + 2) (kindF 5 [(.mk op key val kids), (.mk op' key' val' kids')]) e = hg) := hL2.trans (Bool.true_and _)
                clear hL2
                refine Last.start_ (S := fun W => W.cell? ⟨q1, 0, none⟩ = some (.int .i64 op) ∧ W.cell? ⟨q1, 1, none⟩ = some (.string key) ∧ W.cell? ⟨q1, 2, none⟩ = some (.string val) ∧ W.cell? ⟨q1, 3, none⟩ = some (.slice A m c) ∧ W.cell? ⟨q2, 0, none⟩ = some (.int .i64 op') ∧ W.cell? ⟨q2, 1, none⟩ = some (.string key') ∧ W.cell? ⟨q2, 2, none⟩ = some (.string val') ∧ W.cell? ⟨q2, 3, none⟩ = some (.slice A' m' c') ∧ W.cell? ⟨q3, 0, none⟩ = some (.int .i64 e.pos) ∧ W.cell? ⟨q3, 1, none⟩ = some (.string e.key) ∧ W.cell? ⟨q3, 2, none⟩ = some (.bool e.had) ∧ W.cell? ⟨q3, 3, none⟩ = some (.string e.old) ∧ W.cell? ⟨q3, 4, none⟩ = some (.bool e.has) ∧ W.cell? ⟨q3, 5, none⟩ = some (.string e.now) ∧ W.cell? ⟨b8, 0, none⟩ = some (.int .i64 4) ∧ W.cell? ⟨b8, 1, none⟩ = some (.string ⟨#[]⟩) ∧ W.cell? ⟨b8, 2, none⟩ = some (.string ⟨#[]⟩) ∧ W.cell? ⟨b8, 3, none⟩ = some (.slice A5 k5 c5) ∧ W.cell? ⟨b9, 0, none⟩ = some (.int .i64 6) ∧ W.cell? ⟨b9, 1, none⟩ = some (.string ⟨#[]⟩) ∧ W.cell? ⟨b9, 2, none⟩ = some (.string ⟨#[]⟩) ∧ W.cell? ⟨b9, 3, none⟩ = some (.slice A6 k6 c6)) (ds := []) #[false, false, false, false, false, false, false, false, false, false, false, false, false, false, false, false, false, false, false, false, false, false, false, false, false, false, false, false] (by kernel_rfl) (by rfl) (by rfl) (lgS7 (Bwl.out.ext0 (Ext.refl Non wl).drew) ((Ext.refl Non wl).drew.obj KL8.out (fun e => e)) ((Ext.refl Non wl).drew.obj KL9.out (fun e => e))) (fun hS => ?_)
                refine Last.take_ (i := 0) (N := some 74) (v := .agg #[.int .i64 4, .string ⟨#[]⟩, .string ⟨#[]⟩, .slice A5 k5 c5]) #[true, false, false, false, false, false, false, false, false, false, false, false, false, false, false, false, false, false, false, false, false, false, false, false, false, false, false, false] (by simp only [List.getElem?_toArray, List.getElem?_cons_zero]; rfl) rfl (by kernel_rfl) (by exact fun _ _ _ h => h) (Or.inl ⟨by rfl, fun W hW => by first | rfl | (try dsimp only at hW); go_simp⟩) hS rfl ?_
                simp only [Act.put, List.setIfInBounds_toArray, List.set_cons_zero, List.set_cons_succ]
                refine Last.take_ (i := 1) (N := some 75) (v := .agg #[.int .i64 e.pos, .string e.key, .bool e.had, .string e.old, .bool e.has, .string e.now]) #[true, true, false, false, false, false, false, false, false, false, false, false, false, false, false, false, false, false, false, false, false, false, false, false, false, false, false, false] (by simp only [List.getElem?_toArray, List.getElem?_cons_zero, List.getElem?_cons_succ]; rfl) rfl (by kernel_rfl) (by exact fun _ _ _ h => h) (Or.inl ⟨by rfl, fun W hW => by first | rfl | (try dsimp only at hW); go_simp⟩) hS rfl ?_
                simp only [Act.put, List.setIfInBounds_toArray, List.set_cons_zero, List.set_cons_succ]
                refine Last.take_ (i := 3) (N := some 77) (v := .agg #[.int .i64 6, .string ⟨#[]⟩, .string ⟨#[]⟩, .slice A6 k6 c6]) #[true, true, false, true, false, false, false, false, false, false, false, false, false, false, false, false, false, false, false, false, false, false, false, false, false, false, false, false] (by simp only [List.getElem?_toArray, List.getElem?_cons_zero, List.getElem?_cons_succ]; rfl) rfl (by kernel_rfl) (by exact fun _ _ _ h => h) (Or.inl ⟨by rfl, fun W hW => by first | rfl | (try dsimp only at hW); go_simp⟩) hS rfl ?_
                simp only [Act.put, List.setIfInBounds_toArray, List.set_cons_zero, List.set_cons_succ]
                refine Last.take_ (i := 4) (N := some 78) (v := .agg #[.int .i64 e.pos, .string e.key, .bool e.had, .string e.old, .bool e.has, .string e.now]) #[true, true, false, true, true, false, false, false, false, false, false, false, false, false, false, false, false, false, false, false, false, false, false, false, false, false, false, false] (by simp only [List.getElem?_toArray, List.getElem?_cons_zero, List.getElem?_cons_succ]; rfl) rfl (by kernel_rfl) (by exact fun _ _ _ h => h) (Or.inl ⟨by rfl, fun W hW => by first | rfl | (try dsimp only at hW); go_simp⟩) hS rfl ?_
                simp only [Act.put, List.setIfInBounds_toArray, List.set_cons_zero, List.set_cons_succ]
                refine Last.one_ (i := 2) (N := some 76) #[true, true, true, true, true, false, false, false, false, false, false, false, false, false, false, false, false, false, false, false, false, false, false, false, false, false, false, false] (by simp only [List.getElem?_toArray, List.getElem?_cons_zero, List.getElem?_cons_succ]; rfl) rfl (by kernel_rfl) (by decide) (fun K hK => ?_)
                refine Last.goes_ Try.func24 (by kernel_rfl) rfl #[.agg #[.int .i64 4, .string ⟨#[]⟩, .string ⟨#[]⟩, .slice A5 k5 c5], .agg #[.int .i64 e.pos, .string e.key, .bool e.had, .string e.old, .bool e.has, .string e.now]] (by rfl) rfl rfl (by simp [Act.eval]) ?_
                refine (Holds_calls (fp := fieldF) (e := e) (VA2.out.ext0 (Ext.refl Non wl).drew) OA.out (.inr Field_calls) HES.out).mono ?_
                rw [HV1.out]
                rintro e' wa ⟨rfl, he⟩
                have Zwa : Hid (Ext Non wl wa) := (Ext.refl Non wl).drew.trans0 he
                clear he
                refine ⟨_, rfl, ?_⟩
                refine hK.out _ _ (lgS7 (Bwl.out.ext0 Zwa.out) (Zwa.out.obj KL8.out (fun e => e)) (Zwa.out.obj KL9.out (fun e => e))) (fun hS => ?_)
                try simp only [Act.put, List.setIfInBounds_toArray, List.set_cons_zero, List.set_cons_succ]
                refine Last.one_ (i := 5) (N := some 79) #[true, true, true, true, true, true, false, false, false, false, false, false, false, false, false, false, false, false, false, false, false, false, false, false, false, false, false, false] (by simp only [List.getElem?_toArray, List.getElem?_cons_zero, List.getElem?_cons_succ]; rfl) rfl (by kernel_rfl) (by decide) (fun K hK => ?_)
                refine Last.goes_ Try.func24 (by kernel_rfl) rfl #[.agg #[.int .i64 6, .string ⟨#[]⟩, .string ⟨#[]⟩, .slice A6 k6 c6], .agg #[.int .i64 e.pos, .string e.key, .bool e.had, .string e.old, .bool e.has, .string e.now]] (by rfl) rfl rfl (by simp [Act.eval]) ?_
                refine (Holds_calls (fp := fieldF) (e := e) (VB2.out.ext0 Zwa.out) OB.out (.inr Field_calls) HES.out).mono ?_
                rw [HV2.out]
                rintro e' wb ⟨rfl, he⟩
                have Zwb : Hid (Ext Non wl wb) := Zwa.out.trans0 he
                clear he
                refine ⟨_, rfl, ?_⟩
                refine hK.out _ _ (lgS7 (Bwl.out.ext0 Zwb.out) (Zwb.out.obj KL8.out (fun e => e)) (Zwb.out.obj KL9.out (fun e => e))) (fun hS => ?_)
                try simp only [Act.put, List.setIfInBounds_toArray, List.set_cons_zero, List.set_cons_succ]
                refine Last.take_ (i := 6) (N := some 80) (v := .bool true) #[true, true, true, true, true, true, true, false, false, false, false, false, false, false, false, false, false, false, false, false, false, false, false, false, false, false, false, false] (by simp only [List.getElem?_toArray, List.getElem?_cons_zero, List.getElem?_cons_succ]; rfl) rfl (by kernel_rfl) (by exact fun _ _ _ h => h) (Or.inl ⟨by rfl, fun W hW => by first | rfl | (try dsimp only at hW); go_simp⟩) hS rfl ?_
                simp only [Act.put, List.setIfInBounds_toArray, List.set_cons_zero, List.set_cons_succ]
                refine Last.take_ (i := 7) (N := some 81) (v := .bool true) #[true, true, true, true, true, true, true, true, false, false, false, false, false, false, false, false, false, false, false, false, false, false, false, false, false, false, false, false] (by simp only [List.getElem?_toArray, List.getElem?_cons_zero, List.getElem?_cons_succ]; rfl) rfl (by kernel_rfl) (by exact fun _ _ _ h => h) (Or.inl ⟨by rfl, fun W hW => by first | rfl | (try dsimp only at hW); go_simp⟩) hS rfl ?_
                simp only [Act.put, List.setIfInBounds_toArray, List.set_cons_zero, List.set_cons_succ]
                refine Last.take_ (i := 8) (N := some 82) (v := .agg #[.int .i64 op, .string key, .string val, .slice A m c]) #[true, true, true, true, true, true, true, true, true, false, false, false, false, false, false, false, false, false, false, false, false, false, false, false, false, false, false, false] (by simp only [List.getElem?_toArray, List.getElem?_cons_zero, List.getElem?_cons_succ]; rfl) rfl (by kernel_rfl) (by exact fun _ _ _ h => h) (Or.inl ⟨by rfl, fun W hW => by first | rfl | (try dsimp only at hW); go_simp⟩) hS rfl ?_
                simp only [Act.put, List.setIfInBounds_toArray, List.set_cons_zero, List.set_cons_succ]
                refine Last.take_ (i := 9) (N := some 83) (v := .agg #[.int .i64 op', .string key', .string val', .slice A' m' c']) #[true, true, true, true, true, true, true, true, true, true, false, false, false, false, false, false, false, false, false, false, false, false, false, false, false, false, false, false] (by simp only [List.getElem?_toArray, List.getElem?_cons_zero, List.getElem?_cons_succ]; rfl) rfl (by kernel_rfl) (by exact fun _ _ _ h => h) (Or.inl ⟨by rfl, fun W hW => by first | rfl | (try dsimp only at hW); go_simp⟩) hS rfl ?_
                simp only [Act.put, List.setIfInBounds_toArray, List.set_cons_zero, List.set_cons_succ]
                refine Last.take_ (i := 12) (N := some 86) (v := .agg #[.int .i64 e.pos, .string e.key, .bool e.had, .string e.old, .bool e.has, .string e.now]) #[true, true, true, true, true, true, true, true, true, true, false, false, true, false, false, false, false, false, false, false, false, false, false, false, false, false, false, false] (by simp only [List.getElem?_toArray, List.getElem?_cons_zero, List.getElem?_cons_succ]; rfl) rfl (by kernel_rfl) (by exact fun _ _ _ h => h) (Or.inl ⟨by rfl, fun W hW => by first | rfl | (try dsimp only at hW); go_simp⟩) hS rfl ?_
                simp only [Act.put, List.setIfInBounds_toArray, List.set_cons_zero, List.set_cons_succ]
                refine Last.take_ (i := 14) (N := some 88) (v := .agg #[.int .i64 op, .string key, .string val, .slice A m c]) #[true, true, true, true, true, true, true, true, true, true, false, false, true, false, true, false, false, false, false, false, false, false, false, false, false, false, false, false] (by simp only [List.getElem?_toArray, List.getElem?_cons_zero, List.getElem?_cons_succ]; rfl) rfl (by kernel_rfl) (by exact fun _ _ _ h => h) (Or.inl ⟨by rfl, fun W hW => by first | rfl | (try dsimp only at hW); go_simp⟩) hS rfl ?_
                simp only [Act.put, List.setIfInBounds_toArray, List.set_cons_zero, List.set_cons_succ]
                refine Last.take_ (i := 15) (N := some 89) (v := .agg #[.int .i64 e.pos, .string e.key, .bool e.had, .string e.old, .bool e.has, .string e.now]) #[true, true, true, true, true, true, true, true, true, true, false, false, true, false, true, true, false, false, false, false, false, false, false, false, false, false, false, false] (by simp only [List.getElem?_toArray, List.getElem?_cons_zero, List.getElem?_cons_succ]; rfl) rfl (by kernel_rfl) (by exact fun _ _ _ h => h) (Or.inl ⟨by rfl, fun W hW => by first | rfl | (try dsimp only at hW); go_simp⟩) hS rfl ?_
                simp only [Act.put, List.setIfInBounds_toArray, List.set_cons_zero, List.set_cons_succ]
                refine Last.one_ (i := 10) (N := some 84) #[true, true, true, true, true, true, true, true, true, true, true, false, true, false, true, true, false, false, false, false, false, false, false, false, false, false, false, false] (by simp only [List.getElem?_toArray, List.getElem?_cons_zero, List.getElem?_cons_succ]; rfl) rfl (by kernel_rfl) (by decide) (fun K hK => ?_)
                go_simp
                obtain ⟨pz, hpz⟩ : ∃ p, wb.heap.size = p := ⟨_, rfl⟩
                obtain ⟨wz, hwz⟩ : ∃ W, wb.alloc (.cells #[.int .i64 op, .string key, .string val, .slice A m c, .int .i64 op', .string key', .string val', .slice A' m' c'] 24) = W := ⟨_, rfl⟩
                have Zwz : Hid (Ext Non wl wz) := by rw [← hwz]; exact Zwb.out.alloc _
                have KZ : Hid (wz.heap[pz]? = some (.cells #[.int .i64 op, .string key, .string val, .slice A m c, .int .i64 op', .string key', .string val', .slice A' m' c'] 24 (0, 0))) := by rw [← hwz, ← hpz]; exact blk_new wb _
                have RZ : Hid (Rd (fltK (n + 1)) wz (fun _ => True) (.slice (some ⟨pz, 0, none⟩) 2 2) [(.mk op key val kids), (.mk op' key' val' kids')]) := two_kids KZ.out trivial (RF.out.ext0 (Ewl.out.trans0 Zwz.out)) (RG.out.ext0 (Ewl.out.trans0 Zwz.out))
                rw [hwz, hpz]
                clear hwz hpz
                refine hK.out _ _ (lgS7 (Bwl.out.ext0 Zwz.out) (Zwz.out.obj KL8.out (fun e => e)) (Zwz.out.obj KL9.out (fun e => e))) (fun hS => ?_)
                try simp only [Act.put, List.setIfInBounds_toArray, List.set_cons_zero, List.set_cons_succ]
                refine Last.one_ (i := 11) (N := some 85) #[true, true, true, true, true, true, true, true, true, true, true, true, true, false, true, true, false, false, false, false, false, false, false, false, false, false, false, false] (by simp only [List.getElem?_toArray, List.getElem?_cons_zero, List.getElem?_cons_succ]; rfl) rfl (by kernel_rfl) (by decide) (fun K hK => ?_)
                refine Last.goes_ Try.func25 (by kernel_rfl) rfl #[.int .i64 5, .slice (some ⟨pz, 0, none⟩) 2 2] (by rfl) rfl rfl (by simp [Act.eval]) ?_
                refine (kind_calls _ 5 (some ⟨pz, 0, none⟩) 2 2).mono ?_
                rintro e' wk ⟨rfl, he⟩
                have Zwk : Hid (Ext Non wl wk) := Zwz.out.trans0 he
                have VK : Hid (FV (n + 1) wk (fun _ => True) (.agg #[.int .i64 5, .string ⟨#[]⟩, .string ⟨#[]⟩, .slice (some ⟨pz, 0, none⟩) 2 2]) (kindF 5 [(.mk op key val kids), (.mk op' key' val' kids')])) := kind_fv (RZ.out.ext0 he)
                clear he
                refine ⟨_, rfl, ?_⟩
                refine hK.out _ _ (lgS7 (Bwl.out.ext0 Zwk.out) (Zwk.out.obj KL8.out (fun e => e)) (Zwk.out.obj KL9.out (fun e => e))) (fun hS => ?_)
                try simp only [Act.put, List.setIfInBounds_toArray, List.set_cons_zero, List.set_cons_succ]
                refine Last.one_ (i := 13) (N := some 87) #[true, true, true, true, true, true, true, true, true, true, true, true, true, true, true, true, false, false, false, false, false, false, false, false, false, false, false, false] (by simp only [List.getElem?_toArray, List.getElem?_cons_zero, List.getElem?_cons_succ]; rfl) rfl (by kernel_rfl) (by decide) (fun K hK => ?_)
                refine Last.goes_ Try.func24 (by kernel_rfl) rfl #[.agg #[.int .i64 5, .string ⟨#[]⟩, .string ⟨#[]⟩, .slice (some ⟨pz, 0, none⟩) 2 2], .agg #[.int .i64 e.pos, .string e.key, .bool e.had, .string e.old, .bool e.has, .string e.now]] (by rfl) rfl rfl (by simp [Act.eval]) ?_
                refine (Holds_calls (fp := fieldF) (e := e) (VK.out) OC.out (.inr Field_calls) HES.out).mono ?_
                rw [HV3.out]
                rintro e' wm ⟨rfl, he⟩
                have Zwm : Hid (Ext Non wl wm) := Zwk.out.trans0 he
                clear he
                refine ⟨_, rfl, ?_⟩
                refine hK.out _ _ (lgS7 (Bwl.out.ext0 Zwm.out) (Zwm.out.obj KL8.out (fun e => e)) (Zwm.out.obj KL9.out (fun e => e))) (fun hS => ?_)
                try simp only [Act.put, List.setIfInBounds_toArray, List.set_cons_zero, List.set_cons_succ]
                refine Last.one_ (i := 16) (N := some 90) #[true, true, true, true, true, true, true, true, true, true, true, true, true, true, true, true, true, false, false, false, false, false, false, false, false, false, false, false] (by simp only [List.getElem?_toArray, List.getElem?_cons_zero, List.getElem?_cons_succ]; rfl) rfl (by kernel_rfl) (by decide) (fun K hK => ?_)
                refine Last.goes_ Try.func24 (by kernel_rfl) rfl #[.agg #[.int .i64 op, .string key, .string val, .slice A m c], .agg #[.int .i64 e.pos, .string e.key, .bool e.had, .string e.old, .bool e.has, .string e.now]] (by rfl) rfl rfl (by simp [Act.eval]) ?_
                refine (Holds_calls (fp := fieldF) (e := e) (VF.out.ext0 (Ewl.out.trans0 Zwm.out)) HOF.out (.inr Field_calls) HES.out).mono ?_
                rw [HV4.out]
                rintro e' wn ⟨rfl, he⟩
                have Zwn : Hid (Ext Non wl wn) := Zwm.out.trans0 he
                clear he
                refine ⟨_, rfl, ?_⟩
                refine hK.out _ _ (lgS7 (Bwl.out.ext0 Zwn.out) (Zwn.out.obj KL8.out (fun e => e)) (Zwn.out.obj KL9.out (fun e => e))) (fun hS => ?_)
                try simp only [Act.put, List.setIfInBounds_toArray, List.set_cons_zero, List.set_cons_succ]
                refine Last.take_ (i := 17) (N := some 91) (v := .bool true) #[true, true, true, true, true, true, true, true, true, true, true, true, true, true, true, true, true, true, false, false, false, false, false, false, false, false, false, false] (by simp only [List.getElem?_toArray, List.getElem?_cons_zero, List.getElem?_cons_succ]; rfl) rfl (by kernel_rfl) (by exact fun _ _ _ h => h) (Or.inl ⟨by rfl, fun W hW => by first | rfl | (try dsimp only at hW); go_simp⟩) hS rfl ?_
                simp only [Act.put, List.setIfInBounds_toArray, List.set_cons_zero, List.set_cons_succ]
                refine Last.take_ (i := 18) (N := some 92) (v := .agg #[.int .i64 op', .string key', .string val', .slice A' m' c']) #[true, true, true, true, true, true, true, true, true, true, true, true, true, true, true, true, true, true, true, false, false, false, false, false, false, false, false, false] (by simp only [List.getElem?_toArray, List.getElem?_cons_zero, List.getElem?_cons_succ]; rfl) rfl (by kernel_rfl) (by exact fun _ _ _ h => h) (Or.inl ⟨by rfl, fun W hW => by first | rfl | (try dsimp only at hW); go_simp⟩) hS rfl ?_
                simp only [Act.put, List.setIfInBounds_toArray, List.set_cons_zero, List.set_cons_succ]
                refine Last.take_ (i := 19) (N := some 93) (v := .agg #[.int .i64 e.pos, .string e.key, .bool e.had, .string e.old, .bool e.has, .string e.now]) #[true, true, true, true, true, true, true, true, true, true, true, true, true, true, true, true, true, true, true, true, false, false, false, false, false, false, false, false] (by simp only [List.getElem?_toArray, List.getElem?_cons_zero, List.getElem?_cons_succ]; rfl) rfl (by kernel_rfl) (by exact fun _ _ _ h => h) (Or.inl ⟨by rfl, fun W hW => by first | rfl | (try dsimp only at hW); go_simp⟩) hS rfl ?_
                simp only [Act.put, List.setIfInBounds_toArray, List.set_cons_zero, List.set_cons_succ]
                refine Last.one_ (i := 20) (N := some 94) #[true, true, true, true, true, true, true, true, true, true, true, true, true, true, true, true, true, true, true, true, true, false, false, false, false, false, false, false] (by simp only [List.getElem?_toArray, List.getElem?_cons_zero, List.getElem?_cons_succ]; rfl) rfl (by kernel_rfl) (by decide) (fun K hK => ?_)
                refine Last.goes_ Try.func24 (by kernel_rfl) rfl #[.agg #[.int .i64 op', .string key', .string val', .slice A' m' c'], .agg #[.int .i64 e.pos, .string e.key, .bool e.had, .string e.old, .bool e.has, .string e.now]] (by rfl) rfl rfl (by simp [Act.eval]) ?_
                refine (Holds_calls (fp := fieldF) (e := e) (VG.out.ext0 (Ewl.out.trans0 Zwn.out)) HOG.out (.inr Field_calls) HES.out).mono ?_
                rw [HV5.out]
                rintro e' wo ⟨rfl, he⟩
                have Zwo : Hid (Ext Non wl wo) := Zwn.out.trans0 he
                clear he
                refine ⟨_, rfl, ?_⟩
                refine hK.out _ _ (lgS7 (Bwl.out.ext0 Zwo.out) (Zwo.out.obj KL8.out (fun e => e)) (Zwo.out.obj KL9.out (fun e => e))) (fun hS => ?_)
                try simp only [Act.put, List.setIfInBounds_toArray, List.set_cons_zero, List.set_cons_succ]
                refine Last.take_ (i := 21) (N := some 95) (v := .bool hg) #[true, true, true, true, true, true, true, true, true, true, true, true, true, true, true, true, true, true, true, true, true, true, false, false, false, false, false, false] (by simp only [List.getElem?_toArray, List.getElem?_cons_zero, List.getElem?_cons_succ]; rfl) rfl (by kernel_rfl) (by exact fun _ _ _ h => h) (Or.inl ⟨by rfl, fun W hW => by first | rfl | (try dsimp only at hW); go_simp⟩) hS rfl ?_
                simp only [Act.put, List.setIfInBounds_toArray, List.set_cons_zero, List.set_cons_succ]
                refine Last.take_ (i := 22) (N := some 96) (v := .bool true) #[true, true, true, true, true, true, true, true, true, true, true, true, true, true, true, true, true, true, true, true, true, true, true, false, false, false, false, false] (by simp only [List.getElem?_toArray, List.getElem?_cons_zero, List.getElem?_cons_succ]; rfl) rfl (by kernel_rfl) (by exact fun _ _ _ h => h) (Or.inl ⟨by rfl, fun W hW => by first | rfl | (try dsimp only at hW); go_simp⟩) hS rfl ?_
                simp only [Act.put, List.setIfInBounds_toArray, List.set_cons_zero, List.set_cons_succ]
                refine Last.take_ (i := 23) (N := some 97) (v := .bool true) #[true, true, true, true, true, true, true, true, true, true, true, true, true, true, true, true, true, true, true, true, true, true, true, true, false, false, false, false] (by simp only [List.getElem?_toArray, List.getElem?_cons_zero, List.getElem?_cons_succ]; rfl) rfl (by kernel_rfl) (by exact fun _ _ _ h => h) (Or.inl ⟨by rfl, fun W hW => by first | rfl | (try dsimp only at hW); go_simp⟩) hS rfl ?_
                simp only [Act.put, List.setIfInBounds_toArray, List.set_cons_zero, List.set_cons_succ]
                refine Last.take_ (i := 24) (N := some 98) (v := .bool true) #[true, true, true, true, true, true, true, true, true, true, true, true, true, true, true, true, true, true, true, true, true, true, true, true, true, false, false, false] (by simp only [List.getElem?_toArray, List.getElem?_cons_zero, List.getElem?_cons_succ]; rfl) rfl (by kernel_rfl) (by exact fun _ _ _ h => h) (Or.inl ⟨by rfl, fun W hW => by first | rfl | (try dsimp only at hW); go_simp⟩) hS rfl ?_
                simp only [Act.put, List.setIfInBounds_toArray, List.set_cons_zero, List.set_cons_succ]
                refine Last.one_ (i := 25) (N := some 99) #[true, true, true, true, true, true, true, true, true, true, true, true, true, true, true, true, true, true, true, true, true, true, true, true, true, true, false, false] (by simp only [List.getElem?_toArray, List.getElem?_cons_zero, List.getElem?_cons_succ]; rfl) rfl (by kernel_rfl) (by decide) (fun K hK => ?_)
                refine Last.goes_ Try.func16 (by kernel_rfl) rfl #[] (by rfl) rfl rfl (by simp) ?_
                refine (awake_calls _).mono ?_
                rintro e' wp ⟨rfl, he⟩
                have Zwp : Hid (Ext Non wl wp) := Zwo.out.trans0 he
                clear he
                refine ⟨_, rfl, ?_⟩
                refine hK.out _ _ (lgS7 (Bwl.out.ext0 Zwp.out) (Zwp.out.obj KL8.out (fun e => e)) (Zwp.out.obj KL9.out (fun e => e))) (fun hS => ?_)
                try simp only [Act.put, List.setIfInBounds_toArray, List.set_cons_zero, List.set_cons_succ]
                refine Last.take_ (i := 26) (N := some 100) (v := .bool true) #[true, true, true, true, true, true, true, true, true, true, true, true, true, true, true, true, true, true, true, true, true, true, true, true, true, true, true, false] (by simp only [List.getElem?_toArray, List.getElem?_cons_zero, List.getElem?_cons_succ]; rfl) rfl (by kernel_rfl) (by exact fun _ _ _ h => h) (Or.inl ⟨by rfl, fun W hW => by first | rfl | (try dsimp only at hW); go_simp⟩) hS rfl ?_
                simp only [Act.put, List.setIfInBounds_toArray, List.set_cons_zero, List.set_cons_succ]
                refine Last.take_ (i := 27) (N := some 6) (v := .bool true) #[true, true, true, true, true, true, true, true, true, true, true, true, true, true, true, true, true, true, true, true, true, true, true, true, true, true, true, true] (by simp only [List.getElem?_toArray, List.getElem?_cons_zero, List.getElem?_cons_succ]; rfl) rfl (by kernel_rfl) (by exact fun _ _ _ h => h) (Or.inl ⟨by rfl, fun W hW => by first | rfl | (try dsimp only at hW); go_simp⟩) hS rfl ?_
                simp only [Act.put, List.setIfInBounds_toArray, List.set_cons_zero, List.set_cons_succ]
                refine Last.done_ (by kernel_rfl) ?_
                go_wp2_with fail
                go_ret
                exact ⟨rfl, (EW.out.trans0 Ewl.out).trans0 Zwp.out⟩
              | false =>
                have HV3 : Hid (holdsP fieldF (n + 2) (kindF 5 [(.mk op key val kids), (.mk op' key' val' kids')]) e = false) := hL2.trans (Bool.false_and _)
                clear hL2
                refine Last.start_ (S := fun W => W.cell? ⟨q1, 0, none⟩ = some (.int .i64 op) ∧ W.cell? ⟨q1, 1, none⟩ = some (.string key) ∧ W.cell? ⟨q1, 2, none⟩ = some (.string val) ∧ W.cell? ⟨q1, 3, none⟩ = some (.slice A m c) ∧ W.cell? ⟨q2, 0, none⟩ = some (.int .i64 op') ∧ W.cell? ⟨q2, 1, none⟩ = some (.string key') ∧ W.cell? ⟨q2, 2, none⟩ = some (.string val') ∧ W.cell? ⟨q2, 3, none⟩ = some (.slice A' m' c') ∧ W.cell? ⟨q3, 0, none⟩ = some (.int .i64 e.pos) ∧ W.cell? ⟨q3, 1, none⟩ = some (.string e.key) ∧ W.cell? ⟨q3, 2, none⟩ = some (.bool e.had) ∧ W.cell? ⟨q3, 3, none⟩ = some (.string e.old) ∧ W.cell? ⟨q3, 4, none⟩ = some (.bool e.has) ∧ W.cell? ⟨q3, 5, none⟩ = some (.string e.now) ∧ W.cell? ⟨b8, 0, none⟩ = some (.int .i64 4) ∧ W.cell? ⟨b8, 1, none⟩ = some (.string ⟨#[]⟩) ∧ W.cell? ⟨b8, 2, none⟩ = some (.string ⟨#[]⟩) ∧ W.cell? ⟨b8, 3, none⟩ = some (.slice A5 k5 c5) ∧ W.cell? ⟨b9, 0, none⟩ = some (.int .i64 6) ∧ W.cell? ⟨b9, 1, none⟩ = some (.string ⟨#[]⟩) ∧ W.cell? ⟨b9, 2, none⟩ = some (.string ⟨#[]⟩) ∧ W.cell? ⟨b9, 3, none⟩ = some (.slice A6 k6 c6)) (ds := []) #[false, false, false, false, false, false, false, false, false, false, false, false, false, false, false, false, false, false, false, false, false, false, false, false, false, false, false, false] (by kernel_rfl) (by rfl) (by rfl) (lgS7 (Bwl.out.ext0 (Ext.refl Non wl).drew) ((Ext.refl Non wl).drew.obj KL8.out (fun e => e)) ((Ext.refl Non wl).drew.obj KL9.out (fun e => e))) (fun hS => ?_)
                refine Last.take_ (i := 0) (N := some 74) (v := .agg #[.int .i64 4, .string ⟨#[]⟩, .string ⟨#[]⟩, .slice A5 k5 c5]) #[true, false, false, false, false, false, false, false, false, false, false, false, false, false, false, false, false, false, false, false, false, false, false, false, false, false, false, false] (by simp only [List.getElem?_toArray, List.getElem?_cons_zero]; rfl) rfl (by kernel_rfl) (by exact fun _ _ _ h => h) (Or.inl ⟨by rfl, fun W hW => by first | rfl | (try dsimp only at hW); go_simp⟩) hS rfl ?_
                simp only [Act.put, List.setIfInBounds_toArray, List.set_cons_zero, List.set_cons_succ]
                refine Last.take_ (i := 1) (N := some 75) (v := .agg #[.int .i64 e.pos, .string e.key, .bool e.had, .string e.old, .bool e.has, .string e.now]) #[true, true, false, false, false, false, false, false, false, false, false, false, false, false, false, false, false, false, false, false, false, false, false, false, false, false, false, false] (by simp only [List.getElem?_toArray, List.getElem?_cons_zero, List.getElem?_cons_succ]; rfl) rfl (by kernel_rfl) (by exact fun _ _ _ h => h) (Or.inl ⟨by rfl, fun W hW => by first | rfl | (try dsimp only at hW); go_simp⟩) hS rfl ?_
                simp only [Act.put, List.setIfInBounds_toArray, List.set_cons_zero, List.set_cons_succ]
                refine Last.take_ (i := 3) (N := some 77) (v := .agg #[.int .i64 6, .string ⟨#[]⟩, .string ⟨#[]⟩, .slice A6 k6 c6]) #[true, true, false, true, false, false, false, false, false, false, false, false, false, false, false, false, false, false, false, false, false, false, false, false, false, false, false, false] (by simp only [List.getElem?_toArray, List.getElem?_cons_zero, List.getElem?_cons_succ]; rfl) rfl (by kernel_rfl) (by exact fun _ _ _ h => h) (Or.inl ⟨by rfl, fun W hW => by first | rfl | (try dsimp only at hW); go_simp⟩) hS rfl ?_
                simp only [Act.put, List.setIfInBounds_toArray, List.set_cons_zero, List.set_cons_succ]
                refine Last.take_ (i := 4) (N := some 78) (v := .agg #[.int .i64 e.pos, .string e.key, .bool e.had, .string e.old, .bool e.has, .string e.now]) #[true, true, false, true, true, false, false, false, false, false, false, false, false, false, false, false, false, false, false, false, false, false, false, false, false, false, false, false] (by simp only [List.getElem?_toArray, List.getElem?_cons_zero, List.getElem?_cons_succ]; rfl) rfl (by kernel_rfl) (by exact fun _ _ _ h => h) (Or.inl ⟨by rfl, fun W hW => by first | rfl | (try dsimp only at hW); go_simp⟩) hS rfl ?_
                simp only [Act.put, List.setIfInBounds_toArray, List.set_cons_zero, List.set_cons_succ]
                refine Last.one_ (i := 2) (N := some 76) #[true, true, true, true, true, false, false, false, false, false, false, false, false, false, false, false, false, false, false, false, false, false, false, false, false, false, false, false] (by simp only [List.getElem?_toArray, List.getElem?_cons_zero, List.getElem?_cons_succ]; rfl) rfl (by kernel_rfl) (by decide) (fun K hK => ?_)
                refine Last.goes_ Try.func24 (by kernel_rfl) rfl #[.agg #[.int .i64 4, .string ⟨#[]⟩, .string ⟨#[]⟩, .slice A5 k5 c5], .agg #[.int .i64 e.pos, .string e.key, .bool e.had, .string e.old, .bool e.has, .string e.now]] (by rfl) rfl rfl (by simp [Act.eval]) ?_
                refine (Holds_calls (fp := fieldF) (e := e) (VA2.out.ext0 (Ext.refl Non wl).drew) OA.out (.inr Field_calls) HES.out).mono ?_
                rw [HV1.out]
                rintro e' wa ⟨rfl, he⟩
                have Zwa : Hid (Ext Non wl wa) := (Ext.refl Non wl).drew.trans0 he
                clear he
                refine ⟨_, rfl, ?_⟩
                refine hK.out _ _ (lgS7 (Bwl.out.ext0 Zwa.out) (Zwa.out.obj KL8.out (fun e => e)) (Zwa.out.obj KL9.out (fun e => e))) (fun hS => ?_)
                try simp only [Act.put, List.setIfInBounds_toArray, List.set_cons_zero, List.set_cons_succ]
                refine Last.one_ (i := 5) (N := some 79) #[true, true, true, true, true, true, false, false, false, false, false, false, false, false, false, false, false, false, false, false, false, false, false, false, false, false, false, false] (by simp only [List.getElem?_toArray, List.getElem?_cons_zero, List.getElem?_cons_succ]; rfl) rfl (by kernel_rfl) (by decide) (fun K hK => ?_)
                refine Last.goes_ Try.func24 (by kernel_rfl) rfl #[.agg #[.int .i64 6, .string ⟨#[]⟩, .string ⟨#[]⟩, .slice A6 k6 c6], .agg #[.int .i64 e.pos, .string e.key, .bool e.had, .string e.old, .bool e.has, .string e.now]] (by rfl) rfl rfl (by simp [Act.eval]) ?_
                refine (Holds_calls (fp := fieldF) (e := e) (VB2.out.ext0 Zwa.out) OB.out (.inr Field_calls) HES.out).mono ?_
                rw [HV2.out]
                rintro e' wb ⟨rfl, he⟩
                have Zwb : Hid (Ext Non wl wb) := Zwa.out.trans0 he
                clear he
                refine ⟨_, rfl, ?_⟩
                refine hK.out _ _ (lgS7 (Bwl.out.ext0 Zwb.out) (Zwb.out.obj KL8.out (fun e => e)) (Zwb.out.obj KL9.out (fun e => e))) (fun hS => ?_)
                try simp only [Act.put, List.setIfInBounds_toArray, List.set_cons_zero, List.set_cons_succ]
                refine Last.take_ (i := 6) (N := some 80) (v := .bool true) #[true, true, true, true, true, true, true, false, false, false, false, false, false, false, false, false, false, false, false, false, false, false, false, false, false, false, false, false] (by simp only [List.getElem?_toArray, List.getElem?_cons_zero, List.getElem?_cons_succ]; rfl) rfl (by kernel_rfl) (by exact fun _ _ _ h => h) (Or.inl ⟨by rfl, fun W hW => by first | rfl | (try dsimp only at hW); go_simp⟩) hS rfl ?_
                simp only [Act.put, List.setIfInBounds_toArray, List.set_cons_zero, List.set_cons_succ]
                refine Last.take_ (i := 7) (N := some 81) (v := .bool true) #[true, true, true, true, true, true, true, true, false, false, false, false, false, false, false, false, false, false, false, false, false, false, false, false, false, false, false, false] (by simp only [List.getElem?_toArray, List.getElem?_cons_zero, List.getElem?_cons_succ]; rfl) rfl (by kernel_rfl) (by exact fun _ _ _ h => h) (Or.inl ⟨by rfl, fun W hW => by first | rfl | (try dsimp only at hW); go_simp⟩) hS rfl ?_
                simp only [Act.put, List.setIfInBounds_toArray, List.set_cons_zero, List.set_cons_succ]
                refine Last.take_ (i := 8) (N := some 82) (v := .agg #[.int .i64 op, .string key, .string val, .slice A m c]) #[true, true, true, true, true, true, true, true, true, false, false, false, false, false, false, false, false, false, false, false, false, false, false, false, false, false, false, false] (by simp only [List.getElem?_toArray, List.getElem?_cons_zero, List.getElem?_cons_succ]; rfl) rfl (by kernel_rfl) (by exact fun _ _ _ h => h) (Or.inl ⟨by rfl, fun W hW => by first | rfl | (try dsimp only at hW); go_simp⟩) hS rfl ?_
                simp only [Act.put, List.setIfInBounds_toArray, List.set_cons_zero, List.set_cons_succ]
                refine Last.take_ (i := 9) (N := some 83) (v := .agg #[.int .i64 op', .string key', .string val', .slice A' m' c']) #[true, true, true, true, true, true, true, true, true, true, false, false, false, false, false, false, false, false, false, false, false, false, false, false, false, false, false, false] (by simp only [List.getElem?_toArray, List.getElem?_cons_zero, List.getElem?_cons_succ]; rfl) rfl (by kernel_rfl) (by exact fun _ _ _ h => h) (Or.inl ⟨by rfl, fun W hW => by first | rfl | (try dsimp only at hW); go_simp⟩) hS rfl ?_
                simp only [Act.put, List.setIfInBounds_toArray, List.set_cons_zero, List.set_cons_succ]
                refine Last.take_ (i := 12) (N := some 86) (v := .agg #[.int .i64 e.pos, .string e.key, .bool e.had, .string e.old, .bool e.has, .string e.now]) #[true, true, true, true, true, true, true, true, true, true, false, false, true, false, false, false, false, false, false, false, false, false, false, false, false, false, false, false] (by simp only [List.getElem?_toArray, List.getElem?_cons_zero, List.getElem?_cons_succ]; rfl) rfl (by kernel_rfl) (by exact fun _ _ _ h => h) (Or.inl ⟨by rfl, fun W hW => by first | rfl | (try dsimp only at hW); go_simp⟩) hS rfl ?_
                simp only [Act.put, List.setIfInBounds_toArray, List.set_cons_zero, List.set_cons_succ]
                refine Last.take_ (i := 14) (N := some 88) (v := .agg #[.int .i64 op, .string key, .string val, .slice A m c]) #[true, true, true, true, true, true, true, true, true, true, false, false, true, false, true, false, false, false, false, false, false, false, false, false, false, false, false, false] (by simp only [List.getElem?_toArray, List.getElem?_cons_zero, List.getElem?_cons_succ]; rfl) rfl (by kernel_rfl) (by exact fun _ _ _ h => h) (Or.inl ⟨by rfl, fun W hW => by first | rfl | (try dsimp only at hW); go_simp⟩) hS rfl ?_
                simp only [Act.put, List.setIfInBounds_toArray, List.set_cons_zero, List.set_cons_succ]
                refine Last.take_ (i := 15) (N := some 89) (v := .agg #[.int .i64 e.pos, .string e.key, .bool e.had, .string e.old, .bool e.has, .string e.now]) #[true, true, true, true, true, true, true, true, true, true, false, false, true, false, true, true, false, false, false, false, false, false, false, false, false, false, false, false] (by simp only [List.getElem?_toArray, List.getElem?_cons_zero, List.getElem?_cons_succ]; rfl) rfl (by kernel_rfl) (by exact fun _ _ _ h => h) (Or.inl ⟨by rfl, fun W hW => by first | rfl | (try dsimp only at hW); go_simp⟩) hS rfl ?_
                simp only [Act.put, List.setIfInBounds_toArray, List.set_cons_zero, List.set_cons_succ]
                refine Last.one_ (i := 10) (N := some 84) #[true, true, true, true, true, true, true, true, true, true, true, false, true, false, true, true, false, false, false, false, false, false, false, false, false, false, false, false] (by simp only [List.getElem?_toArray, List.getElem?_cons_zero, List.getElem?_cons_succ]; rfl) rfl (by kernel_rfl) (by decide) (fun K hK => ?_)
                go_simp
                obtain ⟨pz, hpz⟩ : ∃ p, wb.heap.size = p := ⟨_, rfl⟩
                obtain ⟨wz, hwz⟩ : ∃ W, wb.alloc (.cells #[.int .i64 op, .string key, .string val, .slice A m c, .int .i64 op', .string key', .string val', .slice A' m' c'] 24) = W := ⟨_, rfl⟩
                have Zwz : Hid (Ext Non wl wz) := by rw [← hwz]; exact Zwb.out.alloc _
                have KZ : Hid (wz.heap[pz]? = some (.cells #[.int .i64 op, .string key, .string val, .slice A m c, .int .i64 op', .string key', .string val', .slice A' m' c'] 24 (0, 0))) := by rw [← hwz, ← hpz]; exact blk_new wb _
                have RZ : Hid (Rd (fltK (n + 1)) wz (fun _ => True) (.slice (some ⟨pz, 0, none⟩) 2 2) [(.mk op key val kids), (.mk op' key' val' kids')]) := two_kids KZ.out trivial (RF.out.ext0 (Ewl.out.trans0 Zwz.out)) (RG.out.ext0 (Ewl.out.trans0 Zwz.out))
                rw [hwz, hpz]
                clear hwz hpz
                refine hK.out _ _ (lgS7 (Bwl.out.ext0 Zwz.out) (Zwz.out.obj KL8.out (fun e => e)) (Zwz.out.obj KL9.out (fun e => e))) (fun hS => ?_)
                try simp only [Act.put, List.setIfInBounds_toArray, List.set_cons_zero, List.set_cons_succ]
                refine Last.one_ (i := 11) (N := some 85) #[true, true, true, true, true, true, true, true, true, true, true, true, true, false, true, true, false, false, false, false, false, false, false, false, false, false, false, false] (by simp only [List.getElem?_toArray, List.getElem?_cons_zero, List.getElem?_cons_succ]; rfl) rfl (by kernel_rfl) (by decide) (fun K hK => ?_)
                refine Last.goes_ Try.func25 (by kernel_rfl) rfl #[.int .i64 5, .slice (some ⟨pz, 0, none⟩) 2 2] (by rfl) rfl rfl (by simp [Act.eval]) ?_
                refine (kind_calls _ 5 (some ⟨pz, 0, none⟩) 2 2).mono ?_
                rintro e' wk ⟨rfl, he⟩
                have Zwk : Hid (Ext Non wl wk) := Zwz.out.trans0 he
                have VK : Hid (FV (n + 1) wk (fun _ => True) (.agg #[.int .i64 5, .string ⟨#[]⟩, .string ⟨#[]⟩, .slice (some ⟨pz, 0, none⟩) 2 2]) (kindF 5 [(.mk op key val kids), (.mk op' key' val' kids')])) := kind_fv (RZ.out.ext0 he)
                clear he
                refine ⟨_, rfl, ?_⟩
                refine hK.out _ _ (lgS7 (Bwl.out.ext0 Zwk.out) (Zwk.out.obj KL8.out (fun e => e)) (Zwk.out.obj KL9.out (fun e => e))) (fun hS => ?_)
                try simp only [Act.put, List.setIfInBounds_toArray, List.set_cons_zero, List.set_cons_succ]
                refine Last.one_ (i := 13) (N := some 87) #[true, true, true, true, true, true, true, true, true, true, true, true, true, true, true, true, false, false, false, false, false, false, false, false, false, false, false, false] (by simp only [List.getElem?_toArray, List.getElem?_cons_zero, List.getElem?_cons_succ]; rfl) rfl (by kernel_rfl) (by decide) (fun K hK => ?_)
                refine Last.goes_ Try.func24 (by kernel_rfl) rfl #[.agg #[.int .i64 5, .string ⟨#[]⟩, .string ⟨#[]⟩, .slice (some ⟨pz, 0, none⟩) 2 2], .agg #[.int .i64 e.pos, .string e.key, .bool e.had, .string e.old, .bool e.has, .string e.now]] (by rfl) rfl rfl (by simp [Act.eval]) ?_
                refine (Holds_calls (fp := fieldF) (e := e) (VK.out) OC.out (.inr Field_calls) HES.out).mono ?_
                rw [HV3.out]
                rintro e' wm ⟨rfl, he⟩
                have Zwm : Hid (Ext Non wl wm) := Zwk.out.trans0 he
                clear he
                refine ⟨_, rfl, ?_⟩
                refine hK.out _ _ (lgS7 (Bwl.out.ext0 Zwm.out) (Zwm.out.obj KL8.out (fun e => e)) (Zwm.out.obj KL9.out (fun e => e))) (fun hS => ?_)
                try simp only [Act.put, List.setIfInBounds_toArray, List.set_cons_zero, List.set_cons_succ]
                refine Last.one_ (i := 16) (N := some 90) #[true, true, true, true, true, true, true, true, true, true, true, true, true, true, true, true, true, false, false, false, false, false, false, false, false, false, false, false] (by simp only [List.getElem?_toArray, List.getElem?_cons_zero, List.getElem?_cons_succ]; rfl) rfl (by kernel_rfl) (by decide) (fun K hK => ?_)
                refine Last.goes_ Try.func24 (by kernel_rfl) rfl #[.agg #[.int .i64 op, .string key, .string val, .slice A m c], .agg #[.int .i64 e.pos, .string e.key, .bool e.had, .string e.old, .bool e.has, .string e.now]] (by rfl) rfl rfl (by simp [Act.eval]) ?_
                refine (Holds_calls (fp := fieldF) (e := e) (VF.out.ext0 (Ewl.out.trans0 Zwm.out)) HOF.out (.inr Field_calls) HES.out).mono ?_
                rw [HV4.out]
                rintro e' wn ⟨rfl, he⟩
                have Zwn : Hid (Ext Non wl wn) := Zwm.out.trans0 he
                clear he
                refine ⟨_, rfl, ?_⟩
                refine hK.out _ _ (lgS7 (Bwl.out.ext0 Zwn.out) (Zwn.out.obj KL8.out (fun e => e)) (Zwn.out.obj KL9.out (fun e => e))) (fun hS => ?_)
                try simp only [Act.put, List.setIfInBounds_toArray, List.set_cons_zero, List.set_cons_succ]
                refine Last.take_ (i := 17) (N := some 91) (v := .bool false) #[true, true, true, true, true, true, true, true, true, true, true, true, true, true, true, true, true, true, false, false, false, false, false, false, false, false, false, false] (by simp only [List.getElem?_toArray, List.getElem?_cons_zero, List.getElem?_cons_succ]; rfl) rfl (by kernel_rfl) (by exact fun _ _ _ h => h) (Or.inl ⟨by rfl, fun W hW => by first | rfl | (try dsimp only at hW); go_simp⟩) hS rfl ?_
                simp only [Act.put, List.setIfInBounds_toArray, List.set_cons_zero, List.set_cons_succ]
                refine Last.take_ (i := 18) (N := some 92) (v := undef) #[true, true, true, true, true, true, true, true, true, true, true, true, true, true, true, true, true, true, true, false, false, false, false, false, false, false, false, false] (by simp only [List.getElem?_toArray, List.getElem?_cons_zero, List.getElem?_cons_succ]; rfl) rfl (by kernel_rfl) (by exact fun _ _ _ h => h) (Or.inr ⟨by rfl, rfl⟩) hS rfl ?_
                simp only [Act.put, List.setIfInBounds_toArray, List.set_cons_zero, List.set_cons_succ]
                refine Last.take_ (i := 19) (N := some 93) (v := undef) #[true, true, true, true, true, true, true, true, true, true, true, true, true, true, true, true, true, true, true, true, false, false, false, false, false, false, false, false] (by simp only [List.getElem?_toArray, List.getElem?_cons_zero, List.getElem?_cons_succ]; rfl) rfl (by kernel_rfl) (by exact fun _ _ _ h => h) (Or.inr ⟨by rfl, rfl⟩) hS rfl ?_
                simp only [Act.put, List.setIfInBounds_toArray, List.set_cons_zero, List.set_cons_succ]
                refine Last.take_ (i := 20) (N := some 94) (v := undef) #[true, true, true, true, true, true, true, true, true, true, true, true, true, true, true, true, true, true, true, true, true, false, false, false, false, false, false, false] (by simp only [List.getElem?_toArray, List.getElem?_cons_zero, List.getElem?_cons_succ]; rfl) rfl (by kernel_rfl) (by exact fun _ _ _ h => h) (Or.inr ⟨by rfl, rfl⟩) hS rfl ?_
                simp only [Act.put, List.setIfInBounds_toArray, List.set_cons_zero, List.set_cons_succ]
                refine Last.take_ (i := 21) (N := some 95) (v := .bool false) #[true, true, true, true, true, true, true, true, true, true, true, true, true, true, true, true, true, true, true, true, true, true, false, false, false, false, false, false] (by simp only [List.getElem?_toArray, List.getElem?_cons_zero, List.getElem?_cons_succ]; rfl) rfl (by kernel_rfl) (by exact fun _ _ _ h => h) (Or.inl ⟨by rfl, fun W hW => by first | rfl | (try dsimp only at hW); go_simp⟩) hS rfl ?_
                simp only [Act.put, List.setIfInBounds_toArray, List.set_cons_zero, List.set_cons_succ]
                refine Last.take_ (i := 22) (N := some 96) (v := .bool true) #[true, true, true, true, true, true, true, true, true, true, true, true, true, true, true, true, true, true, true, true, true, true, true, false, false, false, false, false] (by simp only [List.getElem?_toArray, List.getElem?_cons_zero, List.getElem?_cons_succ]; rfl) rfl (by kernel_rfl) (by exact fun _ _ _ h => h) (Or.inl ⟨by rfl, fun W hW => by first | rfl | (try dsimp only at hW); go_simp⟩) hS rfl ?_
                simp only [Act.put, List.setIfInBounds_toArray, List.set_cons_zero, List.set_cons_succ]
                refine Last.take_ (i := 23) (N := some 97) (v := .bool true) #[true, true, true, true, true, true, true, true, true, true, true, true, true, true, true, true, true, true, true, true, true, true, true, true, false, false, false, false] (by simp only [List.getElem?_toArray, List.getElem?_cons_zero, List.getElem?_cons_succ]; rfl) rfl (by kernel_rfl) (by exact fun _ _ _ h => h) (Or.inl ⟨by rfl, fun W hW => by first | rfl | (try dsimp only at hW); go_simp⟩) hS rfl ?_
                simp only [Act.put, List.setIfInBounds_toArray, List.set_cons_zero, List.set_cons_succ]
                refine Last.take_ (i := 24) (N := some 98) (v := .bool true) #[true, true, true, true, true, true, true, true, true, true, true, true, true, true, true, true, true, true, true, true, true, true, true, true, true, false, false, false] (by simp only [List.getElem?_toArray, List.getElem?_cons_zero, List.getElem?_cons_succ]; rfl) rfl (by kernel_rfl) (by exact fun _ _ _ h => h) (Or.inl ⟨by rfl, fun W hW => by first | rfl | (try dsimp only at hW); go_simp⟩) hS rfl ?_
                simp only [Act.put, List.setIfInBounds_toArray, List.set_cons_zero, List.set_cons_succ]
                refine Last.one_ (i := 25) (N := some 99) #[true, true, true, true, true, true, true, true, true, true, true, true, true, true, true, true, true, true, true, true, true, true, true, true, true, true, false, false] (by simp only [List.getElem?_toArray, List.getElem?_cons_zero, List.getElem?_cons_succ]; rfl) rfl (by kernel_rfl) (by decide) (fun K hK => ?_)
                refine Last.goes_ Try.func16 (by kernel_rfl) rfl #[] (by rfl) rfl rfl (by simp) ?_
                refine (awake_calls _).mono ?_
                rintro e' wp ⟨rfl, he⟩
                have Zwp : Hid (Ext Non wl wp) := Zwn.out.trans0 he
                clear he
                refine ⟨_, rfl, ?_⟩
                refine hK.out _ _ (lgS7 (Bwl.out.ext0 Zwp.out) (Zwp.out.obj KL8.out (fun e => e)) (Zwp.out.obj KL9.out (fun e => e))) (fun hS => ?_)
                try simp only [Act.put, List.setIfInBounds_toArray, List.set_cons_zero, List.set_cons_succ]
                refine Last.take_ (i := 26) (N := some 100) (v := .bool true) #[true, true, true, true, true, true, true, true, true, true, true, true, true, true, true, true, true, true, true, true, true, true, true, true, true, true, true, false] (by simp only [List.getElem?_toArray, List.getElem?_cons_zero, List.getElem?_cons_succ]; rfl) rfl (by kernel_rfl) (by exact fun _ _ _ h => h) (Or.inl ⟨by rfl, fun W hW => by first | rfl | (try dsimp only at hW); go_simp⟩) hS rfl ?_
                simp only [Act.put, List.setIfInBounds_toArray, List.set_cons_zero, List.set_cons_succ]
                refine Last.take_ (i := 27) (N := some 6) (v := .bool true) #[true, true, true, true, true, true, true, true, true, true, true, true, true, true, true, true, true, true, true, true, true, true, true, true, true, true, true, true] (by simp only [List.getElem?_toArray, List.getElem?_cons_zero, List.getElem?_cons_succ]; rfl) rfl (by kernel_rfl) (by exact fun _ _ _ h => h) (Or.inl ⟨by rfl, fun W hW => by first | rfl | (try dsimp only at hW); go_simp⟩) hS rfl ?_
                simp only [Act.put, List.setIfInBounds_toArray, List.set_cons_zero, List.set_cons_succ]
                refine Last.done_ (by kernel_rfl) ?_
                go_wp2_with fail
                go_ret
                exact ⟨rfl, (EW.out.trans0 Ewl.out).trans0 Zwp.out⟩
            · obtain ⟨cv, hcv⟩ : ∃ cv, checkE (n + 3) (kindF 6 [kindF 4 [(.mk op key val kids)], kindF 4 [(.mk op' key' val' kids')]]) = cv := ⟨_, rfl⟩
              rw [hcv] at cb ⊢
              have ev : (cv == 0) = false := beq_eq_false_iff_ne.2 cb
              clear cb hcv HBC
              go_wp2_with fail
              refine (AWW.out _ Ewl.out).mono ?_
              rintro e' wz ⟨rfl, he⟩
              have EZ := Lib.hid he
              clear he
              go_wp2_with fail
              go_ret
              exact ⟨rfl, EZ.out⟩
          · obtain ⟨cv, hcv⟩ : ∃ cv, checkE (n + 3) (kindF 4 [kindF 5 [(.mk op key val kids), (.mk op' key' val' kids')]]) = cv := ⟨_, rfl⟩
            rw [hcv] at ca ⊢
            have ev : (cv == 0) = false := beq_eq_false_iff_ne.2 ca
            have ev2 : (cv != 0) = true := bne_iff_ne.2 ca
            have ev3 : decide (cv = 0) = false := decide_eq_false ca
            clear hcv HBC
            go_wp2_with fail
            refine (AWW.out _ Ewj.out).mono ?_
            rintro e' wz ⟨rfl, he⟩
            have EZ := Lib.hid he
            clear he
            go_wp2_with fail
            go_ret
            exact ⟨rfl, EZ.out⟩
end Go.Proofs.Ytooafilbmjnfmaa
