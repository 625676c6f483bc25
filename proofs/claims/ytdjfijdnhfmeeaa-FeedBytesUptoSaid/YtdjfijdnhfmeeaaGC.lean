/- A filter made ready: build, ready, Check of the program. The document's May. The document's walk, its Check. -/
import Derived.Test.YtdjfijdnhfmeeaaG6
namespace Go.Proofs.Ytdjfijdnhfmeeaa
open Go.RowKit Go.TM
theorem head_build {n : Nat} {op : Int} {key val : ByteArray} {kids : List Flt} {leaf : Value} {d c : Int} {g : Nat} {w w' : World} {e : Ending} (h : HeadPost op key val kids.length leaf c g w e w')
    (hl : mayW op key val kids.length = true → kids = [] ∧ ∀ (W : World) (ok : Nat → Prop), (ndK (n + 1)).K W ok (.mk op key val kids) [leaf]) (hn : ¬ (6 < d ∨ 24 ≤ c)) : BuildPost n (.mk op key val kids) d c g w e w' := by
  obtain ⟨x, err, rfl, he, hc, ⟨hm, rfl, rfl⟩ | ⟨hm, rfl, rfl⟩⟩ := h
  · obtain ⟨rfl, hk⟩ := hl hm
    have h1 : chk (n + 1) (.mk op key val []) d c = (0, c + 1) := chk_go hn hm
    exact ⟨_, 0, _, rfl, he, hc, by rw [h1], .inr ⟨rfl, by rw [h1], hk _ _⟩⟩
  · have h1 : chk (n + 1) (.mk op key val kids) d c = (50, c) := chk_bad hn hm
    exact ⟨_, 50, _, rfl, he, hc, by rw [h1], .inl ⟨by decide, rfl⟩⟩
theorem build_step (n : Nat) (ih : ∀ m, n = m + 1 → BuildAt m) : BuildAt n := by
  intro f w ok v d c g hr hokf hc hng hd1 hd7 hc0 hc1
  obtain ⟨op, key, val, kids⟩ := f
  obtain ⟨A, len, cap, rfl, hlen⟩ := rd_abs hr
  have hlen' : len = kids.length := hlen
  subst hlen'
  have hm : (kids.length : Int) ≤ 9223372036854775807 := by
    have : kids.length ≤ maxLen := hokf.2.2.2.1
    simp only [maxLen] at this
    omega
  by_cases hdp : 6 < d ∨ 24 ≤ c
  · refine (deep hc hdp hd1 hd7 hc1 hc0).mono ?_
    rintro e w' ⟨rfl, he, hc'⟩
    have h1 : chk (n + 1) (.mk op key val kids) d c = (51, c) := chk_deep hdp
    exact ⟨_, 51, _, rfl, he, hc', by rw [h1], .inl ⟨by decide, rfl⟩⟩
  have e1 : d ≤ 6 := by omega
  have e2 : c < 24 := by omega
  show Calls Try.prog 83 #[.agg #[.int .i64 op, .string key, .string val, .slice A kids.length cap], .int .i64 d, .pointer (some ⟨g, 0, none⟩)] w (BuildPost n (.mk op key val kids) d c g w)
  by_cases h0 : op = 0
  · subst h0
    exact (head0 hc e1 e2 hc0).mono fun e w' h => head_build h (fun hm => ⟨by simp [mayW] at hm; exact hm.2, fun _ _ => .inl ⟨rfl, rfl⟩⟩) hdp
  by_cases h1 : op = 1
  · subst h1
    exact (head1 hc e1 e2 hc0).mono fun e w' h => head_build h (fun hm => ⟨by simp [mayW] at hm; exact hm.1.1, fun _ _ => .inr (.inl ⟨rfl, rfl⟩)⟩) hdp
  by_cases h2 : op = 2
  · subst h2
    exact (head2 hc e1 e2 hc0).mono fun e w' h => head_build h (fun hm => ⟨by simp [mayW] at hm; exact hm.1.1, fun _ _ => .inr (.inr (.inl ⟨rfl, rfl⟩))⟩) hdp
  by_cases h3 : op = 3
  · subst h3
    exact (head3 hc e1 e2 hc0).mono fun e w' h => head_build h (fun hm => ⟨by simp [mayW] at hm; exact hm.2, fun _ _ => .inr (.inr (.inr (.inl ⟨rfl, rfl⟩)))⟩) hdp
  by_cases h4 : op = 4
  · subst h4
    exact build4 ih hr hokf.2.2.2.2 hc hng hd1 e1 e2 hc0 hm
  by_cases h5 : op = 5
  · subst h5
    exact build5 ih hr hokf.2.2.2.2 hc hng hd1 e1 e2 hc0 hm
  by_cases h6 : op = 6
  · subst h6
    exact build6 ih hr hokf.2.2.2.2 hc hng hd1 e1 e2 hc0 hm
  exact (head7 hc e1 e2 hc0 (by omega)).mono fun e w' h => head_build h (fun hm => by simp [mayW, h0, h1, h2, h3, h4, h5, h6] at hm) hdp
theorem build_at : ∀ n, BuildAt n := by
  intro n
  induction n with
  | zero => exact build_step 0 (fun m h => by omega)
  | succ n ih => exact build_step (n + 1) (fun m h => by cases h; exact ih)
/-- The number that Check tells. -/
def checkE (n : Nat) (f : Flt) : Int := (chk n f 1 0).1
def ReadyPost (n : Nat) (f : Flt) (w : World) (e : Ending) (w' : World) : Prop :=
  ∃ q, e = .returned (.tuple #[q, .int .i64 (checkE (n + 1) f)]) ∧ Ext Non w w' ∧ ((checkE (n + 1) f ≠ 0 ∧ q = .nilIface) ∨ (checkE (n + 1) f = 0 ∧ (ndK (n + 1)).K w' (fun k => w.heap.size ≤ k) f [q]))
set_option maxRecDepth 100000 in
set_option maxHeartbeats 1048576 in
theorem ready_calls {n : Nat} {f : Flt} {w : World} {ok : Nat → Prop} {x : Value} (hx : FV n w ok x f) (hok : okF (n + 1) f) : Calls Try.prog 62 #[x] w (ReadyPost n f w) := by
  obtain ⟨v, rfl, hr⟩ := hx
  obtain ⟨A, len, cap, rfl, hlen⟩ := rd_abs hr
  have HR := Lib.hid hr.bound
  clear hr hlen
  go_enter Try.func62, Try.ntmps62
  go_wp2_with fail
  refine (build_at n f _ (fun k => ok k ∧ k < w.heap.size) _ 1 0 _ ?_ hok ?_ ?_ (by omega) (by omega) (by omega) (by omega)).mono ?_
  · refine HR.out.ext0 ?_
    repeat (first | exact Ext.refl _ _ | refine Ext.alloc ?_ _ | refine Ext.setNew ?_ (by simp) _)
  · have := blk_new (w.alloc (Obj.cells #[Value.int IntKind.i64 f.op, Value.string f.key, Value.string f.val, Value.slice A len cap] 24)) (Obj.cells #[Value.int IntKind.i64 0] 3)
    rw [show (w.alloc (Obj.cells #[Value.int IntKind.i64 f.op, Value.string f.key, Value.string f.val, Value.slice A len cap] 24)).heap.size = w.heap.size + 1 by simp] at this
    exact this
  · rintro ⟨_, h⟩
    omega
  rintro e w5 ⟨q, err, c', rfl, he, _, herr, hq⟩
  have HE : Hid (Ext Non w w5) := by
    show Ext Non w w5
    refine Ext.trans (M' := Only (w.heap.size + 1)) ?_ he (fun i hi e => by have : i = w.heap.size + 1 := e; omega)
    repeat (first | exact Ext.refl _ _ | refine Ext.alloc ?_ _ | refine Ext.setNew ?_ (by simp) _)
  have herr' : err = checkE (n + 1) f := herr
  subst herr'
  clear he herr
  rcases hq with ⟨h0, rfl⟩ | ⟨h0, _, hk⟩
  · have H0 := Lib.hid h0
    obtain ⟨z, hz⟩ : ∃ z, checkE (n + 1) f = z := ⟨_, rfl⟩
    have HZ := Lib.hid hz
    rw [hz] at h0 ⊢
    clear hz
    go_wp2_with fail
    go_ret2
    exact ⟨.nilIface, by rw [HZ.out]; rfl, HE.out, .inl ⟨H0.out, rfl⟩⟩
  · have hk2 : (ndK (n + 1)).K w5 (fun k => w.heap.size ≤ k) f [q] := (ndK (n + 1)).mono (fun k h => by simp at h; omega) hk
    obtain ⟨t, p, rfl, hq⟩ := nd_iface hk2
    have hty := assert_one hq p
    have H0 := Lib.hid h0
    have HK := Lib.hid hk2
    rw [h0]
    clear h0 hk hk2
    go_wp2_with fail
    go_ret2
    exact ⟨_, by rw [H0.out]; rfl, HE.out, .inr ⟨H0.out, HK.out⟩⟩
set_option maxRecDepth 100000 in
set_option maxHeartbeats 1048576 in
theorem Check_calls {n : Nat} {f : Flt} {w : World} {ok : Nat → Prop} {x : Value} (hx : FV n w ok x f) (hok : okF (n + 1) f) : Calls Try.prog 35 #[x] w fun e w' => e = .returned (.int .i64 (checkE (n + 1) f)) ∧ Ext Non w w' := by
  have hx' := hx
  obtain ⟨v, rfl, hr⟩ := hx
  obtain ⟨A, len, cap, rfl, hlen⟩ := rd_abs hr
  have HX := Lib.hid hx'
  clear hr hlen hx'
  go_enter Try.func35, Try.ntmps35
  go_wp2_with fail
  refine (ready_calls (n := n) (f := f) (ok := ok) ?_ hok).mono ?_
  · refine HX.out.ext0 ?_
    repeat (first | exact Ext.refl _ _ | refine Ext.alloc ?_ _ | refine Ext.setNew ?_ (by simp) _)
  rintro e w5 ⟨q, rfl, he, _⟩
  have HE : Hid (Ext Non w w5) := by
    show Ext Non w w5
    refine Ext.trans0 ?_ he
    repeat (first | exact Ext.refl _ _ | refine Ext.alloc ?_ _ | refine Ext.setNew ?_ (by simp) _)
  clear he
  go_wp2_with fail
  go_ret
  exact ⟨rfl, HE.out⟩
end Go.Proofs.Ytdjfijdnhfmeeaa

namespace Go.Proofs.Ytdjfijdnhfmeeaa
open Go.RowKit Go.TM
theorem len_zero (n : Nat) : ((n : Int) == 0) = decide (n = 0) := by cases n <;> simp <;> omega
theorem len_one (n : Nat) : ((n : Int) == 1) = decide (n = 1) := by
  by_cases h : n = 1
  · subst h
    rfl
  · rw [decide_eq_false h]
    have : ¬ (n : Int) = 1 := by omega
    simpa using this
theorem emp_dec (l : List UInt8) : l.isEmpty = decide (l = []) := by cases l <;> simp
section
variable {w : World} {A : Option Addr} {len cap : Nat} {op : Int} {key val : ByteArray}
def MayPost (b : Bool) (w : World) (e : Ending) (w' : World) : Prop := e = .returned (.bool b) ∧ Ext Non w w'
theorem boxed0 {M : Nat → Prop} {w w5 : World} {cs : Array Value} {t : TypeId} (he : Ext M (w.alloc (.cells cs t)) w5) (hm : ¬ M w.heap.size) (i : Nat) : w5.cell? ⟨w.heap.size, i, none⟩ = cs[i]? := blk_cell (he.obj (blk_new w _) hm) i
set_option maxRecDepth 100000 in
set_option maxHeartbeats 4000000 in
theorem may0 : Calls Try.prog 81 #[.agg #[.int .i64 0, .string key, .string val, .slice A len cap]] w (MayPost (mayW 0 key val len) w) := by
  go_enter Try.func81, Try.ntmps81
  go_wp2_with fail
  all_goals go_ret
  all_goals exact ⟨(by first | (simp [mayW, bare, *]; done) | (simp [mayW, bare, *]; rfl) | (simp [mayW, bare, *]; first | exact len_zero len | exact len_one len | exact emp_dec _)), by repeat (first | exact Ext.refl _ _ | refine Ext.alloc ?_ _)⟩
set_option maxRecDepth 100000 in
set_option maxHeartbeats 4000000 in
theorem may3 : Calls Try.prog 81 #[.agg #[.int .i64 3, .string key, .string val, .slice A len cap]] w (MayPost (mayW 3 key val len) w) := by
  go_enter Try.func81, Try.ntmps81
  go_wp2_with fail
  all_goals go_ret
  all_goals exact ⟨(by first | (simp [mayW, bare, *]; done) | (simp [mayW, bare, *]; rfl) | (simp [mayW, bare, *]; first | exact len_zero len | exact len_one len | exact emp_dec _)), by repeat (first | exact Ext.refl _ _ | refine Ext.alloc ?_ _)⟩
set_option maxRecDepth 100000 in
set_option maxHeartbeats 4000000 in
theorem may4 : Calls Try.prog 81 #[.agg #[.int .i64 4, .string key, .string val, .slice A len cap]] w (MayPost (mayW 4 key val len) w) := by
  go_enter Try.func81, Try.ntmps81
  go_wp2_with fail
  all_goals go_ret
  all_goals exact ⟨(by first | (simp [mayW, bare, *]; done) | (simp [mayW, bare, *]; rfl) | (simp [mayW, bare, *]; first | exact len_zero len | exact len_one len | exact emp_dec _)), by repeat (first | exact Ext.refl _ _ | refine Ext.alloc ?_ _)⟩
set_option maxRecDepth 100000 in
set_option maxHeartbeats 4000000 in
theorem may5 : Calls Try.prog 81 #[.agg #[.int .i64 5, .string key, .string val, .slice A len cap]] w (MayPost (mayW 5 key val len) w) := by
  go_enter Try.func81, Try.ntmps81
  go_wp2_with fail
  all_goals go_ret
  all_goals exact ⟨(by first | (simp [mayW, bare, *]; done) | (simp [mayW, bare, *]; rfl) | (simp [mayW, bare, *]; first | exact len_zero len | exact len_one len | exact emp_dec _)), by repeat (first | exact Ext.refl _ _ | refine Ext.alloc ?_ _)⟩
set_option maxRecDepth 100000 in
set_option maxHeartbeats 4000000 in
theorem may6 : Calls Try.prog 81 #[.agg #[.int .i64 6, .string key, .string val, .slice A len cap]] w (MayPost (mayW 6 key val len) w) := by
  go_enter Try.func81, Try.ntmps81
  go_wp2_with fail
  all_goals go_ret
  all_goals exact ⟨(by first | (simp [mayW, bare, *]; done) | (simp [mayW, bare, *]; rfl) | (simp [mayW, bare, *]; first | exact len_zero len | exact len_one len | exact emp_dec _)), by repeat (first | exact Ext.refl _ _ | refine Ext.alloc ?_ _)⟩
set_option maxRecDepth 100000 in
set_option maxHeartbeats 4000000 in
theorem may7 (n0 : ¬ op = 0) (n1 : ¬ op = 1) (n2 : ¬ op = 2) (n3 : ¬ op = 3) (n4 : ¬ op = 4) (n5 : ¬ op = 5) (n6 : ¬ op = 6) : Calls Try.prog 81 #[.agg #[.int .i64 op, .string key, .string val, .slice A len cap]] w (MayPost (mayW op key val len) w) := by
  go_enter Try.func81, Try.ntmps81
  go_wp2_with fail
  all_goals go_ret
  all_goals exact ⟨(by first | (simp [mayW, *]; done) | (simp [mayW, *]; rfl) | (simp [mayW, *]; first | exact len_zero len | exact len_one len | exact emp_dec _)), by repeat (first | exact Ext.refl _ _ | refine Ext.alloc ?_ _)⟩
set_option maxRecDepth 100000 in
set_option maxHeartbeats 4000000 in
theorem may1 (hs : val.size ≤ 1048576) : Calls Try.prog 81 #[.agg #[.int .i64 1, .string key, .string val, .slice A len cap]] w (MayPost (mayW 1 key val len) w) := by
  by_cases hlk : len = 0 ∧ key.toList = []
  · obtain ⟨rfl, hk⟩ := hlk
    obtain ⟨z, hz⟩ : ∃ z, keyE val = z := ⟨_, rfl⟩
    have HZ := Lib.hid hz
    clear hz
    go_enter Try.func81, Try.ntmps81
    go_wp2_with fail
    refine (RKey_calls _ val hs).mono ?_
    rw [HZ.out]
    rintro e w5 ⟨rfl, he⟩
    have HE := Lib.hid he
    have z50 : w5.cell? ⟨w.heap.size, 0, none⟩ = some (.int .i64 1) := boxed0 he (fun h => h) 0
    have z51 : w5.cell? ⟨w.heap.size, 1, none⟩ = some (.string key) := boxed0 he (fun h => h) 1
    have z52 : w5.cell? ⟨w.heap.size, 2, none⟩ = some (.string val) := boxed0 he (fun h => h) 2
    have z53 : w5.cell? ⟨w.heap.size, 3, none⟩ = some (.slice A 0 cap) := boxed0 he (fun h => h) 3
    clear he
    by_cases hz0 : z = 0
    · subst hz0
      have hmay : Hid (mayW 1 key val 0 = true) := by
        show mayW 1 key val 0 = true
        simp [mayW, hk, HZ.out]
      go_wp2_with fail
      go_ret
      exact ⟨by rw [hmay.out]; rfl, ((Ext.refl _ _).alloc _).trans0 HE.out⟩
    · have hmay : Hid (mayW 1 key val 0 = false) := by
        show mayW 1 key val 0 = false
        simp [mayW, hk, HZ.out, hz0]
      go_wp2_with fail
      all_goals go_ret
      all_goals exact ⟨by rw [hmay.out]; simp [hz0], ((Ext.refl _ _).alloc _).trans0 HE.out⟩
  · have hmay : Hid (mayW 1 key val len = false) := by
      show mayW 1 key val len = false
      by_cases h1 : len = 0
      · by_cases h2 : key.toList = []
        · exact absurd ⟨h1, h2⟩ hlk
        · simp [mayW, h2]
      · simp [mayW, h1]
    rcases (show ¬ len = 0 ∨ ¬ key.toList = [] by
      by_cases h1 : len = 0
      · exact .inr (fun h2 => hlk ⟨h1, h2⟩)
      · exact .inl h1) with hn | hn
    · clear hlk
      go_enter Try.func81, Try.ntmps81
      go_wp2_with fail
      all_goals go_ret
      all_goals exact ⟨by rw [hmay.out]; rfl, (Ext.refl _ _).alloc _⟩
    · clear hlk
      go_enter Try.func81, Try.ntmps81
      go_wp2_with fail
      all_goals go_ret
      all_goals exact ⟨by rw [hmay.out]; rfl, (Ext.refl _ _).alloc _⟩
set_option maxRecDepth 100000 in
set_option maxHeartbeats 4000000 in
theorem may2 (hs : val.size ≤ 1048576) (hs' : key.size ≤ 1048576) : Calls Try.prog 81 #[.agg #[.int .i64 2, .string key, .string val, .slice A len cap]] w (MayPost (mayW 2 key val len) w) := by
  by_cases hn : len = 0
  · subst hn
    by_cases hkk : key.toList = []
    all_goals
      obtain ⟨z, hz⟩ : ∃ z, nameE key = z := ⟨_, rfl⟩
      have HZ := Lib.hid hz
      clear hz
      go_enter Try.func81, Try.ntmps81
      go_wp2_with fail
      refine (RName_calls _ key hs').mono ?_
      rw [HZ.out]
      rintro e w5 ⟨rfl, rfl⟩
      by_cases hz0 : z = 0
      · subst hz0
        obtain ⟨y, hy⟩ : ∃ y, valE val = y := ⟨_, rfl⟩
        have HY := Lib.hid hy
        clear hy
        go_wp2_with fail
        refine (RValue_calls _ val hs).mono ?_
        rw [HY.out]
        rintro e w6 ⟨rfl, he⟩
        have HF := Lib.hid he
        clear he
        by_cases hy0 : y = 0
        · subst hy0
          have hmay : Hid (mayW 2 key val 0 = true) := by
            show mayW 2 key val 0 = true
            simp [mayW, HZ.out, HY.out]
          go_wp2_with fail
          go_ret
          exact ⟨by rw [hmay.out]; rfl, ((Ext.refl _ _).alloc _).trans0 HF.out⟩
        · have hmay : Hid (mayW 2 key val 0 = false) := by
            show mayW 2 key val 0 = false
            simp [mayW, HZ.out, HY.out, hy0]
          go_wp2_with fail
          all_goals go_ret
          all_goals exact ⟨by rw [hmay.out]; simp [hy0], ((Ext.refl _ _).alloc _).trans0 HF.out⟩
      · have hmay : Hid (mayW 2 key val 0 = false) := by
          show mayW 2 key val 0 = false
          simp [mayW, HZ.out, hz0]
        go_wp2_with fail
        all_goals go_ret
        all_goals exact ⟨by rw [hmay.out]; first | rfl | simp [hz0], (Ext.refl _ _).alloc _⟩
  · have hmay : Hid (mayW 2 key val len = false) := by
      show mayW 2 key val len = false
      simp [mayW, hn]
    go_enter Try.func81, Try.ntmps81
    go_wp2_with fail
    all_goals go_ret
    all_goals exact ⟨by rw [hmay.out]; rfl, (Ext.refl _ _).alloc _⟩
theorem May_calls (hs : val.size ≤ 1048576) (hs' : key.size ≤ 1048576) : Calls Try.prog 81 #[.agg #[.int .i64 op, .string key, .string val, .slice A len cap]] w (MayPost (mayW op key val len) w) := by
  by_cases h0 : op = 0
  · subst h0
    exact may0
  by_cases h1 : op = 1
  · subst h1
    exact may1 hs
  by_cases h2 : op = 2
  · subst h2
    exact may2 hs hs'
  by_cases h3 : op = 3
  · subst h3
    exact may3
  by_cases h4 : op = 4
  · subst h4
    exact may4
  by_cases h5 : op = 5
  · subst h5
    exact may5
  by_cases h6 : op = 6
  · subst h6
    exact may6
  exact may7 h0 h1 h2 h3 h4 h5 h6
end
end Go.Proofs.Ytdjfijdnhfmeeaa

namespace Go.Proofs.Ytdjfijdnhfmeeaa
open Go.RowKit Go.TM
def WalkPost (n : Nat) (f : Flt) (d c : Int) (w : World) (e : Ending) (w' : World) : Prop :=
  e = .returned (.tuple #[.int .i64 (chk (n + 1) f d c).2, .int .i64 (chk (n + 1) f d c).1]) ∧ Ext Non w w'
def WalkAt (n : Nat) : Prop := ∀ (f : Flt) (w : World) (ok : Nat → Prop) (v : Value) (d c : Int), Rd (fltK n) w ok v f.kids → okL (n + 1) f → 0 ≤ d → d ≤ 6 → 0 ≤ c → c ≤ 24 →
    Calls Try.prog 54 #[.agg #[.int .i64 f.op, .string f.key, .string f.val, v], .int .i64 d, .int .i64 c] w (WalkPost n f (d + 1) c w)
set_option maxRecDepth 100000 in
set_option maxHeartbeats 4000000 in
theorem walk_step (n : Nat) (ih : ∀ m, n = m + 1 → WalkAt m) : WalkAt n := by
  intro f w ok v d c hr hokf hd0 hd7 hc0 hc1
  obtain ⟨op, key, val, kids⟩ := f
  obtain ⟨A, len, cap, rfl, hlen⟩ := rd_abs hr
  have hlen' : len = kids.length := hlen
  have s1 : key.size ≤ 1048576 := hokf.2.1
  have s2 : val.size ≤ 1048576 := hokf.2.2.1
  have s3 : len ≤ 1000 := hlen' ▸ hokf.2.2.2.1
  have hmf : mayF (.mk op key val kids) = mayW op key val len := by rw [hlen']; rfl
  obtain ⟨b, hb⟩ : ∃ b, mayW op key val len = b := ⟨_, rfl⟩
  have HB := Lib.hid hb
  have HM := Lib.hid hmf
  have HR := Lib.hid hr.bound
  have HL := Lib.hid hlen'
  have HIH := Lib.hid ih
  have HOK : Hid (∀ k ∈ kids, okL n k) := hokf.2.2.2.2
  show Calls Try.prog 54 #[.agg #[.int .i64 op, .string key, .string val, .slice A len cap], .int .i64 d, .int .i64 c] w (WalkPost n (.mk op key val kids) (d + 1) c w)
  clear hr hokf hlen hlen' hb hmf ih
  by_cases k1 : 6 ≤ d
  · have hch : Hid (chk (n + 1) (.mk op key val kids) (d + 1) c = (51, c)) := chk_deep (by omega)
    go_enter Try.func54, Try.ntmps54
    go_wp2_with fail
    go_ret2
    exact ⟨by rw [hch.out]; rfl, (Ext.refl _ _).alloc _⟩
  by_cases k2 : 24 ≤ c
  · have hch : Hid (chk (n + 1) (.mk op key val kids) (d + 1) c = (51, c)) := chk_deep (by omega)
    go_enter Try.func54, Try.ntmps54
    go_wp2_with fail
    go_ret2
    exact ⟨by rw [hch.out]; rfl, (Ext.refl _ _).alloc _⟩
  cases b with
  | false =>
    have hch : Hid (chk (n + 1) (.mk op key val kids) (d + 1) c = (50, c)) := chk_bad (by omega) (HM.out.trans HB.out)
    go_enter Try.func54, Try.ntmps54
    go_wp2_with fail
    refine (May_calls (by omega) (by omega)).mono ?_
    rw [HB.out]
    rintro e w5 ⟨rfl, he⟩
    have HE := Lib.hid he
    clear he
    go_wp2_with fail
    go_ret2
    exact ⟨by rw [hch.out]; rfl, ((Ext.refl _ _).alloc _).trans0 HE.out⟩
  | true =>
    have hch0 : Hid (chk (n + 1) (.mk op key val kids) (d + 1) c = foldE (fun k c => chk n k (d + 1 + 1) c) kids (c + 1)) := chk_go (by omega) (HM.out.trans HB.out)
    go_enter Try.func54, Try.ntmps54
    go_wp2_with fail
    refine (May_calls (by omega) (by omega)).mono ?_
    rw [HB.out]
    rintro e w5 ⟨rfl, he⟩
    have x0 : w5.cell? ⟨w.heap.size, 3, none⟩ = some (.slice A len cap) := boxed0 he (fun h => h) 3
    have HE : Hid (Ext Non w w5) := ((Ext.refl _ _).alloc _).trans0 he
    clear he
    go_wp2_with fail
    go_loopw [2, 28] (fun s i wr => ∃ (j : Nat) (c3 : Int), i = .int .i64 (j : Int) ∧ s = .int .i64 c3 ∧ j ≤ len ∧ Hid (Ext Non w wr) ∧ 0 ≤ c3 ∧ c3 ≤ 24 ∧ Hid (foldE (fun k c => chk n k (d + 1 + 1) c) kids (c + 1) = foldE (fun k c => chk n k (d + 1 + 1) c) (kids.drop j) c3)) (fun _ i _ => len - (intOf i).toNat)
    case atStart => exact ⟨0, c + 1, rfl, rfl, by omega, HE, by omega, by omega, rfl⟩
    case round =>
      obtain ⟨j, c3, rfl, rfl, hj, HE2, q1, q2, HF⟩ := hrel
      by_cases hlt : j < len
      · obtain ⟨k, hk0⟩ : ∃ k, kids[j]? = some k := ⟨_, List.getElem?_eq_getElem (by rw [← HL.out]; exact hlt)⟩
        have hdrop : kids.drop j = k :: kids.drop (j + 1) := by
          rw [List.drop_eq_getElem_cons (by rw [← HL.out]; exact hlt)]
          congr 1
          exact (List.getElem?_eq_some_iff.1 hk0).2
        have HR1 := HR.out.ext0 HE2.out
        obtain ⟨gk, off, vk, m, hnm, rfl, hgk, hgl, d0', d1', d2', d3', hrk⟩ := kid_at HR1 hk0
        have hkok : okL (m + 1) k := hnm ▸ HOK.out k (List.mem_of_getElem? hk0)
        obtain ⟨A2, len2, cap2, rfl, hlen2⟩ := rd_abs hrk
        obtain ⟨r, hr⟩ : ∃ r, chk (m + 1) k (d + 1 + 1) c3 = r := ⟨_, rfl⟩
        have hle := chk_le (m + 1) k (d + 1 + 1) c3 q1 q2
        rw [hr] at hle
        obtain ⟨er, c4⟩ := r
        have HRR := Lib.hid hr
        have HRK := Lib.hid hrk
        have HD := Lib.hid hdrop
        clear hr hrk hdrop hk0 HR1 hlen2
        by_cases he0 : er = 0
        · subst he0
          obtain ⟨r1, r2⟩ := hle rfl
          clear hle
          go_wp2_with fail
          refine (HIH.out m hnm k _ _ _ (d + 1) c3 (HRK.out.ext0 ?_) hkok (by omega) (by omega) q1 q2).mono ?_
          · repeat (first | exact Ext.refl _ _ | refine Ext.drew ?_ | refine Ext.alloc ?_ _ | refine Ext.setNew ?_ (Nat.le_refl _) _)
          rintro e w6 ⟨rfl, he⟩
          rw [HRR.out]
          have HE3 : Hid (Ext Non w w6) := by
            refine Ext.trans0 ?_ he
            repeat (first | exact HE2.out | refine Ext.drew ?_ | refine Ext.alloc ?_ _ | refine Ext.setNew ?_ HE2.out.size _)
          clear he
          go_wp2_with fail
          go_roundw
          case rel =>
            refine ⟨j + 1, c4, by go_num, rfl, by omega, HE3.out, r1, r2, ?_⟩
            show foldE _ _ _ = _
            rw [HF.out, HD.out]
            exact foldE_yes (by rw [hnm]; exact HRR.out)
          case measure => simp [intOf]; omega
        · clear hle
          have hfin : Hid (chk (n + 1) (.mk op key val kids) (d + 1) c = (er, c4)) := by
            show chk (n + 1) (.mk op key val kids) (d + 1) c = _
            rw [hch0.out, HF.out, HD.out, ← HRR.out]
            have h1 := foldE_no (F := fun k c => chk n k (d + 1 + 1) c) (k := k) (ks := kids.drop (j + 1)) (c := c3) (by
              show (chk n k (d + 1 + 1) c3).1 ≠ 0
              rw [hnm, HRR.out]
              exact he0)
            rw [h1, hnm]
          go_wp2_with fail
          refine (HIH.out m hnm k _ _ _ (d + 1) c3 (HRK.out.ext0 ?_) hkok (by omega) (by omega) q1 q2).mono ?_
          · repeat (first | exact Ext.refl _ _ | refine Ext.drew ?_ | refine Ext.alloc ?_ _ | refine Ext.setNew ?_ (Nat.le_refl _) _)
          rintro e w6 ⟨rfl, he⟩
          rw [HRR.out]
          have HE3 : Hid (Ext Non w w6) := by
            refine Ext.trans0 ?_ he
            repeat (first | exact HE2.out | refine Ext.drew ?_ | refine Ext.alloc ?_ _ | refine Ext.setNew ?_ HE2.out.size _)
          clear he
          go_wp2_with fail
          all_goals go_ret2
          all_goals exact ⟨by rw [hfin.out]; rfl, HE3.out⟩
      · have hfin : Hid (chk (n + 1) (.mk op key val kids) (d + 1) c = (0, c3)) := by
          show chk (n + 1) (.mk op key val kids) (d + 1) c = _
          rw [hch0.out, HF.out, List.drop_eq_nil_of_le (by rw [← HL.out]; omega)]
          rfl
        obtain rfl : j = len := by omega
        go_wp2_with fail
        go_ret2
        exact ⟨by rw [hfin.out]; rfl, HE2.out⟩
theorem walk_at : ∀ n, WalkAt n := by
  intro n
  induction n with
  | zero => exact walk_step 0 (fun m h => by omega)
  | succ n ih => exact walk_step (n + 1) (fun m h => by cases h; exact ih)
set_option maxRecDepth 100000 in
set_option maxHeartbeats 1048576 in
theorem RCheck_calls {n : Nat} {f : Flt} {w : World} {ok : Nat → Prop} {x : Value} (hx : FV n w ok x f) (hok : okL (n + 1) f) : Calls Try.prog 20 #[x] w fun e w' => e = .returned (.int .i64 (checkE (n + 1) f)) ∧ Ext Non w w' := by
  obtain ⟨v, rfl, hr⟩ := hx
  obtain ⟨A, len, cap, rfl, hlen⟩ := rd_abs hr
  have HR := Lib.hid hr
  clear hr hlen
  go_enter Try.func20, Try.ntmps20
  go_wp2_with fail
  refine (walk_at n f _ ok _ 0 0 (HR.out.ext0 ?_) hok (by omega) (by omega) (by omega) (by omega)).mono ?_
  · repeat (first | exact Ext.refl _ _ | refine Ext.alloc ?_ _ | refine Ext.setNew ?_ (by simp) _)
  rintro e w5 ⟨rfl, he⟩
  have HE : Hid (Ext Non w w5) := by
    show Ext Non w w5
    refine Ext.trans0 ?_ he
    repeat (first | exact Ext.refl _ _ | refine Ext.alloc ?_ _ | refine Ext.setNew ?_ (by simp) _)
  clear he
  go_wp2_with fail
  go_ret
  exact ⟨rfl, HE.out⟩
end Go.Proofs.Ytdjfijdnhfmeeaa

