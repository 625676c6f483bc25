/- The disk, plainly: plates, acts, calls. No program in sight. -/
import Derived.Test.YtpmncppfopbaaaaBase
namespace Go.TM

structure Plate where
  s0 : List UInt8
  s1 : List UInt8
  tape : List UInt8
structure DAct where
  kind : Int
  b : List UInt8
def Plate.nil : Plate := ⟨[], [], []⟩
def Plate.does (p : Plate) (a : DAct) : Plate :=
  if a.kind = 2 then ⟨p.s0, p.s1, p.tape ++ a.b⟩ else if a.kind = 3 then ⟨p.s0, p.s1, []⟩ else if a.kind = 0 then ⟨a.b, p.s1, p.tape⟩ else ⟨p.s0, a.b, p.tape⟩
def DAct.cut (a : DAct) (n : Int) : DAct := ⟨a.kind, a.b.take n.toNat⟩
def Plate.torn (p : Plate) (a : DAct) (n : Int) : Plate := if n ≤ 0 ∨ a.kind = 3 then p else p.does (a.cut n)
def Plate.used (p : Plate) : Nat := p.s0.length + p.s1.length + p.tape.length
def Plate.all (p : Plate) (l : List DAct) : Plate := l.foldl Plate.does p
def Plate.slot (p : Plate) (i : Int) : List UInt8 := if i = 0 then p.s0 else p.s1

structure Dk where
  now : Plate
  kept : Plate
  wait : List DAct
  room : Int
  off : Bool
  left : Int
  keep : Int
  tear : Int
def Dk.new (room : Int) : Dk := ⟨.nil, .nil, [], room, false, 0, 0, 0⟩
def Dk.upto (d : Dk) (keep : Int) : Nat := (max 0 (min keep (d.wait.length : Int))).toNat
def Dk.fell (d : Dk) (keep tear : Int) : Plate :=
  match d.wait[d.upto keep]? with
  | some a => (d.kept.all (d.wait.take (d.upto keep))).torn a tear
  | none => d.kept.all (d.wait.take (d.upto keep))
def Dk.able (d : Dk) : Int := if d.room = 0 then 6 else if d.off then 30 else 0
def Dk.down (d : Dk) (keep tear : Int) : Dk := ⟨d.fell keep tear, d.fell keep tear, [], d.room, true, 0, d.keep, d.tear⟩
def Dk.crash (d : Dk) (keep tear : Int) : Int × Dk := if d.able = 0 then (0, d.down keep tear) else (d.able, d)
def Dk.tick (d : Dk) : Dk := ⟨d.now, d.kept, d.wait, d.room, d.off, d.left - 1, d.keep, d.tear⟩
def Dk.fuse (d : Dk) : Bool × Dk :=
  if d.left = 0 then (false, d) else if d.left = 1 then (true, d.tick.down d.keep d.tear) else (d.off, d.tick)
def Dk.acted (d : Dk) (a : DAct) : Dk := ⟨d.now.does a, d.kept, d.wait ++ [a], d.room, d.off, d.left, d.keep, d.tear⟩
def Dk.told (r : Bool × Dk) : Int × Dk := (if r.1 then 30 else 0, r.2)
def Dk.act (d : Dk) (a : DAct) : Int × Dk := Dk.told (d.acted a).fuse
def Dk.fits (d : Dk) (more : Int) : Bool := decide (more ≤ d.room - d.now.used)
def Dk.slot (d : Dk) (i : Int) (b : List UInt8) : Int × Dk :=
  if d.able ≠ 0 then (d.able, d) else if i < 0 ∨ 1 < i then (31, d) else if d.fits ((b.length : Int) - ((d.now.slot i).length : Int)) then d.act ⟨i, b⟩ else (7, d)
def Dk.append (d : Dk) (b : List UInt8) : Int × Dk := if d.able ≠ 0 then (d.able, d) else if d.fits (b.length : Int) then d.act ⟨2, b⟩ else (7, d)
def Dk.clear (d : Dk) : Int × Dk := if d.able ≠ 0 then (d.able, d) else d.act ⟨3, []⟩
def Dk.synced (d : Dk) : Dk := ⟨d.now, d.now, [], d.room, d.off, d.left, d.keep, d.tear⟩
def Dk.sync (d : Dk) : Int × Dk := if d.able ≠ 0 then (d.able, d) else Dk.told d.synced.fuse
def Dk.armed (d : Dk) (n keep tear : Int) : Dk := ⟨d.now, d.kept, d.wait, d.room, d.off, n, keep, tear⟩
def Dk.arm (d : Dk) (n keep tear : Int) : Int × Dk := if d.able ≠ 0 then (d.able, d) else if n < 0 then (1, d) else (0, d.armed n keep tear)
def Dk.on (d : Dk) : Dk := ⟨d.now, d.kept, d.wait, d.room, false, d.left, d.keep, d.tear⟩
def Dk.start (d : Dk) : Int × Dk := if d.room = 0 then (6, d) else (0, d.on)
structure Call where
  op : Int
  i : Int
  keep : Int
  tear : Int
  b : List UInt8
def Call.kind (c : Call) : Int := (c.op % 18446744073709551616) % 9
def Dk.call (d : Dk) (c : Call) : Int × Dk :=
  if c.kind = 2 ∨ c.kind = 3 then d.slot c.i c.b else if c.kind = 4 then d.clear else if c.kind = 5 then d.sync else if c.kind = 6 then d.crash c.keep c.tear
  else if c.kind = 7 then d.start else if c.kind = 8 then d.arm c.i c.keep c.tear else d.append c.b
def Dk.run (d : Dk) (l : List Call) : Dk := l.foldl (fun d c => (d.call c).2) d

/-! ### What always holds -/
def inI (n : Int) : Prop := -9223372036854775808 ≤ n ∧ n ≤ 9223372036854775807
structure Dk.Good (d : Dk) : Prop where
  room : 1 ≤ d.room ∧ d.room ≤ 16777216
  left : 0 ≤ d.left ∧ d.left ≤ 9223372036854775807
  keep : inI d.keep
  tear : inI d.tear
  kinds : ∀ a ∈ d.wait, 0 ≤ a.kind ∧ a.kind ≤ 3
  now : d.now = d.kept.all d.wait
  fit : ∀ n, n ≤ d.wait.length → ((d.kept.all (d.wait.take n)).used : Int) ≤ d.room
structure Call.Ok (c : Call) : Prop where
  op : inI c.op
  i : inI c.i
  keep : inI c.keep
  tear : inI c.tear

theorem Plate.all_append (p : Plate) (l m : List DAct) : p.all (l ++ m) = (p.all l).all m := List.foldl_append ..
theorem Plate.all_snoc (p : Plate) (l : List DAct) (a : DAct) : p.all (l ++ [a]) = (p.all l).does a := by rw [Plate.all_append]; rfl
theorem Dk.Good.used {d : Dk} (h : d.Good) : (d.now.used : Int) ≤ d.room := by
  have := h.fit d.wait.length (Nat.le_refl _)
  rw [List.take_length, ← h.now] at this
  exact this
theorem Plate.torn_used {p : Plate} {a : DAct} {n : Int} : ∀ {r : Int}, (p.used : Int) ≤ r → ((p.does a).used : Int) ≤ r → ((p.torn a n).used : Int) ≤ r := by
  intro r h1 h2
  unfold Plate.torn
  split
  · exact h1
  · refine Int.le_trans (Int.ofNat_le.2 ?_) h2
    have hl : (a.b.take n.toNat).length ≤ a.b.length := by rw [List.length_take]; exact Nat.min_le_right _ _
    unfold Plate.does DAct.cut Plate.used
    simp only []
    split
    · simp only [List.length_append]; omega
    · split
      · exact Nat.le_refl _
      · split
        · simp only []; omega
        · simp only []; omega
theorem Dk.upto_le (d : Dk) (keep : Int) : d.upto keep ≤ d.wait.length := by unfold Dk.upto; omega
theorem Dk.Good.fell {d : Dk} (h : d.Good) (keep tear : Int) : ((d.fell keep tear).used : Int) ≤ d.room := by
  have hn := d.upto_le keep
  have h0 := h.fit _ hn
  unfold Dk.fell
  cases hx : d.wait[d.upto keep]? with
  | none => exact h0
  | some a =>
    have hlt := (List.getElem?_eq_some_iff.1 hx).1
    have h1 := h.fit (d.upto keep + 1) hlt
    have e : d.wait.take (d.upto keep + 1) = d.wait.take (d.upto keep) ++ [a] := by
      rw [List.take_succ_eq_append_getElem hlt]
      congr 2
      exact (List.getElem?_eq_some_iff.1 hx).2
    rw [e, Plate.all_snoc] at h1
    exact Plate.torn_used h0 h1
theorem Dk.Good.down {d : Dk} (h : d.Good) (keep tear : Int) : (d.down keep tear).Good :=
  ⟨h.room, ⟨Int.le_refl _, by simp [Dk.down]⟩, h.keep, h.tear, fun a ha => by simp [Dk.down] at ha, rfl, fun n _ => by
    have : ((d.down keep tear).wait.take n) = [] := by simp [Dk.down]
    rw [this]
    exact h.fell keep tear⟩
theorem Dk.Good.tick {d : Dk} (h : d.Good) (hl : d.left ≠ 0) : d.tick.Good :=
  ⟨h.room, ⟨by have := h.left.1; show 0 ≤ d.left - 1; omega, by have := h.left.2; show d.left - 1 ≤ _; omega⟩, h.keep, h.tear, h.kinds, h.now, h.fit⟩
theorem Dk.Good.fuse {d : Dk} (h : d.Good) : d.fuse.2.Good := by
  unfold Dk.fuse
  split
  · exact h
  · rename_i h0
    split
    · exact (h.tick h0).down _ _
    · exact h.tick h0
theorem Dk.Good.acted {d : Dk} (h : d.Good) {a : DAct} (hk : 0 ≤ a.kind ∧ a.kind ≤ 3) (hf : ((d.now.does a).used : Int) ≤ d.room) : (d.acted a).Good :=
  ⟨h.room, h.left, h.keep, h.tear, fun x hx => by
    rcases List.mem_append.1 hx with hx | hx
    · exact h.kinds x hx
    · rw [List.mem_singleton.1 hx]; exact hk, by
    show d.now.does a = d.kept.all (d.wait ++ [a])
    rw [Plate.all_snoc, h.now], fun n hn => by
    show ((d.kept.all ((d.wait ++ [a]).take n)).used : Int) ≤ d.room
    rcases Nat.lt_or_ge d.wait.length n with hlt | hge
    · rw [List.take_of_length_le (by rw [List.length_append, List.length_singleton]; omega), Plate.all_snoc, ← h.now]
      exact hf
    · rw [List.take_append_of_le_length hge]
      exact h.fit n hge⟩
theorem Dk.Good.act {d : Dk} (h : d.Good) {a : DAct} (hk : 0 ≤ a.kind ∧ a.kind ≤ 3) (hf : ((d.now.does a).used : Int) ≤ d.room) : (d.act a).2.Good := (h.acted hk hf).fuse
theorem Dk.Good.synced {d : Dk} (h : d.Good) : d.synced.Good :=
  ⟨h.room, h.left, h.keep, h.tear, fun x hx => by simp [Dk.synced] at hx, rfl, fun n _ => by
    have : (d.synced.wait.take n) = [] := by simp [Dk.synced]
    rw [this]
    exact h.used⟩
theorem Dk.Good.slot_fit {d : Dk} {i : Int} {b : List UInt8} (hi : ¬ (i < 0 ∨ 1 < i)) (hf : d.fits ((b.length : Int) - ((d.now.slot i).length : Int)) = true) : ((d.now.does ⟨i, b⟩).used : Int) ≤ d.room := by
  unfold Dk.fits at hf
  rw [decide_eq_true_eq] at hf
  unfold Plate.does Plate.used Plate.slot at *
  simp only []
  rw [if_neg (by omega), if_neg (by omega)]
  by_cases h0 : i = 0
  · rw [if_pos h0] at hf ⊢
    simp only []
    omega
  · rw [if_neg h0] at hf ⊢
    simp only []
    omega
theorem Dk.Good.app_fit {d : Dk} {b : List UInt8} (hf : d.fits (b.length : Int) = true) : ((d.now.does ⟨2, b⟩).used : Int) ≤ d.room := by
  unfold Dk.fits at hf
  rw [decide_eq_true_eq] at hf
  unfold Plate.does Plate.used at *
  simp only [if_true, List.length_append]
  omega
theorem Dk.Good.clear_fit {d : Dk} (h : d.Good) : ((d.now.does ⟨3, []⟩).used : Int) ≤ d.room := by
  have := h.used
  unfold Plate.does Plate.used at *
  simp
  omega
theorem Dk.Good.on {d : Dk} (h : d.Good) : d.on.Good := ⟨h.room, h.left, h.keep, h.tear, h.kinds, h.now, h.fit⟩
theorem Dk.Good.armed {d : Dk} (h : d.Good) {n keep tear : Int} (hn : 0 ≤ n) (h1 : inI n) (h2 : inI keep) (h3 : inI tear) : (d.armed n keep tear).Good := ⟨h.room, ⟨hn, h1.2⟩, h2, h3, h.kinds, h.now, h.fit⟩
theorem Dk.Good.call {d : Dk} (h : d.Good) {c : Call} (hc : c.Ok) : (d.call c).2.Good := by
  unfold Dk.call Dk.slot Dk.clear Dk.sync Dk.crash Dk.start Dk.arm Dk.append
  split
  · split
    · exact h
    · split
      · exact h
      · rename_i hi
        split
        · rename_i hf
          exact h.act (by simp only []; omega) (Dk.Good.slot_fit hi hf)
        · exact h
  · split
    · split
      · exact h
      · exact h.act (by simp) h.clear_fit
    · split
      · split
        · exact h
        · exact h.synced.fuse
      · split
        · split
          · exact h.down _ _
          · exact h
        · split
          · split
            · exact h
            · exact h.on
          · split
            · split
              · exact h
              · split
                · exact h
                · exact h.armed (by omega) hc.i hc.keep hc.tear
            · split
              · exact h
              · split
                · rename_i hf
                  exact h.act (by simp) (Dk.Good.app_fit hf)
                · exact h
theorem Dk.Good.run {d : Dk} (h : d.Good) {l : List Call} (hl : ∀ c ∈ l, c.Ok) : (d.run l).Good := by
  induction l generalizing d with
  | nil => exact h
  | cons c l ih => exact ih (h.call (hl c (List.mem_cons_self ..))) (fun x hx => hl x (List.mem_cons_of_mem _ hx))
theorem Dk.Good.new {room : Int} (h1 : 1 ≤ room) (h2 : room ≤ 16777216) : (Dk.new room).Good :=
  ⟨⟨h1, h2⟩, ⟨Int.le_refl _, by simp [Dk.new]⟩, ⟨by simp [Dk.new], by simp [Dk.new]⟩, ⟨by simp [Dk.new], by simp [Dk.new]⟩, fun a ha => by simp [Dk.new] at ha, rfl, fun n _ => by
    have : (((Dk.new room).wait).take n) = [] := by simp [Dk.new]
    rw [this]
    show ((Plate.nil.used : Nat) : Int) ≤ room
    have : Plate.nil.used = 0 := rfl
    omega⟩
def Dk.withKept (d : Dk) (p : Plate) : Dk := ⟨d.now, p, d.wait, d.room, d.off, d.left, d.keep, d.tear⟩
theorem Plate.does_tape {p : Plate} {a : DAct} (h : a.kind = 2) : p.tape.length + a.b.length ≤ (p.does a).used := by
  unfold Plate.does Plate.used
  rw [if_pos h]
  simp only [List.length_append]
  omega
theorem Dk.Good.next {d : Dk} (h : d.Good) {j : Nat} {a : DAct} (hj : d.wait[j]? = some a) : d.kept.all (d.wait.take (j + 1)) = (d.kept.all (d.wait.take j)).does a ∧ (a.kind = 2 → (d.kept.all (d.wait.take j)).tape.length + a.b.length ≤ 140737488355328) ∧ 0 ≤ a.kind ∧ a.kind ≤ 3 := by
  have hlt := (List.getElem?_eq_some_iff.1 hj).1
  have e : d.wait.take (j + 1) = d.wait.take j ++ [a] := by
    rw [List.take_succ_eq_append_getElem hlt]
    congr 2
    exact (List.getElem?_eq_some_iff.1 hj).2
  have e2 : d.kept.all (d.wait.take (j + 1)) = (d.kept.all (d.wait.take j)).does a := by rw [e, Plate.all_snoc]
  refine ⟨e2, fun hk => ?_, (h.kinds a (List.mem_of_getElem? hj)).1, (h.kinds a (List.mem_of_getElem? hj)).2⟩
  have h1 := h.fit (j + 1) hlt
  rw [e2] at h1
  have h2 := Plate.does_tape (p := d.kept.all (d.wait.take j)) hk
  have h3 := h.room
  omega
/-- As many acts wait as calls were made, at most. -/
theorem Dk.fuse_wait (d : Dk) : d.fuse.2.wait.length ≤ d.wait.length := by
  unfold Dk.fuse
  split
  · exact Nat.le_refl _
  · split
    · simp [Dk.down]
    · exact Nat.le_refl _
theorem Dk.call_wait (d : Dk) (c : Call) : (d.call c).2.wait.length ≤ d.wait.length + 1 := by
  have ha : ∀ a, (d.act a).2.wait.length ≤ d.wait.length + 1 := fun a => by
    have := (d.acted a).fuse_wait
    have e : (d.acted a).wait.length = d.wait.length + 1 := by simp [Dk.acted]
    show (d.acted a).fuse.2.wait.length ≤ _
    omega
  have hs : d.synced.fuse.2.wait.length ≤ d.wait.length + 1 := by
    have := d.synced.fuse_wait
    have e : d.synced.wait.length = 0 := rfl
    omega
  have h0 : d.wait.length ≤ d.wait.length + 1 := Nat.le_succ _
  unfold Dk.call Dk.slot Dk.clear Dk.sync Dk.crash Dk.start Dk.arm Dk.append
  repeat' split
  all_goals first | exact h0 | exact ha _ | exact hs | simp [Dk.down]
theorem Dk.run_wait (d : Dk) (l : List Call) : (d.run l).wait.length ≤ d.wait.length + l.length := by
  induction l generalizing d with
  | nil => exact Nat.le_refl _
  | cons c l ih =>
    have h1 := ih (d.call c).2
    have h2 := d.call_wait c
    show ((d.call c).2.run l).wait.length ≤ _
    rw [List.length_cons]
    omega
end Go.TM
