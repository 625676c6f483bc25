/- How many bytes lie there, at most. No program in sight. -/
import Derived.Test.YtpmncppfopbaaaaP
namespace Go.TM

structure Dk.Upto (d : Dk) (K : Int) : Prop where
  fit : ∀ n, n ≤ d.wait.length → ((d.kept.all (d.wait.take n)).used : Int) ≤ K
  now : d.now = d.kept.all d.wait
theorem Dk.Upto.mono {d : Dk} {K K' : Int} (h : d.Upto K) (hk : K ≤ K') : d.Upto K' := ⟨fun n hn => Int.le_trans (h.fit n hn) hk, h.now⟩
theorem Dk.Upto.used {d : Dk} {K : Int} (h : d.Upto K) : (d.now.used : Int) ≤ K := by
  have := h.fit d.wait.length (Nat.le_refl _)
  rw [List.take_length, ← h.now] at this
  exact this
theorem Dk.Upto.fell {d : Dk} {K : Int} (h : d.Upto K) (keep tear : Int) : ((d.fell keep tear).used : Int) ≤ K := by
  have hn := d.upto_le keep
  have h0 := h.fit _ hn
  unfold Dk.fell
  cases hx : d.wait[d.upto keep]? with
  | none => exact h0
  | some a =>
    have hlt := (List.getElem?_eq_some_iff.1 hx).1
    have h1 := h.fit (d.upto keep + 1) hlt
    have e : d.wait.take (d.upto keep + 1) = d.wait.take (d.upto keep) ++ [a] := by
      rw [List.take_succ_eq_append_getElem hlt]
      congr 2
      exact (List.getElem?_eq_some_iff.1 hx).2
    rw [e, Plate.all_snoc] at h1
    exact Plate.torn_used h0 h1
theorem Dk.Upto.of_empty {d : Dk} {K : Int} (hw : d.wait = []) (hn : d.now = d.kept) (hu : (d.kept.used : Int) ≤ K) : d.Upto K :=
  ⟨fun n _ => by rw [hw, List.take_nil]; exact hu, by rw [hw, hn]; rfl⟩
theorem Dk.Upto.down {d : Dk} {K : Int} (h : d.Upto K) (keep tear : Int) : (d.down keep tear).Upto K := .of_empty rfl rfl (h.fell keep tear)
theorem Dk.Upto.fuse {d : Dk} {K : Int} (h : d.Upto K) : d.fuse.2.Upto K := by
  have ht : d.tick.Upto K := ⟨h.fit, h.now⟩
  unfold Dk.fuse
  split
  · exact h
  · split
    · exact ht.down _ _
    · exact ht
theorem Plate.does_used (p : Plate) (a : DAct) : (p.does a).used ≤ p.used + a.b.length := by
  unfold Plate.does Plate.used
  split
  · simp only [List.length_append]; omega
  · split
    · simp; omega
    · split
      · simp only []; omega
      · simp only []; omega
theorem Dk.Upto.acted {d : Dk} {K M : Int} (h : d.Upto K) {a : DAct} (ha : (a.b.length : Int) ≤ M) : (d.acted a).Upto (K + M) :=
  ⟨fun n hn => by
    show ((d.kept.all ((d.wait ++ [a]).take n)).used : Int) ≤ K + M
    rcases Nat.lt_or_ge d.wait.length n with hlt | hge
    · rw [List.take_of_length_le (by rw [List.length_append, List.length_singleton]; omega), Plate.all_snoc, ← h.now]
      have h1 := h.used
      have h2 := Plate.does_used d.now a
      omega
    · rw [List.take_append_of_le_length hge]
      have h1 := h.fit n hge
      omega, by
    show d.now.does a = d.kept.all (d.wait ++ [a])
    rw [Plate.all_snoc, h.now]⟩
theorem Dk.Upto.synced {d : Dk} {K : Int} (h : d.Upto K) : d.synced.Upto K := .of_empty rfl rfl h.used
theorem Dk.Upto.on {d : Dk} {K : Int} (h : d.Upto K) : d.on.Upto K := ⟨h.fit, h.now⟩
theorem Dk.Upto.armed {d : Dk} {K : Int} (h : d.Upto K) (n keep tear : Int) : (d.armed n keep tear).Upto K := ⟨h.fit, h.now⟩
theorem Dk.Upto.call {d : Dk} {K M : Int} (h : d.Upto K) {c : Call} (hb : (c.b.length : Int) ≤ M) (hM : 0 ≤ M) : (d.call c).2.Upto (K + M) := by
  have h' : d.Upto (K + M) := h.mono (by omega)
  unfold Dk.call Dk.slot Dk.clear Dk.sync Dk.crash Dk.start Dk.arm Dk.append
  repeat' split
  all_goals first
    | exact h'
    | exact (h.acted (a := ⟨_, c.b⟩) hb).fuse
    | exact (h.acted (a := ⟨3, []⟩) (by simpa using hM)).fuse
    | exact h'.synced.fuse
    | exact h'.down _ _
    | exact h'.on
    | exact h'.armed _ _ _
theorem Dk.Upto.run {d : Dk} {K M : Int} (hM : 0 ≤ M) (l : List Call) (hl : ∀ c ∈ l, (c.b.length : Int) ≤ M) (h : d.Upto K) : (d.run l).Upto (K + (l.length : Int) * M) := by
  induction l generalizing d K with
  | nil => exact h.mono (by simp)
  | cons c l ih =>
    have h1 := ih (fun x hx => hl x (List.mem_cons_of_mem _ hx)) (h.call (hl c (List.mem_cons_self ..)) hM)
    refine h1.mono ?_
    rw [List.length_cons]
    have : ((l.length + 1 : Nat) : Int) * M = (l.length : Int) * M + M := by
      rw [Int.natCast_add, Int.add_mul]
      simp
    omega
theorem Dk.Upto.new (room : Int) : (Dk.new room).Upto 0 := .of_empty rfl rfl (by simp [Dk.new, Plate.used, Plate.nil])
theorem Dk.Upto.made {l : List Call} (h : l.length ≤ 200) (hb : ∀ c ∈ l, c.b.length ≤ 32768) (room : Int) : ((Dk.new room).run l).Upto 6553600 := by
  have := (Dk.Upto.new room).run (M := 32768) (by omega) l (fun c hc => by have := hb c hc; omega)
  refine this.mono ?_
  omega
end Go.TM
