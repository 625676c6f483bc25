/- What a call leaves, told shortly; plain facts of disks. -/
import Derived.Test.YtpmncppfopbaaaaC5
namespace Go.Proofs.Ytpmncppfopbaaaa
open Go.RowKit Go.TM

def Goes (r : Int × Dk) (x : Int) (d' : Dk) : Prop := r.1 = x ∧ r.2 = d' ∧ d'.Good ∧ d'.wait.length ≤ 100000000
def GPost (ok : Nat → Prop) (g : Nat) (d' : Dk) (x : Int) (w : World) (e : Ending) (w' : World) : Prop := e = .returned (.int .i64 x) ∧ Live w' ok g d' ∧ Ext (Only g) w w'
theorem DPost.goes {ok : Nat → Prop} {g : Nat} {d d' : Dk} {r : Int × Dk} {x : Int} {w : World} (L : Live w ok g d) (G : Goes r x d') {e : Ending} {w' : World} (h : DPost ok g r w e w') : GPost ok g d' x w e w' := by
  obtain ⟨h1, h2, h3⟩ := h
  obtain ⟨g1, g2, g3, g4⟩ := G
  rw [g1] at h1
  rw [g2] at h2
  exact ⟨h1, L.next h2 h3 g3 g4, h3⟩
theorem start_go {w : World} {ok : Nat → Prop} {g : Nat} {d d' : Dk} {x : Int} (L : Live w ok g d) (G : Goes d.start x d') : Calls Try.prog 15 #[.pointer (some ⟨g, 0, none⟩)] w (GPost ok g d' x w) :=
  (Start_calls L.at_ L.out).mono fun _ _ h => h.goes L G
theorem arm_go {w : World} {ok : Nat → Prop} {g : Nat} {d d' : Dk} {x : Int} (L : Live w ok g d) {n keep tear : Int} (G : Goes (d.arm n keep tear) x d') : Calls Try.prog 16 #[.pointer (some ⟨g, 0, none⟩), .int .i64 n, .int .i64 keep, .int .i64 tear] w (GPost ok g d' x w) :=
  (Arm_calls L.at_ L.out n keep tear).mono fun _ _ h => h.goes L G
theorem sync_go {w : World} {ok : Nat → Prop} {g : Nat} {d d' : Dk} {x : Int} (L : Live w ok g d) (G : Goes d.sync x d') : Calls Try.prog 17 #[.pointer (some ⟨g, 0, none⟩)] w (GPost ok g d' x w) :=
  (Sync_calls L).mono fun _ _ h => h.goes L G
theorem clear_go {w : World} {ok : Nat → Prop} {g : Nat} {d d' : Dk} {x : Int} (L : Live w ok g d) (G : Goes d.clear x d') : Calls Try.prog 25 #[.pointer (some ⟨g, 0, none⟩)] w (GPost ok g d' x w) :=
  (Clear_calls L).mono fun _ _ h => h.goes L G
theorem crash_go {w : World} {ok : Nat → Prop} {g : Nat} {d d' : Dk} {x : Int} (L : Live w ok g d) {keep tear : Int} (G : Goes (d.crash keep tear) x d') : Calls Try.prog 19 #[.pointer (some ⟨g, 0, none⟩), .int .i64 keep, .int .i64 tear] w (GPost ok g d' x w) :=
  (crash_calls L.at_ L.good L.fresh L.out keep tear).mono fun _ _ h => h.goes L G
theorem append_go {w : World} {ok okb : Nat → Prop} {g : Nat} {d d' : Dk} {x : Int} (L : Live w ok g d) {A : Option Addr} {n c : Nat} {b : List UInt8} (R : Rd Kd.u8 w okb (.slice A n c) b) (hbl : b.length ≤ 140737488355328) (G : Goes (d.append b) x d') : Calls Try.prog 44 #[.pointer (some ⟨g, 0, none⟩), .slice A n c] w (GPost ok g d' x w) :=
  (Append_calls L R hbl).mono fun _ _ h => h.goes L G
theorem slot_go {w : World} {ok okb : Nat → Prop} {g : Nat} {d d' : Dk} {x : Int} (L : Live w ok g d) {i : Int} {A : Option Addr} {n c : Nat} {b : List UInt8} (R : Rd Kd.u8 w okb (.slice A n c) b) (hbl : b.length ≤ 140737488355328) (G : Goes (d.slot i b) x d') : Calls Try.prog 26 #[.pointer (some ⟨g, 0, none⟩), .int .i64 i, .slice A n c] w (GPost ok g d' x w) :=
  (Slot_calls L i R hbl).mono fun _ _ h => h.goes L G
theorem does_go {w : World} {ok okb : Nat → Prop} {g : Nat} {d d' : Dk} {x : Int} (L : Live w ok g d) {k : TM.Call} {A : Option Addr} {n c : Nat} (R : Rd Kd.u8 w okb (.slice A n c) k.b) (hbl : k.b.length ≤ 140737488355328) (G : Goes (d.call k) x d') : Calls Try.prog 23 #[.pointer (some ⟨g, 0, none⟩), .agg #[.int .i64 k.op, .int .i64 k.i, .int .i64 k.keep, .int .i64 k.tear, .slice A n c]] w (GPost ok g d' x w) :=
  (does_calls L k R hbl).mono fun _ _ h => h.goes L G
theorem face_go {w : World} {ok : Nat → Prop} {g : Nat} {d : Dk} (L : Live w ok g d) {p : Plate} {b : Bool} (G : d.face = (p, b)) : Calls Try.prog 18 #[.pointer (some ⟨g, 0, none⟩)] w (FacePost (p, b) w) := by
  have := face_calls L.at_ (fun _ => L.good)
  rwa [G] at this
theorem tape_go {w : World} {ok : Nat → Prop} {g : Nat} {d : Dk} (L : Live w ok g d) {r : List UInt8 × Int} (G : d.tapeR = r) : Calls Try.prog 20 #[.pointer (some ⟨g, 0, none⟩)] w (LPost r w) := by
  have := Tape_calls L.at_ (fun _ => L.good)
  rwa [G] at this

/-! ### Plain -/
theorem good_room {d : Dk} (h : d.Good) : d.room ≠ 0 := by have := h.room; omega
theorem able_on {d : Dk} (h : d.room ≠ 0) (ho : d.off = false) : d.able = 0 := by unfold Dk.able; rw [if_neg h, ho]; rfl
theorem able_off {d : Dk} (h : d.room ≠ 0) (ho : d.off = true) : d.able = 30 := by unfold Dk.able; rw [if_neg h, ho]; rfl
theorem goes_start {d : Dk} (h : d.Good) (hw : d.wait.length ≤ 100000000) : Goes d.start 0 d.on := by
  have : d.start = (0, d.on) := by unfold Dk.start; rw [if_neg (good_room h)]
  rw [this]
  exact ⟨rfl, rfl, h.on, hw⟩
theorem goes_arm0 {d : Dk} (h : d.Good) (hw : d.wait.length ≤ 100000000) (ho : d.off = false) {n keep tear : Int} (hn : 0 ≤ n) (h1 : inI n) (h2 : inI keep) (h3 : inI tear) : Goes (d.arm n keep tear) 0 (d.armed n keep tear) := by
  have : d.arm n keep tear = (0, d.armed n keep tear) := by unfold Dk.arm; rw [if_neg (by simp [able_on (good_room h) ho]), if_neg (by omega)]
  rw [this]
  exact ⟨rfl, rfl, h.armed hn h1 h2 h3, hw⟩
theorem goes_sync {d : Dk} (h : d.Good) (ho : d.off = false) (hl : d.left = 0) : Goes d.sync 0 d.synced := by
  have : d.sync = (0, d.synced) := by
    unfold Dk.sync
    rw [if_neg (by simp [able_on (good_room h) ho])]
    unfold Dk.fuse
    rw [if_pos (show d.synced.left = 0 from hl)]
    rfl
  rw [this]
  exact ⟨rfl, rfl, h.synced, by simp [Dk.synced]⟩
theorem goes_crash {d : Dk} (h : d.Good) (ho : d.off = false) (keep tear : Int) : Goes (d.crash keep tear) 0 (d.down keep tear) := by
  have : d.crash keep tear = (0, d.down keep tear) := by unfold Dk.crash; rw [if_pos (able_on (good_room h) ho)]
  rw [this]
  exact ⟨rfl, rfl, h.down keep tear, by simp [Dk.down]⟩
theorem act_left0 {d : Dk} {a : DAct} (hl : d.left = 0) : d.act a = (0, d.acted a) := by
  unfold Dk.act Dk.fuse
  rw [if_pos (show (d.acted a).left = 0 from hl)]
  rfl
theorem goes_clear {d : Dk} (h : d.Good) (hw : d.wait.length ≤ 90000000) (ho : d.off = false) (hl : d.left = 0) : Goes d.clear 0 (d.acted ⟨3, []⟩) := by
  have : d.clear = (0, d.acted ⟨3, []⟩) := by unfold Dk.clear; rw [if_neg (by simp [able_on (good_room h) ho]), act_left0 hl]
  rw [this]
  exact ⟨rfl, rfl, h.acted (by simp) h.clear_fit, by simp [Dk.acted]; omega⟩
theorem face_on {d : Dk} (h : d.Good) (ho : d.off = false) : d.face = (d.now, true) := by unfold Dk.face; rw [if_pos (able_on (good_room h) ho)]
theorem made_wait (room : Int) (l : List TM.Call) (hl : l.length ≤ 1000) : ((Dk.new room).run l).wait.length ≤ 1000 := by
  have h1 := Dk.run_wait (Dk.new room) l
  have h2 : (Dk.new room).wait.length = 0 := rfl
  omega
theorem fell_empty {d : Dk} (h : d.wait = []) (keep tear : Int) : d.fell keep tear = d.kept := by
  unfold Dk.fell
  have hu : d.upto keep = 0 := by
    have := d.upto_le keep
    rw [h] at this
    simpa using this
  rw [hu, h]
  rfl

end Go.Proofs.Ytpmncppfopbaaaa
