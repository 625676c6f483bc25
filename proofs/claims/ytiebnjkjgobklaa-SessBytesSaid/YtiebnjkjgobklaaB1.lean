/- A slice that is made with a length of none and some room. No program in sight. -/
import Derived.Test.YtiebnjkjgobklaaBase
import Derived.Laws.MakeOwn
namespace Go.TM
open Go.RowKit

theorem run_make_rd {α : Type} {P : Program} (d : Kd α) {w : World} {ok : Nat → Prop} (base : Nat) (t e : TypeId) (z : Value) (bytes : Nat) (kl kc : IntKind) (c : Nat)
    (ht : P.underlying t = some (.slice e)) (hinfo : (P.info? e).map (fun i => (i.zero, i.size, i.bytes)) = some (some z, d.sz, bytes)) (hl : bytes * c ≤ 281474976710656) (hb : c ≤ 9223372036854775807) (hbase : base ≤ w.heap.size) (hok : ok w.heap.size) :
    ∃ w', (Instr.makeSlice t (.int kl 0) (.int kc (c : Int))).run P w = .ok (.slice (some ⟨w.heap.size, 0, none⟩) 0 c) w' ∧ Own d e w' base ok (.slice (some ⟨w.heap.size, 0, none⟩) 0 c) [] ∧ Ext Non w w' := by
  obtain ⟨i0, hi, hzz⟩ := Option.map_eq_some_iff.1 hinfo
  simp only [Prod.mk.injEq] at hzz
  obtain ⟨hz0, hz1, hz2⟩ := hzz
  obtain ⟨w', hr, ho, hg⟩ := run_make_own (P := P) w base t e i0 z d.sz ht hi hz0 hz1 kl kc c (by rw [hz2]; exact hl) (by simpa [maxLen] using hb) hbase
  refine ⟨w', hr, ⟨fun k hk => ?_, [], ho, Reps.nil _ _ _⟩, hg.os, hg.tape, hg.output, hg.size, fun k hk _ => hg.block k hk (fun h => by cases h)⟩
  simp [Value.ownBlock] at hk
  subst hk
  exact hok

theorem wpList_make {α : Type} {P : Program} (d : Kd α) {w : World} {ops : Array Oper} {rest : List Oper} {o : Oper} {a : Act} {Q : Exit → Act → World → Prop} {ok : Nat → Prop} (base : Nat)
    (hgd : o.guard = none) (x y : Operand) (t e : TypeId) (z : Value) (bytes : Nat) (kl kc : IntKind) (c : Nat) (ho : o.op = .makeSlice t x y)
    (ht : P.underlying t = some (.slice e)) (hinfo : (P.info? e).map (fun i => (i.zero, i.size, i.bytes)) = some (some z, d.sz, bytes)) (hx : a.eval x = .int kl 0) (hy : a.eval y = .int kc (c : Int))
    (hl : bytes * c ≤ 281474976710656) (hb : c ≤ 9223372036854775807) (hbase : base ≤ w.heap.size) (hok : ok w.heap.size)
    (h : ∀ w', Own d e w' base ok (.slice (some ⟨w.heap.size, 0, none⟩) 0 c) [] → Ext Non w w' → wpList P ops Q rest (a.put o.dst (.slice (some ⟨w.heap.size, 0, none⟩) 0 c)) w') : wpList P ops Q (o :: rest) a w := by
  obtain ⟨w', hr, h1, h2⟩ := run_make_rd (P := P) d base t e z bytes kl kc c ht hinfo hl hb hbase hok
  refine wpList_plain hgd fun K hK => ?_
  unfold Oper.wp execOp
  simp only [ho, hx, hy, Sem.run_bind, Result.andThen_ok, hr, Sem.run_pure]
  exact hK _ _ (h w' h1 h2)
end Go.TM
