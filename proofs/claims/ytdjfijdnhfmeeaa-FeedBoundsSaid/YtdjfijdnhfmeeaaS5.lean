/- Loads and addresses of elements, as steps of drawn regions: small proofs. -/
import Derived.Test.YtdjfijdnhfmeeaaS4
import Derived.Test.YtdjfijdnhfmeeaaL
namespace Go.Proofs.Ytdjfijdnhfmeeaa
open Go.RowKit Go.TM
section
variable {a : Act} {W : World} {oi : Oper} {t s : Tmp} {p : Addr} {v : Value}
set_option maxRecDepth 100000 in
theorem ld3 (ho : oi.op = .load 3 (.tmp t)) (hp : a.eval (.tmp t) = .pointer (some p)) (hc : W.cell? p = some v) : (execOp a.eval oi).run Try.prog W = .ok (.value v) W := by
  unfold execOp
  rw [ho]
  simp only [hp]
  go_simp
set_option maxRecDepth 100000 in
theorem ld4 (ho : oi.op = .load 4 (.tmp t)) (hp : a.eval (.tmp t) = .pointer (some p)) (hc : W.cell? p = some v) : (execOp a.eval oi).run Try.prog W = .ok (.value v) W := by
  unfold execOp
  rw [ho]
  simp only [hp]
  go_simp
set_option maxRecDepth 100000 in
theorem ix53 {g off n c j : Nat} (ho : oi.op = .indexAddr 53 (.tmp t) (.tmp s)) (hs : a.eval (.tmp t) = .slice (some ⟨g, off, none⟩) n c) (hi : a.eval (.tmp s) = .int .i64 (j : Int)) (hj : j < n) :
    (execOp a.eval oi).run Try.prog W = .ok (.value (.pointer (some ⟨g, off + j * 8, none⟩))) W := by
  unfold execOp
  rw [ho]
  simp only [hs, hi]
  have h1 : (j : Int) < (n : Int) := by omega
  have h2 : (0 : Int) ≤ (j : Int) := by omega
  go_simp
end
end Go.Proofs.Ytdjfijdnhfmeeaa
