/- Comparisons of bools and strings for the walk; nothing of one program. -/
import Derived.Test.YtojpimpfpjhflaaFwMem
import Derived.Laws.StructEq
namespace Go.Proofs.Ytojpimpfpjhflaa.Fw
open Go Go.RowKit
set_option linter.unusedVariables false
set_option linter.unusedSimpArgs false
section
variable {P : Program} {ρ : Operand → Value} {o : Oper} {w : World} {t t' : TypeId} {x y : Operand}
theorem equal_bool (ht : P.underlying t = some .bool) (a b : Bool) : (Op.equal t (.bool a) (.bool b)).run P w = .ok (a == b) w := run_equalIn_bool' w 9999 t a b ht
theorem r_eqlB {a b q : Bool} (ho : o.op = .binOp .eql t x y t') (hx : ρ x = .bool a) (hy : ρ y = .bool b) (ht : P.underlying t = some .bool) (hq : (a == b) = q) : (execOp ρ o).run P w = .ok (.value (.bool q)) w := by
  subst hq; simp [execOp, ho, hx, hy, eqGuard_bool, binOp, pure, equal_bool ht, Sem.run_bind]
theorem r_neqB {a b q : Bool} (ho : o.op = .binOp .neq t x y t') (hx : ρ x = .bool a) (hy : ρ y = .bool b) (ht : P.underlying t = some .bool) (hq : (!(a == b)) = q) : (execOp ρ o).run P w = .ok (.value (.bool q)) w := by
  subst hq; simp [execOp, ho, hx, hy, eqGuard_bool, binOp, pure, equal_bool ht, Sem.run_bind]
end
end Go.Proofs.Ytojpimpfpjhflaa.Fw
