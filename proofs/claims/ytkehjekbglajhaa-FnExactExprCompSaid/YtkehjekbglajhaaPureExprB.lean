/- ExprOk: both say the same. -/
import Derived.Test.YtkehjekbglajhaaPureBase
import Derived.Test.YtkehjekbglajhaaF14
import Derived.Test.YtkehjekbglajhaaF14
namespace Go.Proofs.Ytkehjekbglajhaa.Pure
open Go.RowKit Go.Proofs.Ytkehjekbglajhaa.F Go.Proofs.YtkehjekbglajhaaW.PrintWords Go.Proofs.YtkehjekbglajhaaW.PrintLast

def exprB (o a b c d : Int) : Bool := decide (1 ≤ o) && decide (o ≤ 4) && (opndB a b && opndB c d)
theorem specExpr (o a b c d : Int) : spec_ExprOk.f o a b c d = some (exprB o a b c d) := by
  unfold spec_ExprOk.f exprB
  simp only [specIn, specOpnd, Option.bind_some]
  cases (decide (1 ≤ o) && decide (o ≤ 4)) <;> cases opndB a b <;> simp
theorem implExpr (o a b c d : Int) : impl_ExprOk.f o a b c d = some (exprB o a b c d) := by
  unfold impl_ExprOk.f exprB impl_isOp.f
  rw [in_of, opnd_of, opnd_of]
  simp only [Option.bind_some]
  cases (decide (1 ≤ o) && decide (o ≤ 4)) <;> cases opndB a b <;> simp
end Go.Proofs.Ytkehjekbglajhaa.Pure
