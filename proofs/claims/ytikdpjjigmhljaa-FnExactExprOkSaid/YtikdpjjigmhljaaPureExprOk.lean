/- ExprOk of the program and ExprOk of the reference return the same at every expression. No condition. -/
import Derived.Test.YtikdpjjigmhljaaF7
namespace Go.Proofs.Ytikdpjjigmhljaa.Pure
open Go.RowKit Go.Proofs.Ytikdpjjigmhljaa.F Go.Proofs.YtikdpjjigmhljaaW.PrintWords Go.Proofs.YtikdpjjigmhljaaW.PrintLast

theorem specIn (a b c : Int) : spec_l6In.f a b c = some (decide (b ≤ a) && decide (a ≤ c)) := by
  unfold spec_l6In.f
  by_cases h : b ≤ a
  · rw [if_pos h]; simp [h]
  · rw [if_neg h]; simp [h]
theorem implIn (a b c : Int) : impl_in.f a b c = some (decide (b ≤ a) && decide (a ≤ c)) := by
  unfold impl_in.f
  by_cases h : b ≤ a
  · rw [if_pos h]; simp [h]
  · rw [if_neg h]; simp [h]
/-- Is an operand in form? -/
def opndB (v n : Int) : Bool := if v = -1 then decide (0 ≤ n) && decide (n ≤ 65535) else decide (0 ≤ v) && decide (v ≤ 11) && decide (n = 0)
theorem specOpnd (v n : Int) : spec_l1Opnd.f v n = some (opndB v n) := by
  unfold spec_l1Opnd.f opndB
  by_cases h : v = -1
  · rw [if_pos h, if_pos h, specIn]; rfl
  · rw [if_neg h, if_neg h, specIn]
    simp only [Option.bind_some]
    cases hb : (decide (0 ≤ v) && decide (v ≤ 11)) <;> simp
    rw [Bool.eq_iff_iff]
    simp
theorem implOpnd (v n : Int) : impl_Opnd_ok.f v n = some (opndB v n) := by
  unfold impl_Opnd_ok.f impl_isVar.f impl_isNum.f opndB
  simp only [implIn, Option.bind_some]
  by_cases h : v = -1
  · subst h
    simp
  · rw [if_neg h, if_neg h]
    cases hb : (decide (0 ≤ v) && decide (v ≤ 11))
    · simp
    · by_cases hn : n = 0 <;> simp [hn]
def exprB (o a b c d : Int) : Bool := (decide (1 ≤ o) && decide (o ≤ 4)) && opndB a b && opndB c d
theorem specExpr (o a b c d : Int) : spec_ExprOk.f o a b c d = some (exprB o a b c d) := by
  unfold spec_ExprOk.f exprB
  rw [specIn, specOpnd, specOpnd]
  cases (decide (1 ≤ o) && decide (o ≤ 4)) <;> cases opndB a b <;> simp
theorem implExpr (o a b c d : Int) : impl_ExprOk.f o a b c d = some (exprB o a b c d) := by
  unfold impl_ExprOk.f impl_isOp.f exprB
  rw [implIn, implOpnd, implOpnd]
  cases (decide (1 ≤ o) && decide (o ≤ 4)) <;> cases opndB a b <;> simp
theorem FnExactExprOk_walk (a b c d e : Int) (w : World) : Calls Try.prog 4 #[.agg #[.int .i64 a, .int .i64 b, .int .i64 c, .int .i64 d, .int .i64 e]] w fun e w' => e = .returned (.bool true) ∧ Below w.heap.size w w' :=
  laws_FnExactExprOk.calls a b c d e true w (by
    unfold laws_FnExactExprOk.f laws_toExpr.f laws_toOpnd.f
    simp [specExpr, implExpr])

end Go.Proofs.Ytikdpjjigmhljaa.Pure
