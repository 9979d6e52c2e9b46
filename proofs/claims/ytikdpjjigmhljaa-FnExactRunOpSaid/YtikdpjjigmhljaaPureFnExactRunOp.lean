/- RunOp of the program and RunOp of the reference return the same number for all three arguments. No condition beyond that the arguments are ints. -/
import Derived.Test.YtikdpjjigmhljaaPFnExactRunOpx1
namespace Go.Proofs.Ytikdpjjigmhljaa.Pure
open Go.RowKit Go.Proofs.Ytikdpjjigmhljaa.PFnExactRunOp Go.Proofs.YtikdpjjigmhljaaW.PrintWords Go.Proofs.YtikdpjjigmhljaaW.PrintLast

theorem specIn (a b c : Int) : spec_l6In.f a b c = some (decide (b ≤ a) && decide (a ≤ c)) := by
  unfold spec_l6In.f
  by_cases h : b ≤ a
  · rw [if_pos h]; simp [h]
  · rw [if_neg h]; simp [h]
theorem implNum (a : Int) : impl_isNum.f a = some (decide (0 ≤ a) && decide (a ≤ 65535)) := by
  unfold impl_isNum.f impl_in.f
  by_cases h : 0 ≤ a
  · rw [if_pos h]; simp [h]
  · rw [if_neg h]; simp [h]
theorem sameOp (op a b : Int) : spec_RunOp.f 1 op a b = impl_RunOp.f 1 op a b ∧ ∃ r, impl_RunOp.f 1 op a b = some r := by
  unfold spec_RunOp.f impl_RunOp.f
  rw [specIn a, specIn b, implNum a, implNum b]
  by_cases ha : 0 ≤ a ∧ a ≤ 65535
  · by_cases hb : 0 ≤ b ∧ b ≤ 65535
    · have e2 : wrap64 (wrap64 (a + 65536) - b) = wrap64 (wrap64 (a - b) + 65536) := by
        unfold wrap64
        omega
      simp [ha.1, ha.2, hb.1, hb.2, spec_RunOp.j0, impl_RunOp.j0, e2]
      repeat' split
      all_goals simp
    · have h : (decide (0 ≤ b) && decide (b ≤ 65535)) = false := by
        simp
        omega
      simp [ha.1, ha.2, h, spec_RunOp.j0, impl_RunOp.j0]
  · have h : (decide (0 ≤ a) && decide (a ≤ 65535)) = false := by
      simp
      omega
    simp [h, spec_RunOp.j0, impl_RunOp.j0]
theorem FnExactRunOp : laws_FnExactRunOp.Pure := by
  intro op a b _ _ _
  obtain ⟨e, r, h⟩ := sameOp op a b
  refine ⟨1, ?_⟩
  unfold laws_FnExactRunOp.f
  rw [e, h]
  simp

end Go.Proofs.Ytikdpjjigmhljaa.Pure
