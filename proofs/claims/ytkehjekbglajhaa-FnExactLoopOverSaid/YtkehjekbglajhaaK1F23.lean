-- printed by wip/myprint.py, a program that runs the kit's print.py patched in memory; hand-made contracts stand where that program has none. Not trusted: Lean checks it.
import Derived.Test.YtkehjekbglajhaaK1F0
import Derived.Test.YtkehjekbglajhaaK1F5
import Derived.Test.YtkehjekbglajhaaK1F9
namespace Go.Proofs.Ytkehjekbglajhaa.F
open Go.RowKit Go.Proofs.YtkehjekbglajhaaW.PrintWords Go.Proofs.YtkehjekbglajhaaW.PrintLast
set_option linter.unusedVariables false
set_option linter.unusedSimpArgs false

def impl_FlowPreds.f (k : Nat) (l0_0 : List (S68)) : Option ((List (List Int))) := (impl_ProgOk.f l0_0).bind fun t474 => (if t474 = true then ((impl_Prog_preds.f k l0_0).bind fun t475 => (some t475)) else (some ([] : List (List Int))))
end Go.Proofs.Ytkehjekbglajhaa.F
