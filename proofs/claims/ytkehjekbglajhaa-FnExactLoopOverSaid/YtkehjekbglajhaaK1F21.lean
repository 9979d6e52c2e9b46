-- printed by wip/myprint.py, a program that runs the kit's print.py patched in memory; hand-made contracts stand where that program has none. Not trusted: Lean checks it.
import Derived.Test.YtkehjekbglajhaaK1F0
import Derived.Test.YtkehjekbglajhaaK1F5
import Derived.Test.YtkehjekbglajhaaK1F10
import Derived.Test.YtkehjekbglajhaaK1F11
namespace Go.Proofs.Ytkehjekbglajhaa.F
open Go.RowKit Go.Proofs.YtkehjekbglajhaaW.PrintWords Go.Proofs.YtkehjekbglajhaaW.PrintLast
set_option linter.unusedVariables false
set_option linter.unusedSimpArgs false

def impl_FlowDoms.f (k : Nat) (l0_0 : List (S68)) : Option ((List (List Bool))) := (impl_ProgOk.f l0_0).bind fun t520 => (if t520 = true then ((impl_Prog_doms.f k l0_0).bind fun t521 => (some t521)) else (some ([] : List (List Bool))))
end Go.Proofs.Ytkehjekbglajhaa.F
