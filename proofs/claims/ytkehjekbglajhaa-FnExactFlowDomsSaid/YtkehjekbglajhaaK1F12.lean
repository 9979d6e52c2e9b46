-- printed by wip/myprint.py, a program that runs the kit's print.py patched in memory; hand-made contracts stand where that program has none. Not trusted: Lean checks it.
import Derived.Test.YtkehjekbglajhaaK1F0
namespace Go.Proofs.Ytkehjekbglajhaa.F
open Go.RowKit Go.Proofs.YtkehjekbglajhaaW.PrintWords Go.Proofs.YtkehjekbglajhaaW.PrintLast
set_option linter.unusedVariables false
set_option linter.unusedSimpArgs false

def laws_heldIntS.l0 : Nat → List Int → Int → Int → Option (Int)
 | 0, _, _, _ => none
 | k + 1, x0, x1, x5 => if x5 < (x0.length : Int) then (if 0 ≤ x5 then (if (rd x0 x5) = x1 then (laws_heldIntS.l0 k x0 (wrap64 (x1 + 1)) (wrap64 (x5 + 1))) else (some (-1))) else (none)) else (some x1)
def laws_heldIntS.f (k : Nat) (l0 : List Int) (a1 : Int) : Option (Int) := laws_heldIntS.l0 k l0 a1 0
end Go.Proofs.Ytkehjekbglajhaa.F
