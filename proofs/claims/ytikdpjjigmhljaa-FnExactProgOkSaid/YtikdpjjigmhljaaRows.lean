/-
  No cell of these rows narrows 'for every input' (looked for: loops, veiled, ifaces, maps, wideKeys, modest, calm, conditions, laid).
  DERIVED. THE GIVEN ROWS OF THIS SEAT. 5 by the template 'for every input the law returns true; each argument reads behind the call as it read before'; 0 by the template 'total and deterministic' (their statements: YtikdpjjigmhljaaTotals.lean).
  GIVEN WITH THE SEED: the statements are not yours to turn. If you find one false, say at which input.
  Laid BY PROGRAM, IN A SANDBOX (cutbox-rows.mjs): the forced cells as the released guide's own fill.sh prints them over the translation 53992c8f686f1e49… (all of the seat's roots in one cut). By AI agents, Wed Nov 11 2026. No macro, syntax, notation, axiom, sorry.
-/
import Derived.Test.YtikdpjjigmhljaaChecked
import GoSem.Claim
import GoSem.ClaimJoined
import GoSem.ClaimMapViews
import Derived.JoinedTies
import Derived.KernelRfl
namespace Go.Proofs.Ytikdpjjigmhljaa
/- THE CELL 'sum', in the pinned program and in every row, IS THE sha256 OF THE DUMP (.gsa) THAT YtikdpjjigmhljaaProg.lean LOADS. Nothing in Lean hashes anything: it is a label: what it is worth is what the hold of that sum in a sandbox is worth. -/
noncomputable def Try.pinned : Pinned := { name := "ytikdpjjigmhljaa", sum := "53992c8f686f1e49a7b93b74b58c2e7da6450fa7302ecf96a14c552006de9789", checked := Try.checked }
namespace Rows
def none {H : Type} : Left H := { results := [], args := [] }

/-- 'laws.FnExactConstants': WHATEVER THE INPUT: true; the input reads as it did. -/
def fnExactConstantsSpec : ChangeSpec := { name := "fnExactConstants", fn := fun _ => fun
  | [] => { results := [.lit (.bool true)], args := [] }
  | _ => none }
def fnExactConstantsRow : OpenClaim := { program := "ytikdpjjigmhljaa", sum := "53992c8f686f1e49a7b93b74b58c2e7da6450fa7302ecf96a14c552006de9789", func := "loop.example/causey/laws.FnExactConstants", spec := "fnExactConstants", apart := false }
def FnExactConstantsSaid : Prop := fnExactConstantsRow.holds Try.pinned (OpenSpec.ofChange fnExactConstantsSpec)

/-- ITS FALSE NEIGHBOUR: 'it returns false'. Refute it at one input. -/
def fnExactConstantsWrong : ChangeSpec := { name := "fnExactConstants", fn := fun _ => fun
  | [] => { results := [.lit (.bool false)], args := [] }
  | _ => none }
def FnExactConstantsWrongFalsely : Prop := fnExactConstantsRow.holds Try.pinned (OpenSpec.ofChange fnExactConstantsWrong)

/-- 'laws.FnExactExprOk': WHATEVER THE INPUT: true; the input reads as it did. -/
def fnExactExprOkSpec : ChangeSpec := { name := "fnExactExprOk", fn := fun _ => fun
  | [d] => { results := [.lit (.bool true)], args := [d] }
  | _ => none }
def fnExactExprOkRow : OpenClaim := { program := "ytikdpjjigmhljaa", sum := "53992c8f686f1e49a7b93b74b58c2e7da6450fa7302ecf96a14c552006de9789", func := "loop.example/causey/laws.FnExactExprOk", spec := "fnExactExprOk", apart := false }
def FnExactExprOkSaid : Prop := fnExactExprOkRow.holds Try.pinned (OpenSpec.ofChange fnExactExprOkSpec)

/-- ITS FALSE NEIGHBOUR: 'it returns false'. Refute it at one input. -/
def fnExactExprOkWrong : ChangeSpec := { name := "fnExactExprOk", fn := fun _ => fun
  | [d] => { results := [.lit (.bool false)], args := [d] }
  | _ => none }
def FnExactExprOkWrongFalsely : Prop := fnExactExprOkRow.holds Try.pinned (OpenSpec.ofChange fnExactExprOkWrong)

/-- 'laws.FnExactRunOp': WHATEVER THE INPUT: true; the input reads as it did. -/
def fnExactRunOpSpec : ChangeSpec := { name := "fnExactRunOp", fn := fun _ => fun
  | [d1, d2, d3] => { results := [.lit (.bool true)], args := [d1, d2, d3] }
  | _ => none }
def fnExactRunOpRow : OpenClaim := { program := "ytikdpjjigmhljaa", sum := "53992c8f686f1e49a7b93b74b58c2e7da6450fa7302ecf96a14c552006de9789", func := "loop.example/causey/laws.FnExactRunOp", spec := "fnExactRunOp", apart := false }
def FnExactRunOpSaid : Prop := fnExactRunOpRow.holds Try.pinned (OpenSpec.ofChange fnExactRunOpSpec)

/-- ITS FALSE NEIGHBOUR: 'it returns false'. Refute it at one input. -/
def fnExactRunOpWrong : ChangeSpec := { name := "fnExactRunOp", fn := fun _ => fun
  | [d1, d2, d3] => { results := [.lit (.bool false)], args := [d1, d2, d3] }
  | _ => none }
def FnExactRunOpWrongFalsely : Prop := fnExactRunOpRow.holds Try.pinned (OpenSpec.ofChange fnExactRunOpWrong)

/-- 'laws.FnRunOp': WHATEVER THE INPUT: true; the input reads as it did. -/
def fnRunOpSpec : ChangeSpec := { name := "fnRunOp", fn := fun _ => fun
  | [d] => { results := [.lit (.bool true)], args := [d] }
  | _ => none }
def fnRunOpRow : OpenClaim := { program := "ytikdpjjigmhljaa", sum := "53992c8f686f1e49a7b93b74b58c2e7da6450fa7302ecf96a14c552006de9789", func := "loop.example/causey/laws.FnRunOp", spec := "fnRunOp", apart := false }
def FnRunOpSaid : Prop := fnRunOpRow.holds Try.pinned (OpenSpec.ofChange fnRunOpSpec)

/-- ITS FALSE NEIGHBOUR: 'it returns false'. Refute it at one input. -/
def fnRunOpWrong : ChangeSpec := { name := "fnRunOp", fn := fun _ => fun
  | [d] => { results := [.lit (.bool false)], args := [d] }
  | _ => none }
def FnRunOpWrongFalsely : Prop := fnRunOpRow.holds Try.pinned (OpenSpec.ofChange fnRunOpWrong)

/-- 'laws.FnExactProgOk': WHATEVER THE INPUT: true; the input reads as it did. -/
def fnExactProgOkSpec : ChangeSpec := { name := "fnExactProgOk", fn := fun _ => fun
  | [d] => { results := [.lit (.bool true)], args := [d] }
  | _ => none }
def fnExactProgOkRow : OpenClaim := { program := "ytikdpjjigmhljaa", sum := "53992c8f686f1e49a7b93b74b58c2e7da6450fa7302ecf96a14c552006de9789", func := "loop.example/causey/laws.FnExactProgOk", spec := "fnExactProgOk", unfollowed := true, recurses := true, apart := false }
def FnExactProgOkSaid : Prop := fnExactProgOkRow.holds Try.pinned (OpenSpec.ofChange fnExactProgOkSpec)

/-- ITS FALSE NEIGHBOUR: 'it returns false'. Refute it at one input. -/
def fnExactProgOkWrong : ChangeSpec := { name := "fnExactProgOk", fn := fun _ => fun
  | [d] => { results := [.lit (.bool false)], args := [d] }
  | _ => none }
def FnExactProgOkWrongFalsely : Prop := fnExactProgOkRow.holds Try.pinned (OpenSpec.ofChange fnExactProgOkWrong)

/- THE SECOND FORM. 'bulk': how many values and letters a reading holds, each counted each time it is reached (what is shared counts as often as it is met; a slice's spare places count too). A statement '..UptoSaid' is the law's where the arguments, and the package variables that the reading takes, are together of bulk at most 1048576: NARROWER than '..Said'. Prove '..Said' where nothing that the law and all that it calls make is longer than what came in: it says more and counts as full. Else prove '..UptoSaid'. A law counts once. -/
mutual
def uptoBulk {H : Type} : DataW H → Nat
  | .lit (.string bytes) => bytes.length + 1
  | .lit _ => 1
  | .nil => 1
  | .ptr d => uptoBulk d + 1
  | .slice elems spare => uptoBulkAll elems + uptoBulkAll spare + 1
  | .agg parts => uptoBulkAll parts + 1
  | .iface _ d => uptoBulk d + 1
  | .map entries => uptoBulkEntries entries + 1
  | .held _ => 1
def uptoBulkAll {H : Type} : List (DataW H) → Nat
  | [] => 0
  | d :: r => uptoBulk d + uptoBulkAll r
def uptoBulkEntries {H : Type} : List (Lit × DataW H) → Nat
  | [] => 0
  | x :: r => uptoBulkEntry x + uptoBulkEntries r
def uptoBulkEntry {H : Type} : Lit × DataW H → Nat
  | (.string bytes, d) => bytes.length + uptoBulk d + 1
  | (_, d) => uptoBulk d + 1
 end
def uptoSmall : (H : Type) → List (DataW H) → Bool := fun _ ds => decide (uptoBulkAll ds ≤ 1048576)
def OpenSpec.upto (s : _root_.Go.ChangeSpec) : _root_.Go.OpenSpec := { _root_.Go.OpenSpec.ofChange s with cond := some uptoSmall }

/-- 'laws.FnExactConstants', WHERE WHAT IT READS IS OF BULK AT MOST 1048576: true; the input reads as it did. -/
def fnExactConstantsUptoRow : OpenClaim := { program := "ytikdpjjigmhljaa", sum := "53992c8f686f1e49a7b93b74b58c2e7da6450fa7302ecf96a14c552006de9789", func := "loop.example/causey/laws.FnExactConstants", spec := "fnExactConstants", apart := false, narrowed := true }
def FnExactConstantsUptoSaid : Prop := fnExactConstantsUptoRow.holds Try.pinned (OpenSpec.upto fnExactConstantsSpec)

/-- 'laws.FnExactExprOk', WHERE WHAT IT READS IS OF BULK AT MOST 1048576: true; the input reads as it did. -/
def fnExactExprOkUptoRow : OpenClaim := { program := "ytikdpjjigmhljaa", sum := "53992c8f686f1e49a7b93b74b58c2e7da6450fa7302ecf96a14c552006de9789", func := "loop.example/causey/laws.FnExactExprOk", spec := "fnExactExprOk", apart := false, narrowed := true }
def FnExactExprOkUptoSaid : Prop := fnExactExprOkUptoRow.holds Try.pinned (OpenSpec.upto fnExactExprOkSpec)

/-- 'laws.FnExactRunOp', WHERE WHAT IT READS IS OF BULK AT MOST 1048576: true; the input reads as it did. -/
def fnExactRunOpUptoRow : OpenClaim := { program := "ytikdpjjigmhljaa", sum := "53992c8f686f1e49a7b93b74b58c2e7da6450fa7302ecf96a14c552006de9789", func := "loop.example/causey/laws.FnExactRunOp", spec := "fnExactRunOp", apart := false, narrowed := true }
def FnExactRunOpUptoSaid : Prop := fnExactRunOpUptoRow.holds Try.pinned (OpenSpec.upto fnExactRunOpSpec)

/-- 'laws.FnRunOp', WHERE WHAT IT READS IS OF BULK AT MOST 1048576: true; the input reads as it did. -/
def fnRunOpUptoRow : OpenClaim := { program := "ytikdpjjigmhljaa", sum := "53992c8f686f1e49a7b93b74b58c2e7da6450fa7302ecf96a14c552006de9789", func := "loop.example/causey/laws.FnRunOp", spec := "fnRunOp", apart := false, narrowed := true }
def FnRunOpUptoSaid : Prop := fnRunOpUptoRow.holds Try.pinned (OpenSpec.upto fnRunOpSpec)

/-- 'laws.FnExactProgOk', WHERE WHAT IT READS IS OF BULK AT MOST 1048576: true; the input reads as it did. -/
def fnExactProgOkUptoRow : OpenClaim := { program := "ytikdpjjigmhljaa", sum := "53992c8f686f1e49a7b93b74b58c2e7da6450fa7302ecf96a14c552006de9789", func := "loop.example/causey/laws.FnExactProgOk", spec := "fnExactProgOk", unfollowed := true, recurses := true, apart := false, narrowed := true }
def FnExactProgOkUptoSaid : Prop := fnExactProgOkUptoRow.holds Try.pinned (OpenSpec.upto fnExactProgOkSpec)

end Rows
end Go.Proofs.Ytikdpjjigmhljaa
