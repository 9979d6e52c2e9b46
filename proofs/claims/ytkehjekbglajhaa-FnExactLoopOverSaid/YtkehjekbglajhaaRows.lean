/-
  No cell of these rows narrows 'for every input' (looked for: loops, veiled, ifaces, maps, wideKeys, modest, calm, conditions, laid).
  DERIVED. THE GIVEN ROWS OF THIS SEAT. 12 by the template 'for every input the law returns true; each argument reads behind the call as it read before'; 0 by the template 'total and deterministic' (their statements: YtkehjekbglajhaaTotals.lean).
  GIVEN WITH THE SEED: the statements are not yours to turn. If you find one false, say at which input.
  Laid BY PROGRAM, IN A SANDBOX (cutbox-rows.mjs): the forced cells as the released guide's own fill.sh prints them over the translation 3a62ade59ed1ab1b… (all of the seat's roots in one cut). By AI agents, Wed Nov 11 2026. No macro, syntax, notation, axiom, sorry.
-/
import Derived.Test.YtkehjekbglajhaaChecked
import GoSem.Claim
import GoSem.ClaimJoined
import GoSem.ClaimMapViews
import Derived.JoinedTies
import Derived.KernelRfl
namespace Go.Proofs.Ytkehjekbglajhaa
/- THE CELL 'sum', in the pinned program and in every row, IS THE sha256 OF THE DUMP (.gsa) THAT YtkehjekbglajhaaProg.lean LOADS. Nothing in Lean hashes anything: it is a label: what it is worth is what the hold of that sum in a sandbox is worth. -/
noncomputable def Try.pinned : Pinned := { name := "ytkehjekbglajhaa", sum := "3a62ade59ed1ab1bde462f66872d49dfff9e2f2a66a8b499a5a84f05980b0541", checked := Try.checked }
namespace Rows
def none {H : Type} : Left H := { results := [], args := [] }

/-- 'laws.FnExactFlowIsTidy': WHATEVER THE INPUT: true; the input reads as it did. -/
def fnExactFlowIsTidySpec : ChangeSpec := { name := "fnExactFlowIsTidy", fn := fun _ => fun
  | [d] => { results := [.lit (.bool true)], args := [d] }
  | _ => none }
def fnExactFlowIsTidyRow : OpenClaim := { program := "ytkehjekbglajhaa", sum := "3a62ade59ed1ab1bde462f66872d49dfff9e2f2a66a8b499a5a84f05980b0541", func := "loop.example/causey/laws.FnExactFlowIsTidy", spec := "fnExactFlowIsTidy", unfollowed := true, recurses := true, apart := false }
def FnExactFlowIsTidySaid : Prop := fnExactFlowIsTidyRow.holds Try.pinned (OpenSpec.ofChange fnExactFlowIsTidySpec)

/-- ITS FALSE NEIGHBOUR: 'it returns false'. Refute it at one input. -/
def fnExactFlowIsTidyWrong : ChangeSpec := { name := "fnExactFlowIsTidy", fn := fun _ => fun
  | [d] => { results := [.lit (.bool false)], args := [d] }
  | _ => none }
def FnExactFlowIsTidyWrongFalsely : Prop := fnExactFlowIsTidyRow.holds Try.pinned (OpenSpec.ofChange fnExactFlowIsTidyWrong)

/-- 'laws.FnExactFlowReach': WHATEVER THE INPUT: true; the input reads as it did. -/
def fnExactFlowReachSpec : ChangeSpec := { name := "fnExactFlowReach", fn := fun _ => fun
  | [d] => { results := [.lit (.bool true)], args := [d] }
  | _ => none }
def fnExactFlowReachRow : OpenClaim := { program := "ytkehjekbglajhaa", sum := "3a62ade59ed1ab1bde462f66872d49dfff9e2f2a66a8b499a5a84f05980b0541", func := "loop.example/causey/laws.FnExactFlowReach", spec := "fnExactFlowReach", unfollowed := true, recurses := true, apart := false }
def FnExactFlowReachSaid : Prop := fnExactFlowReachRow.holds Try.pinned (OpenSpec.ofChange fnExactFlowReachSpec)

/-- ITS FALSE NEIGHBOUR: 'it returns false'. Refute it at one input. -/
def fnExactFlowReachWrong : ChangeSpec := { name := "fnExactFlowReach", fn := fun _ => fun
  | [d] => { results := [.lit (.bool false)], args := [d] }
  | _ => none }
def FnExactFlowReachWrongFalsely : Prop := fnExactFlowReachRow.holds Try.pinned (OpenSpec.ofChange fnExactFlowReachWrong)

/-- 'laws.FnExactExprComp': WHATEVER THE INPUT: true; the input reads as it did. -/
def fnExactExprCompSpec : ChangeSpec := { name := "fnExactExprComp", fn := fun _ => fun
  | [d1, d2] => { results := [.lit (.bool true)], args := [d1, d2] }
  | _ => none }
def fnExactExprCompRow : OpenClaim := { program := "ytkehjekbglajhaa", sum := "3a62ade59ed1ab1bde462f66872d49dfff9e2f2a66a8b499a5a84f05980b0541", func := "loop.example/causey/laws.FnExactExprComp", spec := "fnExactExprComp", unfollowed := true, recurses := true, apart := false }
def FnExactExprCompSaid : Prop := fnExactExprCompRow.holds Try.pinned (OpenSpec.ofChange fnExactExprCompSpec)

/-- ITS FALSE NEIGHBOUR: 'it returns false'. Refute it at one input. -/
def fnExactExprCompWrong : ChangeSpec := { name := "fnExactExprComp", fn := fun _ => fun
  | [d1, d2] => { results := [.lit (.bool false)], args := [d1, d2] }
  | _ => none }
def FnExactExprCompWrongFalsely : Prop := fnExactExprCompRow.holds Try.pinned (OpenSpec.ofChange fnExactExprCompWrong)

/-- 'laws.FnExactExprKeeps': WHATEVER THE INPUT: true; the input reads as it did. -/
def fnExactExprKeepsSpec : ChangeSpec := { name := "fnExactExprKeeps", fn := fun _ => fun
  | [d1, d2] => { results := [.lit (.bool true)], args := [d1, d2] }
  | _ => none }
def fnExactExprKeepsRow : OpenClaim := { program := "ytkehjekbglajhaa", sum := "3a62ade59ed1ab1bde462f66872d49dfff9e2f2a66a8b499a5a84f05980b0541", func := "loop.example/causey/laws.FnExactExprKeeps", spec := "fnExactExprKeeps", unfollowed := true, recurses := true, apart := false }
def FnExactExprKeepsSaid : Prop := fnExactExprKeepsRow.holds Try.pinned (OpenSpec.ofChange fnExactExprKeepsSpec)

/-- ITS FALSE NEIGHBOUR: 'it returns false'. Refute it at one input. -/
def fnExactExprKeepsWrong : ChangeSpec := { name := "fnExactExprKeeps", fn := fun _ => fun
  | [d1, d2] => { results := [.lit (.bool false)], args := [d1, d2] }
  | _ => none }
def FnExactExprKeepsWrongFalsely : Prop := fnExactExprKeepsRow.holds Try.pinned (OpenSpec.ofChange fnExactExprKeepsWrong)

/-- 'laws.FnExactExprList': WHATEVER THE INPUT: true; the input reads as it did. -/
def fnExactExprListSpec : ChangeSpec := { name := "fnExactExprList", fn := fun _ => fun
  | [d] => { results := [.lit (.bool true)], args := [d] }
  | _ => none }
def fnExactExprListRow : OpenClaim := { program := "ytkehjekbglajhaa", sum := "3a62ade59ed1ab1bde462f66872d49dfff9e2f2a66a8b499a5a84f05980b0541", func := "loop.example/causey/laws.FnExactExprList", spec := "fnExactExprList", unfollowed := true, recurses := true, apart := false }
def FnExactExprListSaid : Prop := fnExactExprListRow.holds Try.pinned (OpenSpec.ofChange fnExactExprListSpec)

/-- ITS FALSE NEIGHBOUR: 'it returns false'. Refute it at one input. -/
def fnExactExprListWrong : ChangeSpec := { name := "fnExactExprList", fn := fun _ => fun
  | [d] => { results := [.lit (.bool false)], args := [d] }
  | _ => none }
def FnExactExprListWrongFalsely : Prop := fnExactExprListRow.holds Try.pinned (OpenSpec.ofChange fnExactExprListWrong)

/-- 'laws.FnExactFlowPreds': WHATEVER THE INPUT: true; the input reads as it did. -/
def fnExactFlowPredsSpec : ChangeSpec := { name := "fnExactFlowPreds", fn := fun _ => fun
  | [d] => { results := [.lit (.bool true)], args := [d] }
  | _ => none }
def fnExactFlowPredsRow : OpenClaim := { program := "ytkehjekbglajhaa", sum := "3a62ade59ed1ab1bde462f66872d49dfff9e2f2a66a8b499a5a84f05980b0541", func := "loop.example/causey/laws.FnExactFlowPreds", spec := "fnExactFlowPreds", unfollowed := true, recurses := true, apart := false }
def FnExactFlowPredsSaid : Prop := fnExactFlowPredsRow.holds Try.pinned (OpenSpec.ofChange fnExactFlowPredsSpec)

/-- ITS FALSE NEIGHBOUR: 'it returns false'. Refute it at one input. -/
def fnExactFlowPredsWrong : ChangeSpec := { name := "fnExactFlowPreds", fn := fun _ => fun
  | [d] => { results := [.lit (.bool false)], args := [d] }
  | _ => none }
def FnExactFlowPredsWrongFalsely : Prop := fnExactFlowPredsRow.holds Try.pinned (OpenSpec.ofChange fnExactFlowPredsWrong)

/-- 'laws.FnExactFlowDoms': WHATEVER THE INPUT: true; the input reads as it did. -/
def fnExactFlowDomsSpec : ChangeSpec := { name := "fnExactFlowDoms", fn := fun _ => fun
  | [d] => { results := [.lit (.bool true)], args := [d] }
  | _ => none }
def fnExactFlowDomsRow : OpenClaim := { program := "ytkehjekbglajhaa", sum := "3a62ade59ed1ab1bde462f66872d49dfff9e2f2a66a8b499a5a84f05980b0541", func := "loop.example/causey/laws.FnExactFlowDoms", spec := "fnExactFlowDoms", unfollowed := true, recurses := true, apart := false }
def FnExactFlowDomsSaid : Prop := fnExactFlowDomsRow.holds Try.pinned (OpenSpec.ofChange fnExactFlowDomsSpec)

/-- ITS FALSE NEIGHBOUR: 'it returns false'. Refute it at one input. -/
def fnExactFlowDomsWrong : ChangeSpec := { name := "fnExactFlowDoms", fn := fun _ => fun
  | [d] => { results := [.lit (.bool false)], args := [d] }
  | _ => none }
def FnExactFlowDomsWrongFalsely : Prop := fnExactFlowDomsRow.holds Try.pinned (OpenSpec.ofChange fnExactFlowDomsWrong)

/-- 'laws.FnExactLoopOver': WHATEVER THE INPUT: true; the input reads as it did. -/
def fnExactLoopOverSpec : ChangeSpec := { name := "fnExactLoopOver", fn := fun _ => fun
  | [d] => { results := [.lit (.bool true)], args := [d] }
  | _ => none }
def fnExactLoopOverRow : OpenClaim := { program := "ytkehjekbglajhaa", sum := "3a62ade59ed1ab1bde462f66872d49dfff9e2f2a66a8b499a5a84f05980b0541", func := "loop.example/causey/laws.FnExactLoopOver", spec := "fnExactLoopOver", unfollowed := true, recurses := true, apart := false }
def FnExactLoopOverSaid : Prop := fnExactLoopOverRow.holds Try.pinned (OpenSpec.ofChange fnExactLoopOverSpec)

/-- ITS FALSE NEIGHBOUR: 'it returns false'. Refute it at one input. -/
def fnExactLoopOverWrong : ChangeSpec := { name := "fnExactLoopOver", fn := fun _ => fun
  | [d] => { results := [.lit (.bool false)], args := [d] }
  | _ => none }
def FnExactLoopOverWrongFalsely : Prop := fnExactLoopOverRow.holds Try.pinned (OpenSpec.ofChange fnExactLoopOverWrong)

/-- 'laws.FnExactLoopHeads': WHATEVER THE INPUT: true; the input reads as it did. -/
def fnExactLoopHeadsSpec : ChangeSpec := { name := "fnExactLoopHeads", fn := fun _ => fun
  | [d] => { results := [.lit (.bool true)], args := [d] }
  | _ => none }
def fnExactLoopHeadsRow : OpenClaim := { program := "ytkehjekbglajhaa", sum := "3a62ade59ed1ab1bde462f66872d49dfff9e2f2a66a8b499a5a84f05980b0541", func := "loop.example/causey/laws.FnExactLoopHeads", spec := "fnExactLoopHeads", unfollowed := true, recurses := true, apart := false }
def FnExactLoopHeadsSaid : Prop := fnExactLoopHeadsRow.holds Try.pinned (OpenSpec.ofChange fnExactLoopHeadsSpec)

/-- ITS FALSE NEIGHBOUR: 'it returns false'. Refute it at one input. -/
def fnExactLoopHeadsWrong : ChangeSpec := { name := "fnExactLoopHeads", fn := fun _ => fun
  | [d] => { results := [.lit (.bool false)], args := [d] }
  | _ => none }
def FnExactLoopHeadsWrongFalsely : Prop := fnExactLoopHeadsRow.holds Try.pinned (OpenSpec.ofChange fnExactLoopHeadsWrong)

/-- 'laws.FnExactLoopFront': WHATEVER THE INPUT: true; the input reads as it did. -/
def fnExactLoopFrontSpec : ChangeSpec := { name := "fnExactLoopFront", fn := fun _ => fun
  | [d] => { results := [.lit (.bool true)], args := [d] }
  | _ => none }
def fnExactLoopFrontRow : OpenClaim := { program := "ytkehjekbglajhaa", sum := "3a62ade59ed1ab1bde462f66872d49dfff9e2f2a66a8b499a5a84f05980b0541", func := "loop.example/causey/laws.FnExactLoopFront", spec := "fnExactLoopFront", unfollowed := true, recurses := true, apart := false }
def FnExactLoopFrontSaid : Prop := fnExactLoopFrontRow.holds Try.pinned (OpenSpec.ofChange fnExactLoopFrontSpec)

/-- ITS FALSE NEIGHBOUR: 'it returns false'. Refute it at one input. -/
def fnExactLoopFrontWrong : ChangeSpec := { name := "fnExactLoopFront", fn := fun _ => fun
  | [d] => { results := [.lit (.bool false)], args := [d] }
  | _ => none }
def FnExactLoopFrontWrongFalsely : Prop := fnExactLoopFrontRow.holds Try.pinned (OpenSpec.ofChange fnExactLoopFrontWrong)

/-- 'laws.FnExactLoopOf': WHATEVER THE INPUT: true; the input reads as it did. -/
def fnExactLoopOfSpec : ChangeSpec := { name := "fnExactLoopOf", fn := fun _ => fun
  | [d1, d2] => { results := [.lit (.bool true)], args := [d1, d2] }
  | _ => none }
def fnExactLoopOfRow : OpenClaim := { program := "ytkehjekbglajhaa", sum := "3a62ade59ed1ab1bde462f66872d49dfff9e2f2a66a8b499a5a84f05980b0541", func := "loop.example/causey/laws.FnExactLoopOf", spec := "fnExactLoopOf", unfollowed := true, recurses := true, apart := false }
def FnExactLoopOfSaid : Prop := fnExactLoopOfRow.holds Try.pinned (OpenSpec.ofChange fnExactLoopOfSpec)

/-- ITS FALSE NEIGHBOUR: 'it returns false'. Refute it at one input. -/
def fnExactLoopOfWrong : ChangeSpec := { name := "fnExactLoopOf", fn := fun _ => fun
  | [d1, d2] => { results := [.lit (.bool false)], args := [d1, d2] }
  | _ => none }
def FnExactLoopOfWrongFalsely : Prop := fnExactLoopOfRow.holds Try.pinned (OpenSpec.ofChange fnExactLoopOfWrong)

/-- 'laws.FnExactLoopDeep': WHATEVER THE INPUT: true; the input reads as it did. -/
def fnExactLoopDeepSpec : ChangeSpec := { name := "fnExactLoopDeep", fn := fun _ => fun
  | [d] => { results := [.lit (.bool true)], args := [d] }
  | _ => none }
def fnExactLoopDeepRow : OpenClaim := { program := "ytkehjekbglajhaa", sum := "3a62ade59ed1ab1bde462f66872d49dfff9e2f2a66a8b499a5a84f05980b0541", func := "loop.example/causey/laws.FnExactLoopDeep", spec := "fnExactLoopDeep", unfollowed := true, recurses := true, apart := false }
def FnExactLoopDeepSaid : Prop := fnExactLoopDeepRow.holds Try.pinned (OpenSpec.ofChange fnExactLoopDeepSpec)

/-- ITS FALSE NEIGHBOUR: 'it returns false'. Refute it at one input. -/
def fnExactLoopDeepWrong : ChangeSpec := { name := "fnExactLoopDeep", fn := fun _ => fun
  | [d] => { results := [.lit (.bool false)], args := [d] }
  | _ => none }
def FnExactLoopDeepWrongFalsely : Prop := fnExactLoopDeepRow.holds Try.pinned (OpenSpec.ofChange fnExactLoopDeepWrong)

/- THE SECOND FORM. 'bulk': how many values and letters a reading holds, each counted each time it is reached (what is shared counts as often as it is met; a slice's spare places count too). A statement '..UptoSaid' is the law's where the arguments, and the package variables that the reading takes, are together of bulk at most 1048576: NARROWER than '..Said'. Prove '..Said' where nothing that the law and all that it calls make is longer than what came in: it says more and counts as full. Else prove '..UptoSaid'. A law counts once. -/
mutual
def uptoBulk {H : Type} : DataW H → Nat
  | .lit (.string bytes) => bytes.length + 1
  | .lit _ => 1
  | .nil => 1
  | .ptr d => uptoBulk d + 1
  | .slice elems spare => uptoBulkAll elems + uptoBulkAll spare + 1
  | .agg parts => uptoBulkAll parts + 1
  | .iface _ d => uptoBulk d + 1
  | .map entries => uptoBulkEntries entries + 1
  | .held _ => 1
def uptoBulkAll {H : Type} : List (DataW H) → Nat
  | [] => 0
  | d :: r => uptoBulk d + uptoBulkAll r
def uptoBulkEntries {H : Type} : List (Lit × DataW H) → Nat
  | [] => 0
  | x :: r => uptoBulkEntry x + uptoBulkEntries r
def uptoBulkEntry {H : Type} : Lit × DataW H → Nat
  | (.string bytes, d) => bytes.length + uptoBulk d + 1
  | (_, d) => uptoBulk d + 1
 end
def uptoSmall : (H : Type) → List (DataW H) → Bool := fun _ ds => decide (uptoBulkAll ds ≤ 1048576)
def OpenSpec.upto (s : _root_.Go.ChangeSpec) : _root_.Go.OpenSpec := { _root_.Go.OpenSpec.ofChange s with cond := some uptoSmall }

/-- 'laws.FnExactFlowIsTidy', WHERE WHAT IT READS IS OF BULK AT MOST 1048576: true; the input reads as it did. -/
def fnExactFlowIsTidyUptoRow : OpenClaim := { program := "ytkehjekbglajhaa", sum := "3a62ade59ed1ab1bde462f66872d49dfff9e2f2a66a8b499a5a84f05980b0541", func := "loop.example/causey/laws.FnExactFlowIsTidy", spec := "fnExactFlowIsTidy", unfollowed := true, recurses := true, apart := false, narrowed := true }
def FnExactFlowIsTidyUptoSaid : Prop := fnExactFlowIsTidyUptoRow.holds Try.pinned (OpenSpec.upto fnExactFlowIsTidySpec)

/-- 'laws.FnExactFlowReach', WHERE WHAT IT READS IS OF BULK AT MOST 1048576: true; the input reads as it did. -/
def fnExactFlowReachUptoRow : OpenClaim := { program := "ytkehjekbglajhaa", sum := "3a62ade59ed1ab1bde462f66872d49dfff9e2f2a66a8b499a5a84f05980b0541", func := "loop.example/causey/laws.FnExactFlowReach", spec := "fnExactFlowReach", unfollowed := true, recurses := true, apart := false, narrowed := true }
def FnExactFlowReachUptoSaid : Prop := fnExactFlowReachUptoRow.holds Try.pinned (OpenSpec.upto fnExactFlowReachSpec)

/-- 'laws.FnExactExprComp', WHERE WHAT IT READS IS OF BULK AT MOST 1048576: true; the input reads as it did. -/
def fnExactExprCompUptoRow : OpenClaim := { program := "ytkehjekbglajhaa", sum := "3a62ade59ed1ab1bde462f66872d49dfff9e2f2a66a8b499a5a84f05980b0541", func := "loop.example/causey/laws.FnExactExprComp", spec := "fnExactExprComp", unfollowed := true, recurses := true, apart := false, narrowed := true }
def FnExactExprCompUptoSaid : Prop := fnExactExprCompUptoRow.holds Try.pinned (OpenSpec.upto fnExactExprCompSpec)

/-- 'laws.FnExactExprKeeps', WHERE WHAT IT READS IS OF BULK AT MOST 1048576: true; the input reads as it did. -/
def fnExactExprKeepsUptoRow : OpenClaim := { program := "ytkehjekbglajhaa", sum := "3a62ade59ed1ab1bde462f66872d49dfff9e2f2a66a8b499a5a84f05980b0541", func := "loop.example/causey/laws.FnExactExprKeeps", spec := "fnExactExprKeeps", unfollowed := true, recurses := true, apart := false, narrowed := true }
def FnExactExprKeepsUptoSaid : Prop := fnExactExprKeepsUptoRow.holds Try.pinned (OpenSpec.upto fnExactExprKeepsSpec)

/-- 'laws.FnExactExprList', WHERE WHAT IT READS IS OF BULK AT MOST 1048576: true; the input reads as it did. -/
def fnExactExprListUptoRow : OpenClaim := { program := "ytkehjekbglajhaa", sum := "3a62ade59ed1ab1bde462f66872d49dfff9e2f2a66a8b499a5a84f05980b0541", func := "loop.example/causey/laws.FnExactExprList", spec := "fnExactExprList", unfollowed := true, recurses := true, apart := false, narrowed := true }
def FnExactExprListUptoSaid : Prop := fnExactExprListUptoRow.holds Try.pinned (OpenSpec.upto fnExactExprListSpec)

/-- 'laws.FnExactFlowPreds', WHERE WHAT IT READS IS OF BULK AT MOST 1048576: true; the input reads as it did. -/
def fnExactFlowPredsUptoRow : OpenClaim := { program := "ytkehjekbglajhaa", sum := "3a62ade59ed1ab1bde462f66872d49dfff9e2f2a66a8b499a5a84f05980b0541", func := "loop.example/causey/laws.FnExactFlowPreds", spec := "fnExactFlowPreds", unfollowed := true, recurses := true, apart := false, narrowed := true }
def FnExactFlowPredsUptoSaid : Prop := fnExactFlowPredsUptoRow.holds Try.pinned (OpenSpec.upto fnExactFlowPredsSpec)

/-- 'laws.FnExactFlowDoms', WHERE WHAT IT READS IS OF BULK AT MOST 1048576: true; the input reads as it did. -/
def fnExactFlowDomsUptoRow : OpenClaim := { program := "ytkehjekbglajhaa", sum := "3a62ade59ed1ab1bde462f66872d49dfff9e2f2a66a8b499a5a84f05980b0541", func := "loop.example/causey/laws.FnExactFlowDoms", spec := "fnExactFlowDoms", unfollowed := true, recurses := true, apart := false, narrowed := true }
def FnExactFlowDomsUptoSaid : Prop := fnExactFlowDomsUptoRow.holds Try.pinned (OpenSpec.upto fnExactFlowDomsSpec)

/-- 'laws.FnExactLoopOver', WHERE WHAT IT READS IS OF BULK AT MOST 1048576: true; the input reads as it did. -/
def fnExactLoopOverUptoRow : OpenClaim := { program := "ytkehjekbglajhaa", sum := "3a62ade59ed1ab1bde462f66872d49dfff9e2f2a66a8b499a5a84f05980b0541", func := "loop.example/causey/laws.FnExactLoopOver", spec := "fnExactLoopOver", unfollowed := true, recurses := true, apart := false, narrowed := true }
def FnExactLoopOverUptoSaid : Prop := fnExactLoopOverUptoRow.holds Try.pinned (OpenSpec.upto fnExactLoopOverSpec)

/-- 'laws.FnExactLoopHeads', WHERE WHAT IT READS IS OF BULK AT MOST 1048576: true; the input reads as it did. -/
def fnExactLoopHeadsUptoRow : OpenClaim := { program := "ytkehjekbglajhaa", sum := "3a62ade59ed1ab1bde462f66872d49dfff9e2f2a66a8b499a5a84f05980b0541", func := "loop.example/causey/laws.FnExactLoopHeads", spec := "fnExactLoopHeads", unfollowed := true, recurses := true, apart := false, narrowed := true }
def FnExactLoopHeadsUptoSaid : Prop := fnExactLoopHeadsUptoRow.holds Try.pinned (OpenSpec.upto fnExactLoopHeadsSpec)

/-- 'laws.FnExactLoopFront', WHERE WHAT IT READS IS OF BULK AT MOST 1048576: true; the input reads as it did. -/
def fnExactLoopFrontUptoRow : OpenClaim := { program := "ytkehjekbglajhaa", sum := "3a62ade59ed1ab1bde462f66872d49dfff9e2f2a66a8b499a5a84f05980b0541", func := "loop.example/causey/laws.FnExactLoopFront", spec := "fnExactLoopFront", unfollowed := true, recurses := true, apart := false, narrowed := true }
def FnExactLoopFrontUptoSaid : Prop := fnExactLoopFrontUptoRow.holds Try.pinned (OpenSpec.upto fnExactLoopFrontSpec)

/-- 'laws.FnExactLoopOf', WHERE WHAT IT READS IS OF BULK AT MOST 1048576: true; the input reads as it did. -/
def fnExactLoopOfUptoRow : OpenClaim := { program := "ytkehjekbglajhaa", sum := "3a62ade59ed1ab1bde462f66872d49dfff9e2f2a66a8b499a5a84f05980b0541", func := "loop.example/causey/laws.FnExactLoopOf", spec := "fnExactLoopOf", unfollowed := true, recurses := true, apart := false, narrowed := true }
def FnExactLoopOfUptoSaid : Prop := fnExactLoopOfUptoRow.holds Try.pinned (OpenSpec.upto fnExactLoopOfSpec)

/-- 'laws.FnExactLoopDeep', WHERE WHAT IT READS IS OF BULK AT MOST 1048576: true; the input reads as it did. -/
def fnExactLoopDeepUptoRow : OpenClaim := { program := "ytkehjekbglajhaa", sum := "3a62ade59ed1ab1bde462f66872d49dfff9e2f2a66a8b499a5a84f05980b0541", func := "loop.example/causey/laws.FnExactLoopDeep", spec := "fnExactLoopDeep", unfollowed := true, recurses := true, apart := false, narrowed := true }
def FnExactLoopDeepUptoSaid : Prop := fnExactLoopDeepUptoRow.holds Try.pinned (OpenSpec.upto fnExactLoopDeepSpec)

end Rows
end Go.Proofs.Ytkehjekbglajhaa
