/-
  NARROWER THAN 'FOR EVERY INPUT', by the rows' own cells (each row's printed sentence says how): LinearMinimum: laid · LinearDuality: laid · LinearHermite: laid · LinearNormal: laid · LinearLeast: laid · BranchRelaxes: laid · LinearWeak: laid · LinearChecks: laid · LinearSolves: laid · LinearRefutes: laid · LinearKronecker: laid.
  DERIVED. THE GIVEN ROWS OF THIS SEAT. 11 by the template 'for every input the law returns true; each argument reads behind the call as it read before'; 0 by the template 'total and deterministic' (their statements: YtkljafmdbajfeaaGreatDoorTotals.lean).
  GIVEN WITH THE SEED: the statements are not yours to turn. If you find one false, say at which input.
  Laid BY PROGRAM, IN A SANDBOX (cutbox-rows.mjs): the forced cells as the released guide's own fill.sh prints them over the translation 876f52f2d6115c06… (all of the seat's roots in one cut). By AI agents, Wed Nov 11 2026. No macro, syntax, notation, axiom, sorry.
-/
import Derived.Test.YtkljafmdbajfeaaGreatDoorChecked
import GoSem.Claim
import GoSem.ClaimJoined
import GoSem.ClaimMapViews
import Derived.JoinedTies
import Derived.KernelRfl
namespace Go.Proofs.YtkljafmdbajfeaaGreatDoor
/- THE CELL 'sum', in the pinned program and in every row, IS THE sha256 OF THE DUMP (.gsa) THAT YtkljafmdbajfeaaGreatDoorProg.lean LOADS. Nothing in Lean hashes anything: it is a label: what it is worth is what the hold of that sum in a sandbox is worth. -/
noncomputable def Tryz.pinned : Pinned := { name := "ytkljafmdbajfeaagreatdoor", sum := "876f52f2d6115c068b552a5feec6e09a488f749d5b9dcb61506e8f3daf9a274c", checked := Tryz.checked }
namespace Rows
def none {H : Type} : Left H := { results := [], args := [] }

/- WHAT THE LISTED PACKAGE-LEVEL VARIABLES READ AS WHEN THE CALL BEGINS. Each datum BY PROGRAM (the guide's laid-datum.mjs) off the statement by which the dump's own 'gosem.cut.vars' lays the variable. In a bare row this is a premise. The card (YtkljafmdbajfeaaGreatDoorCards.lean) ties it to the program's text. -/
def laid_tinplate_linear_costs {H : Type} : DataW H := .agg [.lit (.int .i64 0), .lit (.int .i64 10), .lit (.int .i64 11)]
def laid_tinplate_linear_plans {H : Type} : DataW H := .agg [.lit (.int .i64 10), .lit (.int .i64 10), .lit (.int .i64 10)]

/-- 'tinplatelaw01.LinearMinimum': WHATEVER THE INPUT: true; the input reads as it did. -/
def linearMinimumSpec : ChangeSpec := { name := "linearMinimum", fn := fun _ => fun
  | [d] => { results := [.lit (.bool true)], args := [d] }
  | _ => none }
def linearMinimumRow : OpenClaim := { program := "ytkljafmdbajfeaagreatdoor", sum := "876f52f2d6115c068b552a5feec6e09a488f749d5b9dcb61506e8f3daf9a274c", func := "tinplate/tinplatelaw01.LinearMinimum", spec := "linearMinimum", unfollowed := true, recurses := true, named := ["tinplate/linear.costs"], apart := false, laid := [("tinplate/linear.costs", laid_tinplate_linear_costs)] }
def LinearMinimumSaid : Prop := linearMinimumRow.holds Tryz.pinned (OpenSpec.ofChange linearMinimumSpec)

/-- ITS FALSE NEIGHBOUR: 'it returns false'. Refute it at one input. -/
def linearMinimumWrong : ChangeSpec := { name := "linearMinimum", fn := fun _ => fun
  | [d] => { results := [.lit (.bool false)], args := [d] }
  | _ => none }
def LinearMinimumWrongFalsely : Prop := linearMinimumRow.holds Tryz.pinned (OpenSpec.ofChange linearMinimumWrong)

/-- 'tinplatelaw01.LinearDuality': WHATEVER THE INPUT: true; the input reads as it did. -/
def linearDualitySpec : ChangeSpec := { name := "linearDuality", fn := fun _ => fun
  | [d] => { results := [.lit (.bool true)], args := [d] }
  | _ => none }
def linearDualityRow : OpenClaim := { program := "ytkljafmdbajfeaagreatdoor", sum := "876f52f2d6115c068b552a5feec6e09a488f749d5b9dcb61506e8f3daf9a274c", func := "tinplate/tinplatelaw01.LinearDuality", spec := "linearDuality", unfollowed := true, recurses := true, named := ["tinplate/linear.costs", "tinplate/linear.plans"], apart := false, laid := [("tinplate/linear.costs", laid_tinplate_linear_costs), ("tinplate/linear.plans", laid_tinplate_linear_plans)] }
def LinearDualitySaid : Prop := linearDualityRow.holds Tryz.pinned (OpenSpec.ofChange linearDualitySpec)

/-- ITS FALSE NEIGHBOUR: 'it returns false'. Refute it at one input. -/
def linearDualityWrong : ChangeSpec := { name := "linearDuality", fn := fun _ => fun
  | [d] => { results := [.lit (.bool false)], args := [d] }
  | _ => none }
def LinearDualityWrongFalsely : Prop := linearDualityRow.holds Tryz.pinned (OpenSpec.ofChange linearDualityWrong)

/-- 'tinplatelaw01.LinearHermite': WHATEVER THE INPUT: true; the input reads as it did. -/
def linearHermiteSpec : ChangeSpec := { name := "linearHermite", fn := fun _ => fun
  | [d1, d2, d3] => { results := [.lit (.bool true)], args := [d1, d2, d3] }
  | _ => none }
def linearHermiteRow : OpenClaim := { program := "ytkljafmdbajfeaagreatdoor", sum := "876f52f2d6115c068b552a5feec6e09a488f749d5b9dcb61506e8f3daf9a274c", func := "tinplate/tinplatelaw01.LinearHermite", spec := "linearHermite", unfollowed := true, recurses := true, named := ["tinplate/linear.costs"], apart := false, laid := [("tinplate/linear.costs", laid_tinplate_linear_costs)] }
def LinearHermiteSaid : Prop := linearHermiteRow.holds Tryz.pinned (OpenSpec.ofChange linearHermiteSpec)

/-- ITS FALSE NEIGHBOUR: 'it returns false'. Refute it at one input. -/
def linearHermiteWrong : ChangeSpec := { name := "linearHermite", fn := fun _ => fun
  | [d1, d2, d3] => { results := [.lit (.bool false)], args := [d1, d2, d3] }
  | _ => none }
def LinearHermiteWrongFalsely : Prop := linearHermiteRow.holds Tryz.pinned (OpenSpec.ofChange linearHermiteWrong)

/-- 'tinplatelaw01.LinearNormal': WHATEVER THE INPUT: true; the input reads as it did. -/
def linearNormalSpec : ChangeSpec := { name := "linearNormal", fn := fun _ => fun
  | [d1, d2, d3, d4, d5] => { results := [.lit (.bool true)], args := [d1, d2, d3, d4, d5] }
  | _ => none }
def linearNormalRow : OpenClaim := { program := "ytkljafmdbajfeaagreatdoor", sum := "876f52f2d6115c068b552a5feec6e09a488f749d5b9dcb61506e8f3daf9a274c", func := "tinplate/tinplatelaw01.LinearNormal", spec := "linearNormal", unfollowed := true, recurses := true, named := ["tinplate/linear.costs"], apart := false, laid := [("tinplate/linear.costs", laid_tinplate_linear_costs)] }
def LinearNormalSaid : Prop := linearNormalRow.holds Tryz.pinned (OpenSpec.ofChange linearNormalSpec)

/-- ITS FALSE NEIGHBOUR: 'it returns false'. Refute it at one input. -/
def linearNormalWrong : ChangeSpec := { name := "linearNormal", fn := fun _ => fun
  | [d1, d2, d3, d4, d5] => { results := [.lit (.bool false)], args := [d1, d2, d3, d4, d5] }
  | _ => none }
def LinearNormalWrongFalsely : Prop := linearNormalRow.holds Tryz.pinned (OpenSpec.ofChange linearNormalWrong)

/-- 'tinplatelaw01.LinearLeast': WHATEVER THE INPUT: true; the input reads as it did. -/
def linearLeastSpec : ChangeSpec := { name := "linearLeast", fn := fun _ => fun
  | [d1, d2] => { results := [.lit (.bool true)], args := [d1, d2] }
  | _ => none }
def linearLeastRow : OpenClaim := { program := "ytkljafmdbajfeaagreatdoor", sum := "876f52f2d6115c068b552a5feec6e09a488f749d5b9dcb61506e8f3daf9a274c", func := "tinplate/tinplatelaw01.LinearLeast", spec := "linearLeast", unfollowed := true, recurses := true, named := ["tinplate/linear.costs"], apart := false, laid := [("tinplate/linear.costs", laid_tinplate_linear_costs)] }
def LinearLeastSaid : Prop := linearLeastRow.holds Tryz.pinned (OpenSpec.ofChange linearLeastSpec)

/-- ITS FALSE NEIGHBOUR: 'it returns false'. Refute it at one input. -/
def linearLeastWrong : ChangeSpec := { name := "linearLeast", fn := fun _ => fun
  | [d1, d2] => { results := [.lit (.bool false)], args := [d1, d2] }
  | _ => none }
def LinearLeastWrongFalsely : Prop := linearLeastRow.holds Tryz.pinned (OpenSpec.ofChange linearLeastWrong)

/-- 'tinplatelaw02.BranchRelaxes': WHATEVER THE INPUT: true; the input reads as it did. -/
def branchRelaxesSpec : ChangeSpec := { name := "branchRelaxes", fn := fun _ => fun
  | [d] => { results := [.lit (.bool true)], args := [d] }
  | _ => none }
def branchRelaxesRow : OpenClaim := { program := "ytkljafmdbajfeaagreatdoor", sum := "876f52f2d6115c068b552a5feec6e09a488f749d5b9dcb61506e8f3daf9a274c", func := "tinplate/tinplatelaw02.BranchRelaxes", spec := "branchRelaxes", unfollowed := true, recurses := true, named := ["tinplate/linear.costs"], apart := false, laid := [("tinplate/linear.costs", laid_tinplate_linear_costs)] }
def BranchRelaxesSaid : Prop := branchRelaxesRow.holds Tryz.pinned (OpenSpec.ofChange branchRelaxesSpec)

/-- ITS FALSE NEIGHBOUR: 'it returns false'. Refute it at one input. -/
def branchRelaxesWrong : ChangeSpec := { name := "branchRelaxes", fn := fun _ => fun
  | [d] => { results := [.lit (.bool false)], args := [d] }
  | _ => none }
def BranchRelaxesWrongFalsely : Prop := branchRelaxesRow.holds Tryz.pinned (OpenSpec.ofChange branchRelaxesWrong)

/-- 'tinplatelaw01.LinearWeak': WHATEVER THE INPUT: true; the input reads as it did. -/
def linearWeakSpec : ChangeSpec := { name := "linearWeak", fn := fun _ => fun
  | [d1, d2, d3, d4] => { results := [.lit (.bool true)], args := [d1, d2, d3, d4] }
  | _ => none }
def linearWeakRow : OpenClaim := { program := "ytkljafmdbajfeaagreatdoor", sum := "876f52f2d6115c068b552a5feec6e09a488f749d5b9dcb61506e8f3daf9a274c", func := "tinplate/tinplatelaw01.LinearWeak", spec := "linearWeak", unfollowed := true, recurses := true, named := ["tinplate/linear.costs", "tinplate/linear.plans"], apart := false, laid := [("tinplate/linear.costs", laid_tinplate_linear_costs), ("tinplate/linear.plans", laid_tinplate_linear_plans)] }
def LinearWeakSaid : Prop := linearWeakRow.holds Tryz.pinned (OpenSpec.ofChange linearWeakSpec)

/-- ITS FALSE NEIGHBOUR: 'it returns false'. Refute it at one input. -/
def linearWeakWrong : ChangeSpec := { name := "linearWeak", fn := fun _ => fun
  | [d1, d2, d3, d4] => { results := [.lit (.bool false)], args := [d1, d2, d3, d4] }
  | _ => none }
def LinearWeakWrongFalsely : Prop := linearWeakRow.holds Tryz.pinned (OpenSpec.ofChange linearWeakWrong)

/-- 'tinplatelaw01.LinearChecks': WHATEVER THE INPUT: true; the input reads as it did. -/
def linearChecksSpec : ChangeSpec := { name := "linearChecks", fn := fun _ => fun
  | [d1, d2] => { results := [.lit (.bool true)], args := [d1, d2] }
  | _ => none }
def linearChecksRow : OpenClaim := { program := "ytkljafmdbajfeaagreatdoor", sum := "876f52f2d6115c068b552a5feec6e09a488f749d5b9dcb61506e8f3daf9a274c", func := "tinplate/tinplatelaw01.LinearChecks", spec := "linearChecks", unfollowed := true, recurses := true, named := ["tinplate/linear.costs"], apart := false, laid := [("tinplate/linear.costs", laid_tinplate_linear_costs)] }
def LinearChecksSaid : Prop := linearChecksRow.holds Tryz.pinned (OpenSpec.ofChange linearChecksSpec)

/-- ITS FALSE NEIGHBOUR: 'it returns false'. Refute it at one input. -/
def linearChecksWrong : ChangeSpec := { name := "linearChecks", fn := fun _ => fun
  | [d1, d2] => { results := [.lit (.bool false)], args := [d1, d2] }
  | _ => none }
def LinearChecksWrongFalsely : Prop := linearChecksRow.holds Tryz.pinned (OpenSpec.ofChange linearChecksWrong)

/-- 'tinplatelaw01.LinearSolves': WHATEVER THE INPUT: true; the input reads as it did. -/
def linearSolvesSpec : ChangeSpec := { name := "linearSolves", fn := fun _ => fun
  | [d1, d2, d3] => { results := [.lit (.bool true)], args := [d1, d2, d3] }
  | _ => none }
def linearSolvesRow : OpenClaim := { program := "ytkljafmdbajfeaagreatdoor", sum := "876f52f2d6115c068b552a5feec6e09a488f749d5b9dcb61506e8f3daf9a274c", func := "tinplate/tinplatelaw01.LinearSolves", spec := "linearSolves", unfollowed := true, recurses := true, named := ["tinplate/linear.costs"], apart := false, laid := [("tinplate/linear.costs", laid_tinplate_linear_costs)] }
def LinearSolvesSaid : Prop := linearSolvesRow.holds Tryz.pinned (OpenSpec.ofChange linearSolvesSpec)

/-- ITS FALSE NEIGHBOUR: 'it returns false'. Refute it at one input. -/
def linearSolvesWrong : ChangeSpec := { name := "linearSolves", fn := fun _ => fun
  | [d1, d2, d3] => { results := [.lit (.bool false)], args := [d1, d2, d3] }
  | _ => none }
def LinearSolvesWrongFalsely : Prop := linearSolvesRow.holds Tryz.pinned (OpenSpec.ofChange linearSolvesWrong)

/-- 'tinplatelaw01.LinearRefutes': WHATEVER THE INPUT: true; the input reads as it did. -/
def linearRefutesSpec : ChangeSpec := { name := "linearRefutes", fn := fun _ => fun
  | [d1, d2, d3, d4] => { results := [.lit (.bool true)], args := [d1, d2, d3, d4] }
  | _ => none }
def linearRefutesRow : OpenClaim := { program := "ytkljafmdbajfeaagreatdoor", sum := "876f52f2d6115c068b552a5feec6e09a488f749d5b9dcb61506e8f3daf9a274c", func := "tinplate/tinplatelaw01.LinearRefutes", spec := "linearRefutes", unfollowed := true, recurses := true, named := ["tinplate/linear.costs"], apart := false, laid := [("tinplate/linear.costs", laid_tinplate_linear_costs)] }
def LinearRefutesSaid : Prop := linearRefutesRow.holds Tryz.pinned (OpenSpec.ofChange linearRefutesSpec)

/-- ITS FALSE NEIGHBOUR: 'it returns false'. Refute it at one input. -/
def linearRefutesWrong : ChangeSpec := { name := "linearRefutes", fn := fun _ => fun
  | [d1, d2, d3, d4] => { results := [.lit (.bool false)], args := [d1, d2, d3, d4] }
  | _ => none }
def LinearRefutesWrongFalsely : Prop := linearRefutesRow.holds Tryz.pinned (OpenSpec.ofChange linearRefutesWrong)

/-- 'tinplatelaw01.LinearKronecker': WHATEVER THE INPUT: true; the input reads as it did. -/
def linearKroneckerSpec : ChangeSpec := { name := "linearKronecker", fn := fun _ => fun
  | [d1, d2, d3, d4, d5] => { results := [.lit (.bool true)], args := [d1, d2, d3, d4, d5] }
  | _ => none }
def linearKroneckerRow : OpenClaim := { program := "ytkljafmdbajfeaagreatdoor", sum := "876f52f2d6115c068b552a5feec6e09a488f749d5b9dcb61506e8f3daf9a274c", func := "tinplate/tinplatelaw01.LinearKronecker", spec := "linearKronecker", unfollowed := true, recurses := true, named := ["tinplate/linear.costs"], apart := false, laid := [("tinplate/linear.costs", laid_tinplate_linear_costs)] }
def LinearKroneckerSaid : Prop := linearKroneckerRow.holds Tryz.pinned (OpenSpec.ofChange linearKroneckerSpec)

/-- ITS FALSE NEIGHBOUR: 'it returns false'. Refute it at one input. -/
def linearKroneckerWrong : ChangeSpec := { name := "linearKronecker", fn := fun _ => fun
  | [d1, d2, d3, d4, d5] => { results := [.lit (.bool false)], args := [d1, d2, d3, d4, d5] }
  | _ => none }
def LinearKroneckerWrongFalsely : Prop := linearKroneckerRow.holds Tryz.pinned (OpenSpec.ofChange linearKroneckerWrong)

/- THE SECOND FORM. 'bulk': how many values and letters a reading holds, each counted each time it is reached (what is shared counts as often as it is met; a slice's spare places count too). A statement '..UptoSaid' is the law's where the arguments, and the package variables that the reading takes, are together of bulk at most 1048576: NARROWER than '..Said'. Prove '..Said' where nothing that the law and all that it calls make is longer than what came in: it says more and counts as full. Else prove '..UptoSaid'. A law counts once. -/
mutual
def uptoBulk {H : Type} : DataW H → Nat
  | .lit (.string bytes) => bytes.length + 1
  | .lit _ => 1
  | .nil => 1
  | .ptr d => uptoBulk d + 1
  | .slice elems spare => uptoBulkAll elems + uptoBulkAll spare + 1
  | .agg parts => uptoBulkAll parts + 1
  | .iface _ d => uptoBulk d + 1
  | .map entries => uptoBulkEntries entries + 1
  | .held _ => 1
def uptoBulkAll {H : Type} : List (DataW H) → Nat
  | [] => 0
  | d :: r => uptoBulk d + uptoBulkAll r
def uptoBulkEntries {H : Type} : List (Lit × DataW H) → Nat
  | [] => 0
  | x :: r => uptoBulkEntry x + uptoBulkEntries r
def uptoBulkEntry {H : Type} : Lit × DataW H → Nat
  | (.string bytes, d) => bytes.length + uptoBulk d + 1
  | (_, d) => uptoBulk d + 1
 end
def uptoSmall : (H : Type) → List (DataW H) → Bool := fun _ ds => decide (uptoBulkAll ds ≤ 1048576)
def OpenSpec.upto (s : _root_.Go.ChangeSpec) : _root_.Go.OpenSpec := { _root_.Go.OpenSpec.ofChange s with cond := some uptoSmall }

/-- 'tinplatelaw01.LinearMinimum', WHERE WHAT IT READS IS OF BULK AT MOST 1048576: true; the input reads as it did. -/
def linearMinimumUptoRow : OpenClaim := { program := "ytkljafmdbajfeaagreatdoor", sum := "876f52f2d6115c068b552a5feec6e09a488f749d5b9dcb61506e8f3daf9a274c", func := "tinplate/tinplatelaw01.LinearMinimum", spec := "linearMinimum", unfollowed := true, recurses := true, named := ["tinplate/linear.costs"], apart := false, laid := [("tinplate/linear.costs", laid_tinplate_linear_costs)], narrowed := true }
def LinearMinimumUptoSaid : Prop := linearMinimumUptoRow.holds Tryz.pinned (OpenSpec.upto linearMinimumSpec)

/-- 'tinplatelaw01.LinearDuality', WHERE WHAT IT READS IS OF BULK AT MOST 1048576: true; the input reads as it did. -/
def linearDualityUptoRow : OpenClaim := { program := "ytkljafmdbajfeaagreatdoor", sum := "876f52f2d6115c068b552a5feec6e09a488f749d5b9dcb61506e8f3daf9a274c", func := "tinplate/tinplatelaw01.LinearDuality", spec := "linearDuality", unfollowed := true, recurses := true, named := ["tinplate/linear.costs", "tinplate/linear.plans"], apart := false, laid := [("tinplate/linear.costs", laid_tinplate_linear_costs), ("tinplate/linear.plans", laid_tinplate_linear_plans)], narrowed := true }
def LinearDualityUptoSaid : Prop := linearDualityUptoRow.holds Tryz.pinned (OpenSpec.upto linearDualitySpec)

/-- 'tinplatelaw01.LinearHermite', WHERE WHAT IT READS IS OF BULK AT MOST 1048576: true; the input reads as it did. -/
def linearHermiteUptoRow : OpenClaim := { program := "ytkljafmdbajfeaagreatdoor", sum := "876f52f2d6115c068b552a5feec6e09a488f749d5b9dcb61506e8f3daf9a274c", func := "tinplate/tinplatelaw01.LinearHermite", spec := "linearHermite", unfollowed := true, recurses := true, named := ["tinplate/linear.costs"], apart := false, laid := [("tinplate/linear.costs", laid_tinplate_linear_costs)], narrowed := true }
def LinearHermiteUptoSaid : Prop := linearHermiteUptoRow.holds Tryz.pinned (OpenSpec.upto linearHermiteSpec)

/-- 'tinplatelaw01.LinearNormal', WHERE WHAT IT READS IS OF BULK AT MOST 1048576: true; the input reads as it did. -/
def linearNormalUptoRow : OpenClaim := { program := "ytkljafmdbajfeaagreatdoor", sum := "876f52f2d6115c068b552a5feec6e09a488f749d5b9dcb61506e8f3daf9a274c", func := "tinplate/tinplatelaw01.LinearNormal", spec := "linearNormal", unfollowed := true, recurses := true, named := ["tinplate/linear.costs"], apart := false, laid := [("tinplate/linear.costs", laid_tinplate_linear_costs)], narrowed := true }
def LinearNormalUptoSaid : Prop := linearNormalUptoRow.holds Tryz.pinned (OpenSpec.upto linearNormalSpec)

/-- 'tinplatelaw01.LinearLeast', WHERE WHAT IT READS IS OF BULK AT MOST 1048576: true; the input reads as it did. -/
def linearLeastUptoRow : OpenClaim := { program := "ytkljafmdbajfeaagreatdoor", sum := "876f52f2d6115c068b552a5feec6e09a488f749d5b9dcb61506e8f3daf9a274c", func := "tinplate/tinplatelaw01.LinearLeast", spec := "linearLeast", unfollowed := true, recurses := true, named := ["tinplate/linear.costs"], apart := false, laid := [("tinplate/linear.costs", laid_tinplate_linear_costs)], narrowed := true }
def LinearLeastUptoSaid : Prop := linearLeastUptoRow.holds Tryz.pinned (OpenSpec.upto linearLeastSpec)

/-- 'tinplatelaw02.BranchRelaxes', WHERE WHAT IT READS IS OF BULK AT MOST 1048576: true; the input reads as it did. -/
def branchRelaxesUptoRow : OpenClaim := { program := "ytkljafmdbajfeaagreatdoor", sum := "876f52f2d6115c068b552a5feec6e09a488f749d5b9dcb61506e8f3daf9a274c", func := "tinplate/tinplatelaw02.BranchRelaxes", spec := "branchRelaxes", unfollowed := true, recurses := true, named := ["tinplate/linear.costs"], apart := false, laid := [("tinplate/linear.costs", laid_tinplate_linear_costs)], narrowed := true }
def BranchRelaxesUptoSaid : Prop := branchRelaxesUptoRow.holds Tryz.pinned (OpenSpec.upto branchRelaxesSpec)

/-- 'tinplatelaw01.LinearWeak', WHERE WHAT IT READS IS OF BULK AT MOST 1048576: true; the input reads as it did. -/
def linearWeakUptoRow : OpenClaim := { program := "ytkljafmdbajfeaagreatdoor", sum := "876f52f2d6115c068b552a5feec6e09a488f749d5b9dcb61506e8f3daf9a274c", func := "tinplate/tinplatelaw01.LinearWeak", spec := "linearWeak", unfollowed := true, recurses := true, named := ["tinplate/linear.costs", "tinplate/linear.plans"], apart := false, laid := [("tinplate/linear.costs", laid_tinplate_linear_costs), ("tinplate/linear.plans", laid_tinplate_linear_plans)], narrowed := true }
def LinearWeakUptoSaid : Prop := linearWeakUptoRow.holds Tryz.pinned (OpenSpec.upto linearWeakSpec)

/-- 'tinplatelaw01.LinearChecks', WHERE WHAT IT READS IS OF BULK AT MOST 1048576: true; the input reads as it did. -/
def linearChecksUptoRow : OpenClaim := { program := "ytkljafmdbajfeaagreatdoor", sum := "876f52f2d6115c068b552a5feec6e09a488f749d5b9dcb61506e8f3daf9a274c", func := "tinplate/tinplatelaw01.LinearChecks", spec := "linearChecks", unfollowed := true, recurses := true, named := ["tinplate/linear.costs"], apart := false, laid := [("tinplate/linear.costs", laid_tinplate_linear_costs)], narrowed := true }
def LinearChecksUptoSaid : Prop := linearChecksUptoRow.holds Tryz.pinned (OpenSpec.upto linearChecksSpec)

/-- 'tinplatelaw01.LinearSolves', WHERE WHAT IT READS IS OF BULK AT MOST 1048576: true; the input reads as it did. -/
def linearSolvesUptoRow : OpenClaim := { program := "ytkljafmdbajfeaagreatdoor", sum := "876f52f2d6115c068b552a5feec6e09a488f749d5b9dcb61506e8f3daf9a274c", func := "tinplate/tinplatelaw01.LinearSolves", spec := "linearSolves", unfollowed := true, recurses := true, named := ["tinplate/linear.costs"], apart := false, laid := [("tinplate/linear.costs", laid_tinplate_linear_costs)], narrowed := true }
def LinearSolvesUptoSaid : Prop := linearSolvesUptoRow.holds Tryz.pinned (OpenSpec.upto linearSolvesSpec)

/-- 'tinplatelaw01.LinearRefutes', WHERE WHAT IT READS IS OF BULK AT MOST 1048576: true; the input reads as it did. -/
def linearRefutesUptoRow : OpenClaim := { program := "ytkljafmdbajfeaagreatdoor", sum := "876f52f2d6115c068b552a5feec6e09a488f749d5b9dcb61506e8f3daf9a274c", func := "tinplate/tinplatelaw01.LinearRefutes", spec := "linearRefutes", unfollowed := true, recurses := true, named := ["tinplate/linear.costs"], apart := false, laid := [("tinplate/linear.costs", laid_tinplate_linear_costs)], narrowed := true }
def LinearRefutesUptoSaid : Prop := linearRefutesUptoRow.holds Tryz.pinned (OpenSpec.upto linearRefutesSpec)

/-- 'tinplatelaw01.LinearKronecker', WHERE WHAT IT READS IS OF BULK AT MOST 1048576: true; the input reads as it did. -/
def linearKroneckerUptoRow : OpenClaim := { program := "ytkljafmdbajfeaagreatdoor", sum := "876f52f2d6115c068b552a5feec6e09a488f749d5b9dcb61506e8f3daf9a274c", func := "tinplate/tinplatelaw01.LinearKronecker", spec := "linearKronecker", unfollowed := true, recurses := true, named := ["tinplate/linear.costs"], apart := false, laid := [("tinplate/linear.costs", laid_tinplate_linear_costs)], narrowed := true }
def LinearKroneckerUptoSaid : Prop := linearKroneckerUptoRow.holds Tryz.pinned (OpenSpec.upto linearKroneckerSpec)

end Rows
end Go.Proofs.YtkljafmdbajfeaaGreatDoor
