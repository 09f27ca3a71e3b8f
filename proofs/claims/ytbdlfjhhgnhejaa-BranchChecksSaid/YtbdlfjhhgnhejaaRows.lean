/-
  No cell of these rows narrows 'for every input' (looked for: loops, veiled, ifaces, maps, wideKeys, modest, calm, conditions, laid).
  DERIVED. THE GIVEN ROWS OF THIS SEAT. 6 by the template 'for every input the law returns true; each argument reads behind the call as it read before'; 0 by the template 'total and deterministic' (their statements: YtbdlfjhhgnhejaaTotals.lean).
  GIVEN WITH THE SEED: the statements are not yours to turn. If you find one false, say at which input.
  Laid BY PROGRAM, IN A SANDBOX (cutbox-rows.mjs): the forced cells as the released guide's own fill.sh prints them over the translation 8e97b8cdf630ff18… (all of the seat's roots in one cut). By AI agents, Wed Nov 11 2026. No macro, syntax, notation, axiom, sorry.
-/
import Derived.Test.YtbdlfjhhgnhejaaChecked
import GoSem.Claim
import GoSem.ClaimJoined
import GoSem.ClaimMapViews
import Derived.JoinedTies
import Derived.KernelRfl
namespace Go.Proofs.Ytbdlfjhhgnhejaa
/- THE CELL 'sum', in the pinned program and in every row, IS THE sha256 OF THE DUMP (.gsa) THAT YtbdlfjhhgnhejaaProg.lean LOADS. Nothing in Lean hashes anything: it is a label: what it is worth is what the hold of that sum in a sandbox is worth. -/
noncomputable def Try.pinned : Pinned := { name := "ytbdlfjhhgnhejaa", sum := "8e97b8cdf630ff182925980c78301538bccdd7d1fe57c2dcce8b5b1697f024de", checked := Try.checked }
namespace Rows
def none {H : Type} : Left H := { results := [], args := [] }

/-- 'tinplatelaw02.BranchChecks': WHATEVER THE INPUT: true; the input reads as it did. -/
def branchChecksSpec : ChangeSpec := { name := "branchChecks", fn := fun _ => fun
  | [d1, d2, d3, d4] => { results := [.lit (.bool true)], args := [d1, d2, d3, d4] }
  | _ => none }
def branchChecksRow : OpenClaim := { program := "ytbdlfjhhgnhejaa", sum := "8e97b8cdf630ff182925980c78301538bccdd7d1fe57c2dcce8b5b1697f024de", func := "tinplate/tinplatelaw02.BranchChecks", spec := "branchChecks", unfollowed := true, recurses := true, apart := false }
def BranchChecksSaid : Prop := branchChecksRow.holds Try.pinned (OpenSpec.ofChange branchChecksSpec)

/-- ITS FALSE NEIGHBOUR: 'it returns false'. Refute it at one input. -/
def branchChecksWrong : ChangeSpec := { name := "branchChecks", fn := fun _ => fun
  | [d1, d2, d3, d4] => { results := [.lit (.bool false)], args := [d1, d2, d3, d4] }
  | _ => none }
def BranchChecksWrongFalsely : Prop := branchChecksRow.holds Try.pinned (OpenSpec.ofChange branchChecksWrong)

/-- 'tinplatelaw02.BranchLimit': WHATEVER THE INPUT: true; the input reads as it did. -/
def branchLimitSpec : ChangeSpec := { name := "branchLimit", fn := fun _ => fun
  | [d1, d2] => { results := [.lit (.bool true)], args := [d1, d2] }
  | _ => none }
def branchLimitRow : OpenClaim := { program := "ytbdlfjhhgnhejaa", sum := "8e97b8cdf630ff182925980c78301538bccdd7d1fe57c2dcce8b5b1697f024de", func := "tinplate/tinplatelaw02.BranchLimit", spec := "branchLimit", unfollowed := true, recurses := true, apart := false }
def BranchLimitSaid : Prop := branchLimitRow.holds Try.pinned (OpenSpec.ofChange branchLimitSpec)

/-- ITS FALSE NEIGHBOUR: 'it returns false'. Refute it at one input. -/
def branchLimitWrong : ChangeSpec := { name := "branchLimit", fn := fun _ => fun
  | [d1, d2] => { results := [.lit (.bool false)], args := [d1, d2] }
  | _ => none }
def BranchLimitWrongFalsely : Prop := branchLimitRow.holds Try.pinned (OpenSpec.ofChange branchLimitWrong)

/-- 'tinplatelaw02.BranchSound': WHATEVER THE INPUT: true; the input reads as it did. -/
def branchSoundSpec : ChangeSpec := { name := "branchSound", fn := fun _ => fun
  | [d1, d2, d3, d4] => { results := [.lit (.bool true)], args := [d1, d2, d3, d4] }
  | _ => none }
def branchSoundRow : OpenClaim := { program := "ytbdlfjhhgnhejaa", sum := "8e97b8cdf630ff182925980c78301538bccdd7d1fe57c2dcce8b5b1697f024de", func := "tinplate/tinplatelaw02.BranchSound", spec := "branchSound", unfollowed := true, recurses := true, apart := false }
def BranchSoundSaid : Prop := branchSoundRow.holds Try.pinned (OpenSpec.ofChange branchSoundSpec)

/-- ITS FALSE NEIGHBOUR: 'it returns false'. Refute it at one input. -/
def branchSoundWrong : ChangeSpec := { name := "branchSound", fn := fun _ => fun
  | [d1, d2, d3, d4] => { results := [.lit (.bool false)], args := [d1, d2, d3, d4] }
  | _ => none }
def BranchSoundWrongFalsely : Prop := branchSoundRow.holds Try.pinned (OpenSpec.ofChange branchSoundWrong)

/-- 'tinplatelaw02.BranchVector': WHATEVER THE INPUT: true; the input reads as it did. -/
def branchVectorSpec : ChangeSpec := { name := "branchVector", fn := fun _ => fun
  | [d1, d2] => { results := [.lit (.bool true)], args := [d1, d2] }
  | _ => none }
def branchVectorRow : OpenClaim := { program := "ytbdlfjhhgnhejaa", sum := "8e97b8cdf630ff182925980c78301538bccdd7d1fe57c2dcce8b5b1697f024de", func := "tinplate/tinplatelaw02.BranchVector", spec := "branchVector", unfollowed := true, recurses := true, apart := false }
def BranchVectorSaid : Prop := branchVectorRow.holds Try.pinned (OpenSpec.ofChange branchVectorSpec)

/-- ITS FALSE NEIGHBOUR: 'it returns false'. Refute it at one input. -/
def branchVectorWrong : ChangeSpec := { name := "branchVector", fn := fun _ => fun
  | [d1, d2] => { results := [.lit (.bool false)], args := [d1, d2] }
  | _ => none }
def BranchVectorWrongFalsely : Prop := branchVectorRow.holds Try.pinned (OpenSpec.ofChange branchVectorWrong)

/-- 'tinplatelaw02.BranchSolves': WHATEVER THE INPUT: true; the input reads as it did. -/
def branchSolvesSpec : ChangeSpec := { name := "branchSolves", fn := fun _ => fun
  | [d1, d2] => { results := [.lit (.bool true)], args := [d1, d2] }
  | _ => none }
def branchSolvesRow : OpenClaim := { program := "ytbdlfjhhgnhejaa", sum := "8e97b8cdf630ff182925980c78301538bccdd7d1fe57c2dcce8b5b1697f024de", func := "tinplate/tinplatelaw02.BranchSolves", spec := "branchSolves", unfollowed := true, recurses := true, apart := false }
def BranchSolvesSaid : Prop := branchSolvesRow.holds Try.pinned (OpenSpec.ofChange branchSolvesSpec)

/-- ITS FALSE NEIGHBOUR: 'it returns false'. Refute it at one input. -/
def branchSolvesWrong : ChangeSpec := { name := "branchSolves", fn := fun _ => fun
  | [d1, d2] => { results := [.lit (.bool false)], args := [d1, d2] }
  | _ => none }
def BranchSolvesWrongFalsely : Prop := branchSolvesRow.holds Try.pinned (OpenSpec.ofChange branchSolvesWrong)

/-- 'tinplatelaw02.BranchCounts': WHATEVER THE INPUT: true; the input reads as it did. -/
def branchCountsSpec : ChangeSpec := { name := "branchCounts", fn := fun _ => fun
  | [d1, d2, d3] => { results := [.lit (.bool true)], args := [d1, d2, d3] }
  | _ => none }
def branchCountsRow : OpenClaim := { program := "ytbdlfjhhgnhejaa", sum := "8e97b8cdf630ff182925980c78301538bccdd7d1fe57c2dcce8b5b1697f024de", func := "tinplate/tinplatelaw02.BranchCounts", spec := "branchCounts", unfollowed := true, recurses := true, apart := false }
def BranchCountsSaid : Prop := branchCountsRow.holds Try.pinned (OpenSpec.ofChange branchCountsSpec)

/-- ITS FALSE NEIGHBOUR: 'it returns false'. Refute it at one input. -/
def branchCountsWrong : ChangeSpec := { name := "branchCounts", fn := fun _ => fun
  | [d1, d2, d3] => { results := [.lit (.bool false)], args := [d1, d2, d3] }
  | _ => none }
def BranchCountsWrongFalsely : Prop := branchCountsRow.holds Try.pinned (OpenSpec.ofChange branchCountsWrong)

/- THE SECOND FORM. 'bulk': how many values and letters a reading holds, each counted each time it is reached (what is shared counts as often as it is met; a slice's spare places count too). A statement '..UptoSaid' is the law's where the arguments, and the package variables that the reading takes, are together of bulk at most 1048576: NARROWER than '..Said'. Prove '..Said' where nothing that the law and all that it calls make is longer than what came in: it says more and counts as full. Else prove '..UptoSaid'. A law counts once. -/
mutual
def uptoBulk {H : Type} : DataW H → Nat
  | .lit (.string bytes) => bytes.length + 1
  | .lit _ => 1
  | .nil => 1
  | .ptr d => uptoBulk d + 1
  | .slice elems spare => uptoBulkAll elems + uptoBulkAll spare + 1
  | .agg parts => uptoBulkAll parts + 1
  | .iface _ d => uptoBulk d + 1
  | .map entries => uptoBulkEntries entries + 1
  | .held _ => 1
def uptoBulkAll {H : Type} : List (DataW H) → Nat
  | [] => 0
  | d :: r => uptoBulk d + uptoBulkAll r
def uptoBulkEntries {H : Type} : List (Lit × DataW H) → Nat
  | [] => 0
  | x :: r => uptoBulkEntry x + uptoBulkEntries r
def uptoBulkEntry {H : Type} : Lit × DataW H → Nat
  | (.string bytes, d) => bytes.length + uptoBulk d + 1
  | (_, d) => uptoBulk d + 1
 end
def uptoSmall : (H : Type) → List (DataW H) → Bool := fun _ ds => decide (uptoBulkAll ds ≤ 1048576)
def OpenSpec.upto (s : _root_.Go.ChangeSpec) : _root_.Go.OpenSpec := { _root_.Go.OpenSpec.ofChange s with cond := some uptoSmall }

/-- 'tinplatelaw02.BranchChecks', WHERE WHAT IT READS IS OF BULK AT MOST 1048576: true; the input reads as it did. -/
def branchChecksUptoRow : OpenClaim := { program := "ytbdlfjhhgnhejaa", sum := "8e97b8cdf630ff182925980c78301538bccdd7d1fe57c2dcce8b5b1697f024de", func := "tinplate/tinplatelaw02.BranchChecks", spec := "branchChecks", unfollowed := true, recurses := true, apart := false, narrowed := true }
def BranchChecksUptoSaid : Prop := branchChecksUptoRow.holds Try.pinned (OpenSpec.upto branchChecksSpec)

/-- 'tinplatelaw02.BranchLimit', WHERE WHAT IT READS IS OF BULK AT MOST 1048576: true; the input reads as it did. -/
def branchLimitUptoRow : OpenClaim := { program := "ytbdlfjhhgnhejaa", sum := "8e97b8cdf630ff182925980c78301538bccdd7d1fe57c2dcce8b5b1697f024de", func := "tinplate/tinplatelaw02.BranchLimit", spec := "branchLimit", unfollowed := true, recurses := true, apart := false, narrowed := true }
def BranchLimitUptoSaid : Prop := branchLimitUptoRow.holds Try.pinned (OpenSpec.upto branchLimitSpec)

/-- 'tinplatelaw02.BranchSound', WHERE WHAT IT READS IS OF BULK AT MOST 1048576: true; the input reads as it did. -/
def branchSoundUptoRow : OpenClaim := { program := "ytbdlfjhhgnhejaa", sum := "8e97b8cdf630ff182925980c78301538bccdd7d1fe57c2dcce8b5b1697f024de", func := "tinplate/tinplatelaw02.BranchSound", spec := "branchSound", unfollowed := true, recurses := true, apart := false, narrowed := true }
def BranchSoundUptoSaid : Prop := branchSoundUptoRow.holds Try.pinned (OpenSpec.upto branchSoundSpec)

/-- 'tinplatelaw02.BranchVector', WHERE WHAT IT READS IS OF BULK AT MOST 1048576: true; the input reads as it did. -/
def branchVectorUptoRow : OpenClaim := { program := "ytbdlfjhhgnhejaa", sum := "8e97b8cdf630ff182925980c78301538bccdd7d1fe57c2dcce8b5b1697f024de", func := "tinplate/tinplatelaw02.BranchVector", spec := "branchVector", unfollowed := true, recurses := true, apart := false, narrowed := true }
def BranchVectorUptoSaid : Prop := branchVectorUptoRow.holds Try.pinned (OpenSpec.upto branchVectorSpec)

/-- 'tinplatelaw02.BranchSolves', WHERE WHAT IT READS IS OF BULK AT MOST 1048576: true; the input reads as it did. -/
def branchSolvesUptoRow : OpenClaim := { program := "ytbdlfjhhgnhejaa", sum := "8e97b8cdf630ff182925980c78301538bccdd7d1fe57c2dcce8b5b1697f024de", func := "tinplate/tinplatelaw02.BranchSolves", spec := "branchSolves", unfollowed := true, recurses := true, apart := false, narrowed := true }
def BranchSolvesUptoSaid : Prop := branchSolvesUptoRow.holds Try.pinned (OpenSpec.upto branchSolvesSpec)

/-- 'tinplatelaw02.BranchCounts', WHERE WHAT IT READS IS OF BULK AT MOST 1048576: true; the input reads as it did. -/
def branchCountsUptoRow : OpenClaim := { program := "ytbdlfjhhgnhejaa", sum := "8e97b8cdf630ff182925980c78301538bccdd7d1fe57c2dcce8b5b1697f024de", func := "tinplate/tinplatelaw02.BranchCounts", spec := "branchCounts", unfollowed := true, recurses := true, apart := false, narrowed := true }
def BranchCountsUptoSaid : Prop := branchCountsUptoRow.holds Try.pinned (OpenSpec.upto branchCountsSpec)

end Rows
end Go.Proofs.Ytbdlfjhhgnhejaa
