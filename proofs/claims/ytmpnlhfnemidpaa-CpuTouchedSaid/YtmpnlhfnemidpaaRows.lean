/-
  No cell of these rows narrows 'for every input' (looked for: loops, veiled, ifaces, maps, wideKeys, modest, calm, conditions, laid).
  DERIVED. THE GIVEN ROWS OF THIS SEAT. 8 by the template 'for every input the law returns true; each argument reads behind the call as it read before'; 0 by the template 'total and deterministic' (their statements: YtmpnlhfnemidpaaTotals.lean).
  GIVEN WITH THE SEED: the statements are not yours to turn. If you find one false, say at which input.
  Laid BY PROGRAM, IN A SANDBOX (cutbox-rows.mjs): the forced cells as the released guide's own fill.sh prints them over the translation 8de7a8a6e14e969e… (all of the seat's roots in one cut). By AI agents, Wed Nov 11 2026. No macro, syntax, notation, axiom, sorry.
-/
import Derived.Test.YtmpnlhfnemidpaaChecked
import GoSem.Claim
import GoSem.ClaimJoined
import GoSem.ClaimMapViews
import Derived.JoinedTies
import Derived.KernelRfl
namespace Go.Proofs.Ytmpnlhfnemidpaa
/- THE CELL 'sum', in the pinned program and in every row, IS THE sha256 OF THE DUMP (.gsa) THAT YtmpnlhfnemidpaaProg.lean LOADS. Nothing in Lean hashes anything: it is a label: what it is worth is what the hold of that sum in a sandbox is worth. -/
noncomputable def Try.pinned : Pinned := { name := "ytmpnlhfnemidpaa", sum := "8de7a8a6e14e969e527a9a0e4f200861939870b3d09d8c039a213450ee5bd349", checked := Try.checked }
namespace Rows
def none {H : Type} : Left H := { results := [], args := [] }

/-- 'pomanderlaw10.CpuTraps': WHATEVER THE INPUT: true; the input reads as it did. -/
def cpuTrapsSpec : ChangeSpec := { name := "cpuTraps", fn := fun _ => fun
  | [d1, d2] => { results := [.lit (.bool true)], args := [d1, d2] }
  | _ => none }
def cpuTrapsRow : OpenClaim := { program := "ytmpnlhfnemidpaa", sum := "8de7a8a6e14e969e527a9a0e4f200861939870b3d09d8c039a213450ee5bd349", func := "pomander/pomanderlaw10.CpuTraps", spec := "cpuTraps", unfollowed := true, recurses := true, apart := false }
def CpuTrapsSaid : Prop := cpuTrapsRow.holds Try.pinned (OpenSpec.ofChange cpuTrapsSpec)

/-- ITS FALSE NEIGHBOUR: 'it returns false'. Refute it at one input. -/
def cpuTrapsWrong : ChangeSpec := { name := "cpuTraps", fn := fun _ => fun
  | [d1, d2] => { results := [.lit (.bool false)], args := [d1, d2] }
  | _ => none }
def CpuTrapsWrongFalsely : Prop := cpuTrapsRow.holds Try.pinned (OpenSpec.ofChange cpuTrapsWrong)

/-- 'pomanderlaw10.CpuWords': WHATEVER THE INPUT: true; the input reads as it did. -/
def cpuWordsSpec : ChangeSpec := { name := "cpuWords", fn := fun _ => fun
  | [d1, d2] => { results := [.lit (.bool true)], args := [d1, d2] }
  | _ => none }
def cpuWordsRow : OpenClaim := { program := "ytmpnlhfnemidpaa", sum := "8de7a8a6e14e969e527a9a0e4f200861939870b3d09d8c039a213450ee5bd349", func := "pomander/pomanderlaw10.CpuWords", spec := "cpuWords", unfollowed := true, recurses := true, apart := false }
def CpuWordsSaid : Prop := cpuWordsRow.holds Try.pinned (OpenSpec.ofChange cpuWordsSpec)

/-- ITS FALSE NEIGHBOUR: 'it returns false'. Refute it at one input. -/
def cpuWordsWrong : ChangeSpec := { name := "cpuWords", fn := fun _ => fun
  | [d1, d2] => { results := [.lit (.bool false)], args := [d1, d2] }
  | _ => none }
def CpuWordsWrongFalsely : Prop := cpuWordsRow.holds Try.pinned (OpenSpec.ofChange cpuWordsWrong)

/-- 'pomanderlaw10.CpuRuns': WHATEVER THE INPUT: true; the input reads as it did. -/
def cpuRunsSpec : ChangeSpec := { name := "cpuRuns", fn := fun _ => fun
  | [d1, d2] => { results := [.lit (.bool true)], args := [d1, d2] }
  | _ => none }
def cpuRunsRow : OpenClaim := { program := "ytmpnlhfnemidpaa", sum := "8de7a8a6e14e969e527a9a0e4f200861939870b3d09d8c039a213450ee5bd349", func := "pomander/pomanderlaw10.CpuRuns", spec := "cpuRuns", unfollowed := true, recurses := true, apart := false }
def CpuRunsSaid : Prop := cpuRunsRow.holds Try.pinned (OpenSpec.ofChange cpuRunsSpec)

/-- ITS FALSE NEIGHBOUR: 'it returns false'. Refute it at one input. -/
def cpuRunsWrong : ChangeSpec := { name := "cpuRuns", fn := fun _ => fun
  | [d1, d2] => { results := [.lit (.bool false)], args := [d1, d2] }
  | _ => none }
def CpuRunsWrongFalsely : Prop := cpuRunsRow.holds Try.pinned (OpenSpec.ofChange cpuRunsWrong)

/-- 'pomanderlaw10.CpuOps': WHATEVER THE INPUT: true; the input reads as it did. -/
def cpuOpsSpec : ChangeSpec := { name := "cpuOps", fn := fun _ => fun
  | [d1, d2, d3] => { results := [.lit (.bool true)], args := [d1, d2, d3] }
  | _ => none }
def cpuOpsRow : OpenClaim := { program := "ytmpnlhfnemidpaa", sum := "8de7a8a6e14e969e527a9a0e4f200861939870b3d09d8c039a213450ee5bd349", func := "pomander/pomanderlaw10.CpuOps", spec := "cpuOps", unfollowed := true, recurses := true, apart := false }
def CpuOpsSaid : Prop := cpuOpsRow.holds Try.pinned (OpenSpec.ofChange cpuOpsSpec)

/-- ITS FALSE NEIGHBOUR: 'it returns false'. Refute it at one input. -/
def cpuOpsWrong : ChangeSpec := { name := "cpuOps", fn := fun _ => fun
  | [d1, d2, d3] => { results := [.lit (.bool false)], args := [d1, d2, d3] }
  | _ => none }
def CpuOpsWrongFalsely : Prop := cpuOpsRow.holds Try.pinned (OpenSpec.ofChange cpuOpsWrong)

/-- 'pomanderlaw10.CpuPorts': WHATEVER THE INPUT: true; the input reads as it did. -/
def cpuPortsSpec : ChangeSpec := { name := "cpuPorts", fn := fun _ => fun
  | [d1, d2] => { results := [.lit (.bool true)], args := [d1, d2] }
  | _ => none }
def cpuPortsRow : OpenClaim := { program := "ytmpnlhfnemidpaa", sum := "8de7a8a6e14e969e527a9a0e4f200861939870b3d09d8c039a213450ee5bd349", func := "pomander/pomanderlaw10.CpuPorts", spec := "cpuPorts", unfollowed := true, recurses := true, apart := false }
def CpuPortsSaid : Prop := cpuPortsRow.holds Try.pinned (OpenSpec.ofChange cpuPortsSpec)

/-- ITS FALSE NEIGHBOUR: 'it returns false'. Refute it at one input. -/
def cpuPortsWrong : ChangeSpec := { name := "cpuPorts", fn := fun _ => fun
  | [d1, d2] => { results := [.lit (.bool false)], args := [d1, d2] }
  | _ => none }
def CpuPortsWrongFalsely : Prop := cpuPortsRow.holds Try.pinned (OpenSpec.ofChange cpuPortsWrong)

/-- 'pomanderlaw10.CpuTouched': WHATEVER THE INPUT: true; the input reads as it did. -/
def cpuTouchedSpec : ChangeSpec := { name := "cpuTouched", fn := fun _ => fun
  | [d1, d2] => { results := [.lit (.bool true)], args := [d1, d2] }
  | _ => none }
def cpuTouchedRow : OpenClaim := { program := "ytmpnlhfnemidpaa", sum := "8de7a8a6e14e969e527a9a0e4f200861939870b3d09d8c039a213450ee5bd349", func := "pomander/pomanderlaw10.CpuTouched", spec := "cpuTouched", unfollowed := true, recurses := true, apart := false }
def CpuTouchedSaid : Prop := cpuTouchedRow.holds Try.pinned (OpenSpec.ofChange cpuTouchedSpec)

/-- ITS FALSE NEIGHBOUR: 'it returns false'. Refute it at one input. -/
def cpuTouchedWrong : ChangeSpec := { name := "cpuTouched", fn := fun _ => fun
  | [d1, d2] => { results := [.lit (.bool false)], args := [d1, d2] }
  | _ => none }
def CpuTouchedWrongFalsely : Prop := cpuTouchedRow.holds Try.pinned (OpenSpec.ofChange cpuTouchedWrong)

/-- 'pomanderlaw10.CpuSums': WHATEVER THE INPUT: true; the input reads as it did. -/
def cpuSumsSpec : ChangeSpec := { name := "cpuSums", fn := fun _ => fun
  | [d1, d2, d3] => { results := [.lit (.bool true)], args := [d1, d2, d3] }
  | _ => none }
def cpuSumsRow : OpenClaim := { program := "ytmpnlhfnemidpaa", sum := "8de7a8a6e14e969e527a9a0e4f200861939870b3d09d8c039a213450ee5bd349", func := "pomander/pomanderlaw10.CpuSums", spec := "cpuSums", unfollowed := true, recurses := true, apart := false }
def CpuSumsSaid : Prop := cpuSumsRow.holds Try.pinned (OpenSpec.ofChange cpuSumsSpec)

/-- ITS FALSE NEIGHBOUR: 'it returns false'. Refute it at one input. -/
def cpuSumsWrong : ChangeSpec := { name := "cpuSums", fn := fun _ => fun
  | [d1, d2, d3] => { results := [.lit (.bool false)], args := [d1, d2, d3] }
  | _ => none }
def CpuSumsWrongFalsely : Prop := cpuSumsRow.holds Try.pinned (OpenSpec.ofChange cpuSumsWrong)

/-- 'pomanderlaw10.CpuBranches': WHATEVER THE INPUT: true; the input reads as it did. -/
def cpuBranchesSpec : ChangeSpec := { name := "cpuBranches", fn := fun _ => fun
  | [d1, d2, d3] => { results := [.lit (.bool true)], args := [d1, d2, d3] }
  | _ => none }
def cpuBranchesRow : OpenClaim := { program := "ytmpnlhfnemidpaa", sum := "8de7a8a6e14e969e527a9a0e4f200861939870b3d09d8c039a213450ee5bd349", func := "pomander/pomanderlaw10.CpuBranches", spec := "cpuBranches", unfollowed := true, recurses := true, apart := false }
def CpuBranchesSaid : Prop := cpuBranchesRow.holds Try.pinned (OpenSpec.ofChange cpuBranchesSpec)

/-- ITS FALSE NEIGHBOUR: 'it returns false'. Refute it at one input. -/
def cpuBranchesWrong : ChangeSpec := { name := "cpuBranches", fn := fun _ => fun
  | [d1, d2, d3] => { results := [.lit (.bool false)], args := [d1, d2, d3] }
  | _ => none }
def CpuBranchesWrongFalsely : Prop := cpuBranchesRow.holds Try.pinned (OpenSpec.ofChange cpuBranchesWrong)

/- THE SECOND FORM. 'bulk': how many values and letters a reading holds, each counted each time it is reached (what is shared counts as often as it is met; a slice's spare places count too). A statement '..UptoSaid' is the law's where the arguments, and the package variables that the reading takes, are together of bulk at most 1048576: NARROWER than '..Said'. Prove '..Said' where nothing that the law and all that it calls make is longer than what came in: it says more and counts as full. Else prove '..UptoSaid'. A law counts once. -/
mutual
def uptoBulk {H : Type} : DataW H → Nat
  | .lit (.string bytes) => bytes.length + 1
  | .lit _ => 1
  | .nil => 1
  | .ptr d => uptoBulk d + 1
  | .slice elems spare => uptoBulkAll elems + uptoBulkAll spare + 1
  | .agg parts => uptoBulkAll parts + 1
  | .iface _ d => uptoBulk d + 1
  | .map entries => uptoBulkEntries entries + 1
  | .held _ => 1
def uptoBulkAll {H : Type} : List (DataW H) → Nat
  | [] => 0
  | d :: r => uptoBulk d + uptoBulkAll r
def uptoBulkEntries {H : Type} : List (Lit × DataW H) → Nat
  | [] => 0
  | x :: r => uptoBulkEntry x + uptoBulkEntries r
def uptoBulkEntry {H : Type} : Lit × DataW H → Nat
  | (.string bytes, d) => bytes.length + uptoBulk d + 1
  | (_, d) => uptoBulk d + 1
 end
def uptoSmall : (H : Type) → List (DataW H) → Bool := fun _ ds => decide (uptoBulkAll ds ≤ 1048576)
def OpenSpec.upto (s : _root_.Go.ChangeSpec) : _root_.Go.OpenSpec := { _root_.Go.OpenSpec.ofChange s with cond := some uptoSmall }

/-- 'pomanderlaw10.CpuTraps', WHERE WHAT IT READS IS OF BULK AT MOST 1048576: true; the input reads as it did. -/
def cpuTrapsUptoRow : OpenClaim := { program := "ytmpnlhfnemidpaa", sum := "8de7a8a6e14e969e527a9a0e4f200861939870b3d09d8c039a213450ee5bd349", func := "pomander/pomanderlaw10.CpuTraps", spec := "cpuTraps", unfollowed := true, recurses := true, apart := false, narrowed := true }
def CpuTrapsUptoSaid : Prop := cpuTrapsUptoRow.holds Try.pinned (OpenSpec.upto cpuTrapsSpec)

/-- 'pomanderlaw10.CpuWords', WHERE WHAT IT READS IS OF BULK AT MOST 1048576: true; the input reads as it did. -/
def cpuWordsUptoRow : OpenClaim := { program := "ytmpnlhfnemidpaa", sum := "8de7a8a6e14e969e527a9a0e4f200861939870b3d09d8c039a213450ee5bd349", func := "pomander/pomanderlaw10.CpuWords", spec := "cpuWords", unfollowed := true, recurses := true, apart := false, narrowed := true }
def CpuWordsUptoSaid : Prop := cpuWordsUptoRow.holds Try.pinned (OpenSpec.upto cpuWordsSpec)

/-- 'pomanderlaw10.CpuRuns', WHERE WHAT IT READS IS OF BULK AT MOST 1048576: true; the input reads as it did. -/
def cpuRunsUptoRow : OpenClaim := { program := "ytmpnlhfnemidpaa", sum := "8de7a8a6e14e969e527a9a0e4f200861939870b3d09d8c039a213450ee5bd349", func := "pomander/pomanderlaw10.CpuRuns", spec := "cpuRuns", unfollowed := true, recurses := true, apart := false, narrowed := true }
def CpuRunsUptoSaid : Prop := cpuRunsUptoRow.holds Try.pinned (OpenSpec.upto cpuRunsSpec)

/-- 'pomanderlaw10.CpuOps', WHERE WHAT IT READS IS OF BULK AT MOST 1048576: true; the input reads as it did. -/
def cpuOpsUptoRow : OpenClaim := { program := "ytmpnlhfnemidpaa", sum := "8de7a8a6e14e969e527a9a0e4f200861939870b3d09d8c039a213450ee5bd349", func := "pomander/pomanderlaw10.CpuOps", spec := "cpuOps", unfollowed := true, recurses := true, apart := false, narrowed := true }
def CpuOpsUptoSaid : Prop := cpuOpsUptoRow.holds Try.pinned (OpenSpec.upto cpuOpsSpec)

/-- 'pomanderlaw10.CpuPorts', WHERE WHAT IT READS IS OF BULK AT MOST 1048576: true; the input reads as it did. -/
def cpuPortsUptoRow : OpenClaim := { program := "ytmpnlhfnemidpaa", sum := "8de7a8a6e14e969e527a9a0e4f200861939870b3d09d8c039a213450ee5bd349", func := "pomander/pomanderlaw10.CpuPorts", spec := "cpuPorts", unfollowed := true, recurses := true, apart := false, narrowed := true }
def CpuPortsUptoSaid : Prop := cpuPortsUptoRow.holds Try.pinned (OpenSpec.upto cpuPortsSpec)

/-- 'pomanderlaw10.CpuTouched', WHERE WHAT IT READS IS OF BULK AT MOST 1048576: true; the input reads as it did. -/
def cpuTouchedUptoRow : OpenClaim := { program := "ytmpnlhfnemidpaa", sum := "8de7a8a6e14e969e527a9a0e4f200861939870b3d09d8c039a213450ee5bd349", func := "pomander/pomanderlaw10.CpuTouched", spec := "cpuTouched", unfollowed := true, recurses := true, apart := false, narrowed := true }
def CpuTouchedUptoSaid : Prop := cpuTouchedUptoRow.holds Try.pinned (OpenSpec.upto cpuTouchedSpec)

/-- 'pomanderlaw10.CpuSums', WHERE WHAT IT READS IS OF BULK AT MOST 1048576: true; the input reads as it did. -/
def cpuSumsUptoRow : OpenClaim := { program := "ytmpnlhfnemidpaa", sum := "8de7a8a6e14e969e527a9a0e4f200861939870b3d09d8c039a213450ee5bd349", func := "pomander/pomanderlaw10.CpuSums", spec := "cpuSums", unfollowed := true, recurses := true, apart := false, narrowed := true }
def CpuSumsUptoSaid : Prop := cpuSumsUptoRow.holds Try.pinned (OpenSpec.upto cpuSumsSpec)

/-- 'pomanderlaw10.CpuBranches', WHERE WHAT IT READS IS OF BULK AT MOST 1048576: true; the input reads as it did. -/
def cpuBranchesUptoRow : OpenClaim := { program := "ytmpnlhfnemidpaa", sum := "8de7a8a6e14e969e527a9a0e4f200861939870b3d09d8c039a213450ee5bd349", func := "pomander/pomanderlaw10.CpuBranches", spec := "cpuBranches", unfollowed := true, recurses := true, apart := false, narrowed := true }
def CpuBranchesUptoSaid : Prop := cpuBranchesUptoRow.holds Try.pinned (OpenSpec.upto cpuBranchesSpec)

end Rows
end Go.Proofs.Ytmpnlhfnemidpaa
