/-
  No cell of these rows narrows 'for every input' (looked for: loops, veiled, ifaces, maps, wideKeys, modest, calm, conditions, laid).
  DERIVED. THE GIVEN ROWS OF THIS SEAT. 6 by the template 'for every input the law returns true; each argument reads behind the call as it read before'; 0 by the template 'total and deterministic' (their statements: YtbochdimjhlnmaaTotals.lean).
  GIVEN WITH THE SEED: the statements are not yours to turn. If you find one false, say at which input.
  Laid BY PROGRAM, IN A SANDBOX (cutbox-rows.mjs): the forced cells as the released guide's own fill.sh prints them over the translation 441066bffc2eefd4… (all of the seat's roots in one cut). By AI agents, Wed Nov 11 2026. No macro, syntax, notation, axiom, sorry.
-/
import Derived.Test.YtbochdimjhlnmaaChecked
import GoSem.Claim
import GoSem.ClaimJoined
import GoSem.ClaimMapViews
import Derived.JoinedTies
import Derived.KernelRfl
namespace Go.Proofs.Ytbochdimjhlnmaa
/- THE CELL 'sum', in the pinned program and in every row, IS THE sha256 OF THE DUMP (.gsa) THAT YtbochdimjhlnmaaProg.lean LOADS. Nothing in Lean hashes anything: it is a label: what it is worth is what the hold of that sum in a sandbox is worth. -/
noncomputable def Try.pinned : Pinned := { name := "ytbochdimjhlnmaa", sum := "441066bffc2eefd4b7d1deace857cc78599a0712cc5c14c3ee07f11f02a2980b", checked := Try.checked }
namespace Rows
def none {H : Type} : Left H := { results := [], args := [] }

/-- 'remoralaw22.BasisApart': WHATEVER THE INPUT: true; the input reads as it did. -/
def basisApartSpec : ChangeSpec := { name := "basisApart", fn := fun _ => fun
  | [d1, d2] => { results := [.lit (.bool true)], args := [d1, d2] }
  | _ => none }
def basisApartRow : OpenClaim := { program := "ytbochdimjhlnmaa", sum := "441066bffc2eefd4b7d1deace857cc78599a0712cc5c14c3ee07f11f02a2980b", func := "remora/remoralaw22.BasisApart", spec := "basisApart", apart := false }
def BasisApartSaid : Prop := basisApartRow.holds Try.pinned (OpenSpec.ofChange basisApartSpec)

/-- ITS FALSE NEIGHBOUR: 'it returns false'. Refute it at one input. -/
def basisApartWrong : ChangeSpec := { name := "basisApart", fn := fun _ => fun
  | [d1, d2] => { results := [.lit (.bool false)], args := [d1, d2] }
  | _ => none }
def BasisApartWrongFalsely : Prop := basisApartRow.holds Try.pinned (OpenSpec.ofChange basisApartWrong)

/-- 'remoralaw22.BasisWay': WHATEVER THE INPUT: true; the input reads as it did. -/
def basisWaySpec : ChangeSpec := { name := "basisWay", fn := fun _ => fun
  | [d1, d2, d3] => { results := [.lit (.bool true)], args := [d1, d2, d3] }
  | _ => none }
def basisWayRow : OpenClaim := { program := "ytbochdimjhlnmaa", sum := "441066bffc2eefd4b7d1deace857cc78599a0712cc5c14c3ee07f11f02a2980b", func := "remora/remoralaw22.BasisWay", spec := "basisWay", apart := false }
def BasisWaySaid : Prop := basisWayRow.holds Try.pinned (OpenSpec.ofChange basisWaySpec)

/-- ITS FALSE NEIGHBOUR: 'it returns false'. Refute it at one input. -/
def basisWayWrong : ChangeSpec := { name := "basisWay", fn := fun _ => fun
  | [d1, d2, d3] => { results := [.lit (.bool false)], args := [d1, d2, d3] }
  | _ => none }
def BasisWayWrongFalsely : Prop := basisWayRow.holds Try.pinned (OpenSpec.ofChange basisWayWrong)

/-- 'remoralaw22.BasisStep': WHATEVER THE INPUT: true; the input reads as it did. -/
def basisStepSpec : ChangeSpec := { name := "basisStep", fn := fun _ => fun
  | [d1, d2, d3] => { results := [.lit (.bool true)], args := [d1, d2, d3] }
  | _ => none }
def basisStepRow : OpenClaim := { program := "ytbochdimjhlnmaa", sum := "441066bffc2eefd4b7d1deace857cc78599a0712cc5c14c3ee07f11f02a2980b", func := "remora/remoralaw22.BasisStep", spec := "basisStep", apart := false }
def BasisStepSaid : Prop := basisStepRow.holds Try.pinned (OpenSpec.ofChange basisStepSpec)

/-- ITS FALSE NEIGHBOUR: 'it returns false'. Refute it at one input. -/
def basisStepWrong : ChangeSpec := { name := "basisStep", fn := fun _ => fun
  | [d1, d2, d3] => { results := [.lit (.bool false)], args := [d1, d2, d3] }
  | _ => none }
def BasisStepWrongFalsely : Prop := basisStepRow.holds Try.pinned (OpenSpec.ofChange basisStepWrong)

/-- 'remoralaw22.BasisScores': WHATEVER THE INPUT: true; the input reads as it did. -/
def basisScoresSpec : ChangeSpec := { name := "basisScores", fn := fun _ => fun
  | [d1, d2] => { results := [.lit (.bool true)], args := [d1, d2] }
  | _ => none }
def basisScoresRow : OpenClaim := { program := "ytbochdimjhlnmaa", sum := "441066bffc2eefd4b7d1deace857cc78599a0712cc5c14c3ee07f11f02a2980b", func := "remora/remoralaw22.BasisScores", spec := "basisScores", apart := false }
def BasisScoresSaid : Prop := basisScoresRow.holds Try.pinned (OpenSpec.ofChange basisScoresSpec)

/-- ITS FALSE NEIGHBOUR: 'it returns false'. Refute it at one input. -/
def basisScoresWrong : ChangeSpec := { name := "basisScores", fn := fun _ => fun
  | [d1, d2] => { results := [.lit (.bool false)], args := [d1, d2] }
  | _ => none }
def BasisScoresWrongFalsely : Prop := basisScoresRow.holds Try.pinned (OpenSpec.ofChange basisScoresWrong)

/-- 'remoralaw44.ReconSwaps': WHATEVER THE INPUT: true; the input reads as it did. -/
def reconSwapsSpec : ChangeSpec := { name := "reconSwaps", fn := fun _ => fun
  | [d1, d2] => { results := [.lit (.bool true)], args := [d1, d2] }
  | _ => none }
def reconSwapsRow : OpenClaim := { program := "ytbochdimjhlnmaa", sum := "441066bffc2eefd4b7d1deace857cc78599a0712cc5c14c3ee07f11f02a2980b", func := "remora/remoralaw44.ReconSwaps", spec := "reconSwaps", inPlace := ["internal/bytealg.IndexByteString"], unfollowed := true, recurses := true, apart := false }
def ReconSwapsSaid : Prop := reconSwapsRow.holds Try.pinned (OpenSpec.ofChange reconSwapsSpec)

/-- ITS FALSE NEIGHBOUR: 'it returns false'. Refute it at one input. -/
def reconSwapsWrong : ChangeSpec := { name := "reconSwaps", fn := fun _ => fun
  | [d1, d2] => { results := [.lit (.bool false)], args := [d1, d2] }
  | _ => none }
def ReconSwapsWrongFalsely : Prop := reconSwapsRow.holds Try.pinned (OpenSpec.ofChange reconSwapsWrong)

/-- 'remoralaw44.ReconPlans': WHATEVER THE INPUT: true; the input reads as it did. -/
def reconPlansSpec : ChangeSpec := { name := "reconPlans", fn := fun _ => fun
  | [d1, d2] => { results := [.lit (.bool true)], args := [d1, d2] }
  | _ => none }
def reconPlansRow : OpenClaim := { program := "ytbochdimjhlnmaa", sum := "441066bffc2eefd4b7d1deace857cc78599a0712cc5c14c3ee07f11f02a2980b", func := "remora/remoralaw44.ReconPlans", spec := "reconPlans", inPlace := ["internal/bytealg.IndexByteString"], unfollowed := true, recurses := true, apart := false }
def ReconPlansSaid : Prop := reconPlansRow.holds Try.pinned (OpenSpec.ofChange reconPlansSpec)

/-- ITS FALSE NEIGHBOUR: 'it returns false'. Refute it at one input. -/
def reconPlansWrong : ChangeSpec := { name := "reconPlans", fn := fun _ => fun
  | [d1, d2] => { results := [.lit (.bool false)], args := [d1, d2] }
  | _ => none }
def ReconPlansWrongFalsely : Prop := reconPlansRow.holds Try.pinned (OpenSpec.ofChange reconPlansWrong)

/- THE SECOND FORM. 'bulk': how many values and letters a reading holds, each counted each time it is reached (what is shared counts as often as it is met; a slice's spare places count too). A statement '..UptoSaid' is the law's where the arguments, and the package variables that the reading takes, are together of bulk at most 1048576: NARROWER than '..Said'. Prove '..Said' where nothing that the law and all that it calls make is longer than what came in: it says more and counts as full. Else prove '..UptoSaid'. A law counts once. -/
mutual
def uptoBulk {H : Type} : DataW H → Nat
  | .lit (.string bytes) => bytes.length + 1
  | .lit _ => 1
  | .nil => 1
  | .ptr d => uptoBulk d + 1
  | .slice elems spare => uptoBulkAll elems + uptoBulkAll spare + 1
  | .agg parts => uptoBulkAll parts + 1
  | .iface _ d => uptoBulk d + 1
  | .map entries => uptoBulkEntries entries + 1
  | .held _ => 1
def uptoBulkAll {H : Type} : List (DataW H) → Nat
  | [] => 0
  | d :: r => uptoBulk d + uptoBulkAll r
def uptoBulkEntries {H : Type} : List (Lit × DataW H) → Nat
  | [] => 0
  | x :: r => uptoBulkEntry x + uptoBulkEntries r
def uptoBulkEntry {H : Type} : Lit × DataW H → Nat
  | (.string bytes, d) => bytes.length + uptoBulk d + 1
  | (_, d) => uptoBulk d + 1
 end
def uptoSmall : (H : Type) → List (DataW H) → Bool := fun _ ds => decide (uptoBulkAll ds ≤ 1048576)
def OpenSpec.upto (s : _root_.Go.ChangeSpec) : _root_.Go.OpenSpec := { _root_.Go.OpenSpec.ofChange s with cond := some uptoSmall }

/-- 'remoralaw22.BasisApart', WHERE WHAT IT READS IS OF BULK AT MOST 1048576: true; the input reads as it did. -/
def basisApartUptoRow : OpenClaim := { program := "ytbochdimjhlnmaa", sum := "441066bffc2eefd4b7d1deace857cc78599a0712cc5c14c3ee07f11f02a2980b", func := "remora/remoralaw22.BasisApart", spec := "basisApart", apart := false, narrowed := true }
def BasisApartUptoSaid : Prop := basisApartUptoRow.holds Try.pinned (OpenSpec.upto basisApartSpec)

/-- 'remoralaw22.BasisWay', WHERE WHAT IT READS IS OF BULK AT MOST 1048576: true; the input reads as it did. -/
def basisWayUptoRow : OpenClaim := { program := "ytbochdimjhlnmaa", sum := "441066bffc2eefd4b7d1deace857cc78599a0712cc5c14c3ee07f11f02a2980b", func := "remora/remoralaw22.BasisWay", spec := "basisWay", apart := false, narrowed := true }
def BasisWayUptoSaid : Prop := basisWayUptoRow.holds Try.pinned (OpenSpec.upto basisWaySpec)

/-- 'remoralaw22.BasisStep', WHERE WHAT IT READS IS OF BULK AT MOST 1048576: true; the input reads as it did. -/
def basisStepUptoRow : OpenClaim := { program := "ytbochdimjhlnmaa", sum := "441066bffc2eefd4b7d1deace857cc78599a0712cc5c14c3ee07f11f02a2980b", func := "remora/remoralaw22.BasisStep", spec := "basisStep", apart := false, narrowed := true }
def BasisStepUptoSaid : Prop := basisStepUptoRow.holds Try.pinned (OpenSpec.upto basisStepSpec)

/-- 'remoralaw22.BasisScores', WHERE WHAT IT READS IS OF BULK AT MOST 1048576: true; the input reads as it did. -/
def basisScoresUptoRow : OpenClaim := { program := "ytbochdimjhlnmaa", sum := "441066bffc2eefd4b7d1deace857cc78599a0712cc5c14c3ee07f11f02a2980b", func := "remora/remoralaw22.BasisScores", spec := "basisScores", apart := false, narrowed := true }
def BasisScoresUptoSaid : Prop := basisScoresUptoRow.holds Try.pinned (OpenSpec.upto basisScoresSpec)

/-- 'remoralaw44.ReconSwaps', WHERE WHAT IT READS IS OF BULK AT MOST 1048576: true; the input reads as it did. -/
def reconSwapsUptoRow : OpenClaim := { program := "ytbochdimjhlnmaa", sum := "441066bffc2eefd4b7d1deace857cc78599a0712cc5c14c3ee07f11f02a2980b", func := "remora/remoralaw44.ReconSwaps", spec := "reconSwaps", inPlace := ["internal/bytealg.IndexByteString"], unfollowed := true, recurses := true, apart := false, narrowed := true }
def ReconSwapsUptoSaid : Prop := reconSwapsUptoRow.holds Try.pinned (OpenSpec.upto reconSwapsSpec)

/-- 'remoralaw44.ReconPlans', WHERE WHAT IT READS IS OF BULK AT MOST 1048576: true; the input reads as it did. -/
def reconPlansUptoRow : OpenClaim := { program := "ytbochdimjhlnmaa", sum := "441066bffc2eefd4b7d1deace857cc78599a0712cc5c14c3ee07f11f02a2980b", func := "remora/remoralaw44.ReconPlans", spec := "reconPlans", inPlace := ["internal/bytealg.IndexByteString"], unfollowed := true, recurses := true, apart := false, narrowed := true }
def ReconPlansUptoSaid : Prop := reconPlansUptoRow.holds Try.pinned (OpenSpec.upto reconPlansSpec)

end Rows
end Go.Proofs.Ytbochdimjhlnmaa
