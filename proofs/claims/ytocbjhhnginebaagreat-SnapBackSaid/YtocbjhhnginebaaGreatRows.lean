/-
  No cell of these rows narrows 'for every input' (looked for: loops, veiled, ifaces, maps, wideKeys, modest, calm, conditions, laid).
  DERIVED. THE GIVEN ROWS OF THIS SEAT. 5 by the template 'for every input the law returns true; each argument reads behind the call as it read before'; 0 by the template 'total and deterministic' (their statements: YtocbjhhnginebaaGreatTotals.lean).
  GIVEN WITH THE SEED: the statements are not yours to turn. If you find one false, say at which input.
  Laid BY PROGRAM, IN A SANDBOX (cutbox-rows.mjs): the forced cells as the released guide's own fill.sh prints them over the translation cdc1935d5a0ec9ed… (all of the seat's roots in one cut). By AI agents, Wed Nov 11 2026. No macro, syntax, notation, axiom, sorry.
-/
import Derived.Test.YtocbjhhnginebaaGreatChecked
import GoSem.Claim
import GoSem.ClaimJoined
import GoSem.ClaimMapViews
import Derived.JoinedTies
import Derived.KernelRfl
namespace Go.Proofs.YtocbjhhnginebaaGreat
/- THE CELL 'sum', in the pinned program and in every row, IS THE sha256 OF THE DUMP (.gsa) THAT YtocbjhhnginebaaGreatProg.lean LOADS. Nothing in Lean hashes anything: it is a label: what it is worth is what the hold of that sum in a sandbox is worth. -/
noncomputable def Tryz.pinned : Pinned := { name := "ytocbjhhnginebaagreat", sum := "cdc1935d5a0ec9ed1a5fab5c179a471c625ca718ea32a811535b8d118897fd5c", checked := Tryz.checked }
namespace Rows
def none {H : Type} : Left H := { results := [], args := [] }

/-- 'remoralaw42.SnapBack': WHATEVER THE INPUT: true; the input reads as it did. -/
def snapBackSpec : ChangeSpec := { name := "snapBack", fn := fun _ => fun
  | [d1, d2, d3, d4] => { results := [.lit (.bool true)], args := [d1, d2, d3, d4] }
  | _ => none }
def snapBackRow : OpenClaim := { program := "ytocbjhhnginebaagreat", sum := "cdc1935d5a0ec9ed1a5fab5c179a471c625ca718ea32a811535b8d118897fd5c", func := "remora/remoralaw42.SnapBack", spec := "snapBack", inPlace := ["internal/bytealg.IndexByteString"], unfollowed := true, recurses := true, apart := false }
def SnapBackSaid : Prop := snapBackRow.holds Tryz.pinned (OpenSpec.ofChange snapBackSpec)

/-- ITS FALSE NEIGHBOUR: 'it returns false'. Refute it at one input. -/
def snapBackWrong : ChangeSpec := { name := "snapBack", fn := fun _ => fun
  | [d1, d2, d3, d4] => { results := [.lit (.bool false)], args := [d1, d2, d3, d4] }
  | _ => none }
def SnapBackWrongFalsely : Prop := snapBackRow.holds Tryz.pinned (OpenSpec.ofChange snapBackWrong)

/-- 'remoralaw42.SnapTwice': WHATEVER THE INPUT: true; the input reads as it did. -/
def snapTwiceSpec : ChangeSpec := { name := "snapTwice", fn := fun _ => fun
  | [d1, d2, d3, d4] => { results := [.lit (.bool true)], args := [d1, d2, d3, d4] }
  | _ => none }
def snapTwiceRow : OpenClaim := { program := "ytocbjhhnginebaagreat", sum := "cdc1935d5a0ec9ed1a5fab5c179a471c625ca718ea32a811535b8d118897fd5c", func := "remora/remoralaw42.SnapTwice", spec := "snapTwice", inPlace := ["internal/bytealg.IndexByteString"], unfollowed := true, recurses := true, apart := false }
def SnapTwiceSaid : Prop := snapTwiceRow.holds Tryz.pinned (OpenSpec.ofChange snapTwiceSpec)

/-- ITS FALSE NEIGHBOUR: 'it returns false'. Refute it at one input. -/
def snapTwiceWrong : ChangeSpec := { name := "snapTwice", fn := fun _ => fun
  | [d1, d2, d3, d4] => { results := [.lit (.bool false)], args := [d1, d2, d3, d4] }
  | _ => none }
def SnapTwiceWrongFalsely : Prop := snapTwiceRow.holds Tryz.pinned (OpenSpec.ofChange snapTwiceWrong)

/-- 'remoralaw42.SnapOrder': WHATEVER THE INPUT: true; the input reads as it did. -/
def snapOrderSpec : ChangeSpec := { name := "snapOrder", fn := fun _ => fun
  | [d1, d2] => { results := [.lit (.bool true)], args := [d1, d2] }
  | _ => none }
def snapOrderRow : OpenClaim := { program := "ytocbjhhnginebaagreat", sum := "cdc1935d5a0ec9ed1a5fab5c179a471c625ca718ea32a811535b8d118897fd5c", func := "remora/remoralaw42.SnapOrder", spec := "snapOrder", inPlace := ["internal/bytealg.IndexByteString"], unfollowed := true, recurses := true, apart := false }
def SnapOrderSaid : Prop := snapOrderRow.holds Tryz.pinned (OpenSpec.ofChange snapOrderSpec)

/-- ITS FALSE NEIGHBOUR: 'it returns false'. Refute it at one input. -/
def snapOrderWrong : ChangeSpec := { name := "snapOrder", fn := fun _ => fun
  | [d1, d2] => { results := [.lit (.bool false)], args := [d1, d2] }
  | _ => none }
def SnapOrderWrongFalsely : Prop := snapOrderRow.holds Tryz.pinned (OpenSpec.ofChange snapOrderWrong)

/-- 'remoralaw42.SnapPrunes': WHATEVER THE INPUT: true; the input reads as it did. -/
def snapPrunesSpec : ChangeSpec := { name := "snapPrunes", fn := fun _ => fun
  | [d1, d2, d3, d4] => { results := [.lit (.bool true)], args := [d1, d2, d3, d4] }
  | _ => none }
def snapPrunesRow : OpenClaim := { program := "ytocbjhhnginebaagreat", sum := "cdc1935d5a0ec9ed1a5fab5c179a471c625ca718ea32a811535b8d118897fd5c", func := "remora/remoralaw42.SnapPrunes", spec := "snapPrunes", inPlace := ["internal/bytealg.IndexByteString"], unfollowed := true, recurses := true, apart := false }
def SnapPrunesSaid : Prop := snapPrunesRow.holds Tryz.pinned (OpenSpec.ofChange snapPrunesSpec)

/-- ITS FALSE NEIGHBOUR: 'it returns false'. Refute it at one input. -/
def snapPrunesWrong : ChangeSpec := { name := "snapPrunes", fn := fun _ => fun
  | [d1, d2, d3, d4] => { results := [.lit (.bool false)], args := [d1, d2, d3, d4] }
  | _ => none }
def SnapPrunesWrongFalsely : Prop := snapPrunesRow.holds Tryz.pinned (OpenSpec.ofChange snapPrunesWrong)

/-- 'remoralaw42.SnapPlays': WHATEVER THE INPUT: true; the input reads as it did. -/
def snapPlaysSpec : ChangeSpec := { name := "snapPlays", fn := fun _ => fun
  | [d1, d2] => { results := [.lit (.bool true)], args := [d1, d2] }
  | _ => none }
def snapPlaysRow : OpenClaim := { program := "ytocbjhhnginebaagreat", sum := "cdc1935d5a0ec9ed1a5fab5c179a471c625ca718ea32a811535b8d118897fd5c", func := "remora/remoralaw42.SnapPlays", spec := "snapPlays", inPlace := ["internal/bytealg.IndexByteString"], unfollowed := true, recurses := true, apart := false }
def SnapPlaysSaid : Prop := snapPlaysRow.holds Tryz.pinned (OpenSpec.ofChange snapPlaysSpec)

/-- ITS FALSE NEIGHBOUR: 'it returns false'. Refute it at one input. -/
def snapPlaysWrong : ChangeSpec := { name := "snapPlays", fn := fun _ => fun
  | [d1, d2] => { results := [.lit (.bool false)], args := [d1, d2] }
  | _ => none }
def SnapPlaysWrongFalsely : Prop := snapPlaysRow.holds Tryz.pinned (OpenSpec.ofChange snapPlaysWrong)

/- THE SECOND FORM. 'bulk': how many values and letters a reading holds, each counted each time it is reached (what is shared counts as often as it is met; a slice's spare places count too). A statement '..UptoSaid' is the law's where the arguments, and the package variables that the reading takes, are together of bulk at most 1048576: NARROWER than '..Said'. Prove '..Said' where nothing that the law and all that it calls make is longer than what came in: it says more and counts as full. Else prove '..UptoSaid'. A law counts once. -/
mutual
def uptoBulk {H : Type} : DataW H → Nat
  | .lit (.string bytes) => bytes.length + 1
  | .lit _ => 1
  | .nil => 1
  | .ptr d => uptoBulk d + 1
  | .slice elems spare => uptoBulkAll elems + uptoBulkAll spare + 1
  | .agg parts => uptoBulkAll parts + 1
  | .iface _ d => uptoBulk d + 1
  | .map entries => uptoBulkEntries entries + 1
  | .held _ => 1
def uptoBulkAll {H : Type} : List (DataW H) → Nat
  | [] => 0
  | d :: r => uptoBulk d + uptoBulkAll r
def uptoBulkEntries {H : Type} : List (Lit × DataW H) → Nat
  | [] => 0
  | x :: r => uptoBulkEntry x + uptoBulkEntries r
def uptoBulkEntry {H : Type} : Lit × DataW H → Nat
  | (.string bytes, d) => bytes.length + uptoBulk d + 1
  | (_, d) => uptoBulk d + 1
 end
def uptoSmall : (H : Type) → List (DataW H) → Bool := fun _ ds => decide (uptoBulkAll ds ≤ 1048576)
def OpenSpec.upto (s : _root_.Go.ChangeSpec) : _root_.Go.OpenSpec := { _root_.Go.OpenSpec.ofChange s with cond := some uptoSmall }

/-- 'remoralaw42.SnapBack', WHERE WHAT IT READS IS OF BULK AT MOST 1048576: true; the input reads as it did. -/
def snapBackUptoRow : OpenClaim := { program := "ytocbjhhnginebaagreat", sum := "cdc1935d5a0ec9ed1a5fab5c179a471c625ca718ea32a811535b8d118897fd5c", func := "remora/remoralaw42.SnapBack", spec := "snapBack", inPlace := ["internal/bytealg.IndexByteString"], unfollowed := true, recurses := true, apart := false, narrowed := true }
def SnapBackUptoSaid : Prop := snapBackUptoRow.holds Tryz.pinned (OpenSpec.upto snapBackSpec)

/-- 'remoralaw42.SnapTwice', WHERE WHAT IT READS IS OF BULK AT MOST 1048576: true; the input reads as it did. -/
def snapTwiceUptoRow : OpenClaim := { program := "ytocbjhhnginebaagreat", sum := "cdc1935d5a0ec9ed1a5fab5c179a471c625ca718ea32a811535b8d118897fd5c", func := "remora/remoralaw42.SnapTwice", spec := "snapTwice", inPlace := ["internal/bytealg.IndexByteString"], unfollowed := true, recurses := true, apart := false, narrowed := true }
def SnapTwiceUptoSaid : Prop := snapTwiceUptoRow.holds Tryz.pinned (OpenSpec.upto snapTwiceSpec)

/-- 'remoralaw42.SnapOrder', WHERE WHAT IT READS IS OF BULK AT MOST 1048576: true; the input reads as it did. -/
def snapOrderUptoRow : OpenClaim := { program := "ytocbjhhnginebaagreat", sum := "cdc1935d5a0ec9ed1a5fab5c179a471c625ca718ea32a811535b8d118897fd5c", func := "remora/remoralaw42.SnapOrder", spec := "snapOrder", inPlace := ["internal/bytealg.IndexByteString"], unfollowed := true, recurses := true, apart := false, narrowed := true }
def SnapOrderUptoSaid : Prop := snapOrderUptoRow.holds Tryz.pinned (OpenSpec.upto snapOrderSpec)

/-- 'remoralaw42.SnapPrunes', WHERE WHAT IT READS IS OF BULK AT MOST 1048576: true; the input reads as it did. -/
def snapPrunesUptoRow : OpenClaim := { program := "ytocbjhhnginebaagreat", sum := "cdc1935d5a0ec9ed1a5fab5c179a471c625ca718ea32a811535b8d118897fd5c", func := "remora/remoralaw42.SnapPrunes", spec := "snapPrunes", inPlace := ["internal/bytealg.IndexByteString"], unfollowed := true, recurses := true, apart := false, narrowed := true }
def SnapPrunesUptoSaid : Prop := snapPrunesUptoRow.holds Tryz.pinned (OpenSpec.upto snapPrunesSpec)

/-- 'remoralaw42.SnapPlays', WHERE WHAT IT READS IS OF BULK AT MOST 1048576: true; the input reads as it did. -/
def snapPlaysUptoRow : OpenClaim := { program := "ytocbjhhnginebaagreat", sum := "cdc1935d5a0ec9ed1a5fab5c179a471c625ca718ea32a811535b8d118897fd5c", func := "remora/remoralaw42.SnapPlays", spec := "snapPlays", inPlace := ["internal/bytealg.IndexByteString"], unfollowed := true, recurses := true, apart := false, narrowed := true }
def SnapPlaysUptoSaid : Prop := snapPlaysUptoRow.holds Tryz.pinned (OpenSpec.upto snapPlaysSpec)

end Rows
end Go.Proofs.YtocbjhhnginebaaGreat
