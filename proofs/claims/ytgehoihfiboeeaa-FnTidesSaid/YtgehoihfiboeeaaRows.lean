/-
  No cell of these rows narrows 'for every input' (looked for: loops, veiled, ifaces, maps, wideKeys, modest, calm, conditions, laid).
  DERIVED. THE GIVEN ROWS OF THIS SEAT. 3 by the template 'for every input the law returns true; each argument reads behind the call as it read before'; 0 by the template 'total and deterministic' (their statements: YtgehoihfiboeeaaTotals.lean).
  GIVEN WITH THE SEED: the statements are not yours to turn. If you find one false, say at which input.
  Laid BY PROGRAM, IN A SANDBOX (cutbox-rows.mjs): the forced cells as the released guide's own fill.sh prints them over the translation 3b81a8b5c70a6d96… (all of the seat's roots in one cut). By AI agents, Wed Nov 11 2026. No macro, syntax, notation, axiom, sorry.
-/
import Derived.Test.YtgehoihfiboeeaaChecked
import GoSem.Claim
import GoSem.ClaimJoined
import GoSem.ClaimMapViews
import Derived.JoinedTies
import Derived.KernelRfl
namespace Go.Proofs.Ytgehoihfiboeeaa
/- THE CELL 'sum', in the pinned program and in every row, IS THE sha256 OF THE DUMP (.gsa) THAT YtgehoihfiboeeaaProg.lean LOADS. Nothing in Lean hashes anything: it is a label: what it is worth is what the hold of that sum in a sandbox is worth. -/
noncomputable def Try.pinned : Pinned := { name := "ytgehoihfiboeeaa", sum := "3b81a8b5c70a6d96a2904bbdc48412e028e890b3047a7b44a909774d62d86b6f", checked := Try.checked }
namespace Rows
def none {H : Type} : Left H := { results := [], args := [] }

/-- 'laws.FnStrengths': WHATEVER THE INPUT: true; the input reads as it did. -/
def fnStrengthsSpec : ChangeSpec := { name := "fnStrengths", fn := fun _ => fun
  | [d] => { results := [.lit (.bool true)], args := [d] }
  | _ => none }
def fnStrengthsRow : OpenClaim := { program := "ytgehoihfiboeeaa", sum := "3b81a8b5c70a6d96a2904bbdc48412e028e890b3047a7b44a909774d62d86b6f", func := "loop.example/g01019/laws.FnStrengths", spec := "fnStrengths", apart := false }
def FnStrengthsSaid : Prop := fnStrengthsRow.holds Try.pinned (OpenSpec.ofChange fnStrengthsSpec)

/-- ITS FALSE NEIGHBOUR: 'it returns false'. Refute it at one input. -/
def fnStrengthsWrong : ChangeSpec := { name := "fnStrengths", fn := fun _ => fun
  | [d] => { results := [.lit (.bool false)], args := [d] }
  | _ => none }
def FnStrengthsWrongFalsely : Prop := fnStrengthsRow.holds Try.pinned (OpenSpec.ofChange fnStrengthsWrong)

/-- 'laws.FnTides': WHATEVER THE INPUT: true; the input reads as it did. -/
def fnTidesSpec : ChangeSpec := { name := "fnTides", fn := fun _ => fun
  | [d] => { results := [.lit (.bool true)], args := [d] }
  | _ => none }
def fnTidesRow : OpenClaim := { program := "ytgehoihfiboeeaa", sum := "3b81a8b5c70a6d96a2904bbdc48412e028e890b3047a7b44a909774d62d86b6f", func := "loop.example/g01019/laws.FnTides", spec := "fnTides", unfollowed := true, recurses := true, apart := false }
def FnTidesSaid : Prop := fnTidesRow.holds Try.pinned (OpenSpec.ofChange fnTidesSpec)

/-- ITS FALSE NEIGHBOUR: 'it returns false'. Refute it at one input. -/
def fnTidesWrong : ChangeSpec := { name := "fnTides", fn := fun _ => fun
  | [d] => { results := [.lit (.bool false)], args := [d] }
  | _ => none }
def FnTidesWrongFalsely : Prop := fnTidesRow.holds Try.pinned (OpenSpec.ofChange fnTidesWrong)

/-- 'laws.FnHeights': WHATEVER THE INPUT: true; the input reads as it did. -/
def fnHeightsSpec : ChangeSpec := { name := "fnHeights", fn := fun _ => fun
  | [d] => { results := [.lit (.bool true)], args := [d] }
  | _ => none }
def fnHeightsRow : OpenClaim := { program := "ytgehoihfiboeeaa", sum := "3b81a8b5c70a6d96a2904bbdc48412e028e890b3047a7b44a909774d62d86b6f", func := "loop.example/g01019/laws.FnHeights", spec := "fnHeights", apart := false }
def FnHeightsSaid : Prop := fnHeightsRow.holds Try.pinned (OpenSpec.ofChange fnHeightsSpec)

/-- ITS FALSE NEIGHBOUR: 'it returns false'. Refute it at one input. -/
def fnHeightsWrong : ChangeSpec := { name := "fnHeights", fn := fun _ => fun
  | [d] => { results := [.lit (.bool false)], args := [d] }
  | _ => none }
def FnHeightsWrongFalsely : Prop := fnHeightsRow.holds Try.pinned (OpenSpec.ofChange fnHeightsWrong)

/- THE SECOND FORM. 'bulk': how many values and letters a reading holds, each counted each time it is reached (what is shared counts as often as it is met; a slice's spare places count too). A statement '..UptoSaid' is the law's where the arguments, and the package variables that the reading takes, are together of bulk at most 1048576: NARROWER than '..Said'. Prove '..Said' where nothing that the law and all that it calls make is longer than what came in: it says more and counts as full. Else prove '..UptoSaid'. A law counts once. -/
mutual
def uptoBulk {H : Type} : DataW H → Nat
  | .lit (.string bytes) => bytes.length + 1
  | .lit _ => 1
  | .nil => 1
  | .ptr d => uptoBulk d + 1
  | .slice elems spare => uptoBulkAll elems + uptoBulkAll spare + 1
  | .agg parts => uptoBulkAll parts + 1
  | .iface _ d => uptoBulk d + 1
  | .map entries => uptoBulkEntries entries + 1
  | .held _ => 1
def uptoBulkAll {H : Type} : List (DataW H) → Nat
  | [] => 0
  | d :: r => uptoBulk d + uptoBulkAll r
def uptoBulkEntries {H : Type} : List (Lit × DataW H) → Nat
  | [] => 0
  | x :: r => uptoBulkEntry x + uptoBulkEntries r
def uptoBulkEntry {H : Type} : Lit × DataW H → Nat
  | (.string bytes, d) => bytes.length + uptoBulk d + 1
  | (_, d) => uptoBulk d + 1
 end
def uptoSmall : (H : Type) → List (DataW H) → Bool := fun _ ds => decide (uptoBulkAll ds ≤ 1048576)
def OpenSpec.upto (s : _root_.Go.ChangeSpec) : _root_.Go.OpenSpec := { _root_.Go.OpenSpec.ofChange s with cond := some uptoSmall }

/-- 'laws.FnStrengths', WHERE WHAT IT READS IS OF BULK AT MOST 1048576: true; the input reads as it did. -/
def fnStrengthsUptoRow : OpenClaim := { program := "ytgehoihfiboeeaa", sum := "3b81a8b5c70a6d96a2904bbdc48412e028e890b3047a7b44a909774d62d86b6f", func := "loop.example/g01019/laws.FnStrengths", spec := "fnStrengths", apart := false, narrowed := true }
def FnStrengthsUptoSaid : Prop := fnStrengthsUptoRow.holds Try.pinned (OpenSpec.upto fnStrengthsSpec)

/-- 'laws.FnTides', WHERE WHAT IT READS IS OF BULK AT MOST 1048576: true; the input reads as it did. -/
def fnTidesUptoRow : OpenClaim := { program := "ytgehoihfiboeeaa", sum := "3b81a8b5c70a6d96a2904bbdc48412e028e890b3047a7b44a909774d62d86b6f", func := "loop.example/g01019/laws.FnTides", spec := "fnTides", unfollowed := true, recurses := true, apart := false, narrowed := true }
def FnTidesUptoSaid : Prop := fnTidesUptoRow.holds Try.pinned (OpenSpec.upto fnTidesSpec)

/-- 'laws.FnHeights', WHERE WHAT IT READS IS OF BULK AT MOST 1048576: true; the input reads as it did. -/
def fnHeightsUptoRow : OpenClaim := { program := "ytgehoihfiboeeaa", sum := "3b81a8b5c70a6d96a2904bbdc48412e028e890b3047a7b44a909774d62d86b6f", func := "loop.example/g01019/laws.FnHeights", spec := "fnHeights", apart := false, narrowed := true }
def FnHeightsUptoSaid : Prop := fnHeightsUptoRow.holds Try.pinned (OpenSpec.upto fnHeightsSpec)

end Rows
end Go.Proofs.Ytgehoihfiboeeaa
