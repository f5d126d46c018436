/-
  No cell of these rows narrows 'for every input' (looked for: loops, veiled, ifaces, maps, wideKeys, modest, calm, conditions, laid).
  DERIVED. THE GIVEN ROWS OF THIS SEAT. 12 by the template 'for every input the law returns true; each argument reads behind the call as it read before'; 0 by the template 'total and deterministic' (their statements: YtkgnfmdeimaedaaTotals.lean).
  GIVEN WITH THE SEED: the statements are not yours to turn. If you find one false, say at which input.
  Laid BY PROGRAM, IN A SANDBOX (cutbox-rows.mjs): the forced cells as the released guide's own fill.sh prints them over the translation 890b8b3f98d129f8… (all of the seat's roots in one cut). By AI agents, Wed Nov 11 2026. No macro, syntax, notation, axiom, sorry.
-/
import Derived.Test.YtkgnfmdeimaedaaChecked
import GoSem.Claim
import GoSem.ClaimJoined
import GoSem.ClaimMapViews
import Derived.JoinedTies
import Derived.KernelRfl
namespace Go.Proofs.Ytkgnfmdeimaedaa
/- THE CELL 'sum', in the pinned program and in every row, IS THE sha256 OF THE DUMP (.gsa) THAT YtkgnfmdeimaedaaProg.lean LOADS. Nothing in Lean hashes anything: it is a label: what it is worth is what the hold of that sum in a sandbox is worth. -/
noncomputable def Try.pinned : Pinned := { name := "ytkgnfmdeimaedaa", sum := "890b8b3f98d129f8b9777f860993f811650b60287a3c53851423a2b79faf0b09", checked := Try.checked }
namespace Rows
def none {H : Type} : Left H := { results := [], args := [] }

/-- 'laws.FnExactArePonds': WHATEVER THE INPUT: true; the input reads as it did. -/
def fnExactArePondsSpec : ChangeSpec := { name := "fnExactArePonds", fn := fun _ => fun
  | [d] => { results := [.lit (.bool true)], args := [d] }
  | _ => none }
def fnExactArePondsRow : OpenClaim := { program := "ytkgnfmdeimaedaa", sum := "890b8b3f98d129f8b9777f860993f811650b60287a3c53851423a2b79faf0b09", func := "loop.example/g01019/laws.FnExactArePonds", spec := "fnExactArePonds", apart := false }
def FnExactArePondsSaid : Prop := fnExactArePondsRow.holds Try.pinned (OpenSpec.ofChange fnExactArePondsSpec)

/-- ITS FALSE NEIGHBOUR: 'it returns false'. Refute it at one input. -/
def fnExactArePondsWrong : ChangeSpec := { name := "fnExactArePonds", fn := fun _ => fun
  | [d] => { results := [.lit (.bool false)], args := [d] }
  | _ => none }
def FnExactArePondsWrongFalsely : Prop := fnExactArePondsRow.holds Try.pinned (OpenSpec.ofChange fnExactArePondsWrong)

/-- 'laws.FnExactFreeCells': WHATEVER THE INPUT: true; the input reads as it did. -/
def fnExactFreeCellsSpec : ChangeSpec := { name := "fnExactFreeCells", fn := fun _ => fun
  | [d] => { results := [.lit (.bool true)], args := [d] }
  | _ => none }
def fnExactFreeCellsRow : OpenClaim := { program := "ytkgnfmdeimaedaa", sum := "890b8b3f98d129f8b9777f860993f811650b60287a3c53851423a2b79faf0b09", func := "loop.example/g01019/laws.FnExactFreeCells", spec := "fnExactFreeCells", apart := false }
def FnExactFreeCellsSaid : Prop := fnExactFreeCellsRow.holds Try.pinned (OpenSpec.ofChange fnExactFreeCellsSpec)

/-- ITS FALSE NEIGHBOUR: 'it returns false'. Refute it at one input. -/
def fnExactFreeCellsWrong : ChangeSpec := { name := "fnExactFreeCells", fn := fun _ => fun
  | [d] => { results := [.lit (.bool false)], args := [d] }
  | _ => none }
def FnExactFreeCellsWrongFalsely : Prop := fnExactFreeCellsRow.holds Try.pinned (OpenSpec.ofChange fnExactFreeCellsWrong)

/-- 'laws.FnExactPondAt': WHATEVER THE INPUT: true; the input reads as it did. -/
def fnExactPondAtSpec : ChangeSpec := { name := "fnExactPondAt", fn := fun _ => fun
  | [d1, d2, d3] => { results := [.lit (.bool true)], args := [d1, d2, d3] }
  | _ => none }
def fnExactPondAtRow : OpenClaim := { program := "ytkgnfmdeimaedaa", sum := "890b8b3f98d129f8b9777f860993f811650b60287a3c53851423a2b79faf0b09", func := "loop.example/g01019/laws.FnExactPondAt", spec := "fnExactPondAt", apart := false }
def FnExactPondAtSaid : Prop := fnExactPondAtRow.holds Try.pinned (OpenSpec.ofChange fnExactPondAtSpec)

/-- ITS FALSE NEIGHBOUR: 'it returns false'. Refute it at one input. -/
def fnExactPondAtWrong : ChangeSpec := { name := "fnExactPondAt", fn := fun _ => fun
  | [d1, d2, d3] => { results := [.lit (.bool false)], args := [d1, d2, d3] }
  | _ => none }
def FnExactPondAtWrongFalsely : Prop := fnExactPondAtRow.holds Try.pinned (OpenSpec.ofChange fnExactPondAtWrong)

/-- 'laws.FnExactHoldsCubic': WHATEVER THE INPUT: true; the input reads as it did. -/
def fnExactHoldsCubicSpec : ChangeSpec := { name := "fnExactHoldsCubic", fn := fun _ => fun
  | [d1, d2] => { results := [.lit (.bool true)], args := [d1, d2] }
  | _ => none }
def fnExactHoldsCubicRow : OpenClaim := { program := "ytkgnfmdeimaedaa", sum := "890b8b3f98d129f8b9777f860993f811650b60287a3c53851423a2b79faf0b09", func := "loop.example/g01019/laws.FnExactHoldsCubic", spec := "fnExactHoldsCubic", unfollowed := true, recurses := true, apart := false }
def FnExactHoldsCubicSaid : Prop := fnExactHoldsCubicRow.holds Try.pinned (OpenSpec.ofChange fnExactHoldsCubicSpec)

/-- ITS FALSE NEIGHBOUR: 'it returns false'. Refute it at one input. -/
def fnExactHoldsCubicWrong : ChangeSpec := { name := "fnExactHoldsCubic", fn := fun _ => fun
  | [d1, d2] => { results := [.lit (.bool false)], args := [d1, d2] }
  | _ => none }
def FnExactHoldsCubicWrongFalsely : Prop := fnExactHoldsCubicRow.holds Try.pinned (OpenSpec.ofChange fnExactHoldsCubicWrong)

/-- 'laws.FnExactBankOf': WHATEVER THE INPUT: true; the input reads as it did. -/
def fnExactBankOfSpec : ChangeSpec := { name := "fnExactBankOf", fn := fun _ => fun
  | [d1, d2, d3] => { results := [.lit (.bool true)], args := [d1, d2, d3] }
  | _ => none }
def fnExactBankOfRow : OpenClaim := { program := "ytkgnfmdeimaedaa", sum := "890b8b3f98d129f8b9777f860993f811650b60287a3c53851423a2b79faf0b09", func := "loop.example/g01019/laws.FnExactBankOf", spec := "fnExactBankOf", unfollowed := true, recurses := true, apart := false }
def FnExactBankOfSaid : Prop := fnExactBankOfRow.holds Try.pinned (OpenSpec.ofChange fnExactBankOfSpec)

/-- ITS FALSE NEIGHBOUR: 'it returns false'. Refute it at one input. -/
def fnExactBankOfWrong : ChangeSpec := { name := "fnExactBankOf", fn := fun _ => fun
  | [d1, d2, d3] => { results := [.lit (.bool false)], args := [d1, d2, d3] }
  | _ => none }
def FnExactBankOfWrongFalsely : Prop := fnExactBankOfRow.holds Try.pinned (OpenSpec.ofChange fnExactBankOfWrong)

/-- 'laws.FnExactOuterBank': WHATEVER THE INPUT: true; the input reads as it did. -/
def fnExactOuterBankSpec : ChangeSpec := { name := "fnExactOuterBank", fn := fun _ => fun
  | [d1, d2] => { results := [.lit (.bool true)], args := [d1, d2] }
  | _ => none }
def fnExactOuterBankRow : OpenClaim := { program := "ytkgnfmdeimaedaa", sum := "890b8b3f98d129f8b9777f860993f811650b60287a3c53851423a2b79faf0b09", func := "loop.example/g01019/laws.FnExactOuterBank", spec := "fnExactOuterBank", unfollowed := true, recurses := true, apart := false }
def FnExactOuterBankSaid : Prop := fnExactOuterBankRow.holds Try.pinned (OpenSpec.ofChange fnExactOuterBankSpec)

/-- ITS FALSE NEIGHBOUR: 'it returns false'. Refute it at one input. -/
def fnExactOuterBankWrong : ChangeSpec := { name := "fnExactOuterBank", fn := fun _ => fun
  | [d1, d2] => { results := [.lit (.bool false)], args := [d1, d2] }
  | _ => none }
def FnExactOuterBankWrongFalsely : Prop := fnExactOuterBankRow.holds Try.pinned (OpenSpec.ofChange fnExactOuterBankWrong)

/-- 'laws.FnExactNeighborsOf': WHATEVER THE INPUT: true; the input reads as it did. -/
def fnExactNeighborsOfSpec : ChangeSpec := { name := "fnExactNeighborsOf", fn := fun _ => fun
  | [d1, d2] => { results := [.lit (.bool true)], args := [d1, d2] }
  | _ => none }
def fnExactNeighborsOfRow : OpenClaim := { program := "ytkgnfmdeimaedaa", sum := "890b8b3f98d129f8b9777f860993f811650b60287a3c53851423a2b79faf0b09", func := "loop.example/g01019/laws.FnExactNeighborsOf", spec := "fnExactNeighborsOf", unfollowed := true, recurses := true, apart := false }
def FnExactNeighborsOfSaid : Prop := fnExactNeighborsOfRow.holds Try.pinned (OpenSpec.ofChange fnExactNeighborsOfSpec)

/-- ITS FALSE NEIGHBOUR: 'it returns false'. Refute it at one input. -/
def fnExactNeighborsOfWrong : ChangeSpec := { name := "fnExactNeighborsOf", fn := fun _ => fun
  | [d1, d2] => { results := [.lit (.bool false)], args := [d1, d2] }
  | _ => none }
def FnExactNeighborsOfWrongFalsely : Prop := fnExactNeighborsOfRow.holds Try.pinned (OpenSpec.ofChange fnExactNeighborsOfWrong)

/-- 'laws.FnExactCutPond': WHATEVER THE INPUT: true; the input reads as it did. -/
def fnExactCutPondSpec : ChangeSpec := { name := "fnExactCutPond", fn := fun _ => fun
  | [d1, d2, d3] => { results := [.lit (.bool true)], args := [d1, d2, d3] }
  | _ => none }
def fnExactCutPondRow : OpenClaim := { program := "ytkgnfmdeimaedaa", sum := "890b8b3f98d129f8b9777f860993f811650b60287a3c53851423a2b79faf0b09", func := "loop.example/g01019/laws.FnExactCutPond", spec := "fnExactCutPond", unfollowed := true, recurses := true, apart := false }
def FnExactCutPondSaid : Prop := fnExactCutPondRow.holds Try.pinned (OpenSpec.ofChange fnExactCutPondSpec)

/-- ITS FALSE NEIGHBOUR: 'it returns false'. Refute it at one input. -/
def fnExactCutPondWrong : ChangeSpec := { name := "fnExactCutPond", fn := fun _ => fun
  | [d1, d2, d3] => { results := [.lit (.bool false)], args := [d1, d2, d3] }
  | _ => none }
def FnExactCutPondWrongFalsely : Prop := fnExactCutPondRow.holds Try.pinned (OpenSpec.ofChange fnExactCutPondWrong)

/-- 'laws.FnExactJoinPonds': WHATEVER THE INPUT: true; the input reads as it did. -/
def fnExactJoinPondsSpec : ChangeSpec := { name := "fnExactJoinPonds", fn := fun _ => fun
  | [d1, d2, d3] => { results := [.lit (.bool true)], args := [d1, d2, d3] }
  | _ => none }
def fnExactJoinPondsRow : OpenClaim := { program := "ytkgnfmdeimaedaa", sum := "890b8b3f98d129f8b9777f860993f811650b60287a3c53851423a2b79faf0b09", func := "loop.example/g01019/laws.FnExactJoinPonds", spec := "fnExactJoinPonds", unfollowed := true, recurses := true, apart := false }
def FnExactJoinPondsSaid : Prop := fnExactJoinPondsRow.holds Try.pinned (OpenSpec.ofChange fnExactJoinPondsSpec)

/-- ITS FALSE NEIGHBOUR: 'it returns false'. Refute it at one input. -/
def fnExactJoinPondsWrong : ChangeSpec := { name := "fnExactJoinPonds", fn := fun _ => fun
  | [d1, d2, d3] => { results := [.lit (.bool false)], args := [d1, d2, d3] }
  | _ => none }
def FnExactJoinPondsWrongFalsely : Prop := fnExactJoinPondsRow.holds Try.pinned (OpenSpec.ofChange fnExactJoinPondsWrong)

/-- 'laws.FnExactChain': WHATEVER THE INPUT: true; the input reads as it did. -/
def fnExactChainSpec : ChangeSpec := { name := "fnExactChain", fn := fun _ => fun
  | [d1, d2, d3] => { results := [.lit (.bool true)], args := [d1, d2, d3] }
  | _ => none }
def fnExactChainRow : OpenClaim := { program := "ytkgnfmdeimaedaa", sum := "890b8b3f98d129f8b9777f860993f811650b60287a3c53851423a2b79faf0b09", func := "loop.example/g01019/laws.FnExactChain", spec := "fnExactChain", unfollowed := true, recurses := true, apart := false }
def FnExactChainSaid : Prop := fnExactChainRow.holds Try.pinned (OpenSpec.ofChange fnExactChainSpec)

/-- ITS FALSE NEIGHBOUR: 'it returns false'. Refute it at one input. -/
def fnExactChainWrong : ChangeSpec := { name := "fnExactChain", fn := fun _ => fun
  | [d1, d2, d3] => { results := [.lit (.bool false)], args := [d1, d2, d3] }
  | _ => none }
def FnExactChainWrongFalsely : Prop := fnExactChainRow.holds Try.pinned (OpenSpec.ofChange fnExactChainWrong)

/-- 'laws.FnPonds': WHATEVER THE INPUT: true; the input reads as it did. -/
def fnPondsSpec : ChangeSpec := { name := "fnPonds", fn := fun _ => fun
  | [d] => { results := [.lit (.bool true)], args := [d] }
  | _ => none }
def fnPondsRow : OpenClaim := { program := "ytkgnfmdeimaedaa", sum := "890b8b3f98d129f8b9777f860993f811650b60287a3c53851423a2b79faf0b09", func := "loop.example/g01019/laws.FnPonds", spec := "fnPonds", unfollowed := true, recurses := true, apart := false }
def FnPondsSaid : Prop := fnPondsRow.holds Try.pinned (OpenSpec.ofChange fnPondsSpec)

/-- ITS FALSE NEIGHBOUR: 'it returns false'. Refute it at one input. -/
def fnPondsWrong : ChangeSpec := { name := "fnPonds", fn := fun _ => fun
  | [d] => { results := [.lit (.bool false)], args := [d] }
  | _ => none }
def FnPondsWrongFalsely : Prop := fnPondsRow.holds Try.pinned (OpenSpec.ofChange fnPondsWrong)

/-- 'laws.FnChains': WHATEVER THE INPUT: true; the input reads as it did. -/
def fnChainsSpec : ChangeSpec := { name := "fnChains", fn := fun _ => fun
  | [d] => { results := [.lit (.bool true)], args := [d] }
  | _ => none }
def fnChainsRow : OpenClaim := { program := "ytkgnfmdeimaedaa", sum := "890b8b3f98d129f8b9777f860993f811650b60287a3c53851423a2b79faf0b09", func := "loop.example/g01019/laws.FnChains", spec := "fnChains", unfollowed := true, recurses := true, apart := false }
def FnChainsSaid : Prop := fnChainsRow.holds Try.pinned (OpenSpec.ofChange fnChainsSpec)

/-- ITS FALSE NEIGHBOUR: 'it returns false'. Refute it at one input. -/
def fnChainsWrong : ChangeSpec := { name := "fnChains", fn := fun _ => fun
  | [d] => { results := [.lit (.bool false)], args := [d] }
  | _ => none }
def FnChainsWrongFalsely : Prop := fnChainsRow.holds Try.pinned (OpenSpec.ofChange fnChainsWrong)

/- THE SECOND FORM. 'bulk': how many values and letters a reading holds, each counted each time it is reached (what is shared counts as often as it is met; a slice's spare places count too). A statement '..UptoSaid' is the law's where the arguments, and the package variables that the reading takes, are together of bulk at most 1048576: NARROWER than '..Said'. Prove '..Said' where nothing that the law and all that it calls make is longer than what came in: it says more and counts as full. Else prove '..UptoSaid'. A law counts once. -/
mutual
def uptoBulk {H : Type} : DataW H → Nat
  | .lit (.string bytes) => bytes.length + 1
  | .lit _ => 1
  | .nil => 1
  | .ptr d => uptoBulk d + 1
  | .slice elems spare => uptoBulkAll elems + uptoBulkAll spare + 1
  | .agg parts => uptoBulkAll parts + 1
  | .iface _ d => uptoBulk d + 1
  | .map entries => uptoBulkEntries entries + 1
  | .held _ => 1
def uptoBulkAll {H : Type} : List (DataW H) → Nat
  | [] => 0
  | d :: r => uptoBulk d + uptoBulkAll r
def uptoBulkEntries {H : Type} : List (Lit × DataW H) → Nat
  | [] => 0
  | x :: r => uptoBulkEntry x + uptoBulkEntries r
def uptoBulkEntry {H : Type} : Lit × DataW H → Nat
  | (.string bytes, d) => bytes.length + uptoBulk d + 1
  | (_, d) => uptoBulk d + 1
 end
def uptoSmall : (H : Type) → List (DataW H) → Bool := fun _ ds => decide (uptoBulkAll ds ≤ 1048576)
def OpenSpec.upto (s : _root_.Go.ChangeSpec) : _root_.Go.OpenSpec := { _root_.Go.OpenSpec.ofChange s with cond := some uptoSmall }

/-- 'laws.FnExactArePonds', WHERE WHAT IT READS IS OF BULK AT MOST 1048576: true; the input reads as it did. -/
def fnExactArePondsUptoRow : OpenClaim := { program := "ytkgnfmdeimaedaa", sum := "890b8b3f98d129f8b9777f860993f811650b60287a3c53851423a2b79faf0b09", func := "loop.example/g01019/laws.FnExactArePonds", spec := "fnExactArePonds", apart := false, narrowed := true }
def FnExactArePondsUptoSaid : Prop := fnExactArePondsUptoRow.holds Try.pinned (OpenSpec.upto fnExactArePondsSpec)

/-- 'laws.FnExactFreeCells', WHERE WHAT IT READS IS OF BULK AT MOST 1048576: true; the input reads as it did. -/
def fnExactFreeCellsUptoRow : OpenClaim := { program := "ytkgnfmdeimaedaa", sum := "890b8b3f98d129f8b9777f860993f811650b60287a3c53851423a2b79faf0b09", func := "loop.example/g01019/laws.FnExactFreeCells", spec := "fnExactFreeCells", apart := false, narrowed := true }
def FnExactFreeCellsUptoSaid : Prop := fnExactFreeCellsUptoRow.holds Try.pinned (OpenSpec.upto fnExactFreeCellsSpec)

/-- 'laws.FnExactPondAt', WHERE WHAT IT READS IS OF BULK AT MOST 1048576: true; the input reads as it did. -/
def fnExactPondAtUptoRow : OpenClaim := { program := "ytkgnfmdeimaedaa", sum := "890b8b3f98d129f8b9777f860993f811650b60287a3c53851423a2b79faf0b09", func := "loop.example/g01019/laws.FnExactPondAt", spec := "fnExactPondAt", apart := false, narrowed := true }
def FnExactPondAtUptoSaid : Prop := fnExactPondAtUptoRow.holds Try.pinned (OpenSpec.upto fnExactPondAtSpec)

/-- 'laws.FnExactHoldsCubic', WHERE WHAT IT READS IS OF BULK AT MOST 1048576: true; the input reads as it did. -/
def fnExactHoldsCubicUptoRow : OpenClaim := { program := "ytkgnfmdeimaedaa", sum := "890b8b3f98d129f8b9777f860993f811650b60287a3c53851423a2b79faf0b09", func := "loop.example/g01019/laws.FnExactHoldsCubic", spec := "fnExactHoldsCubic", unfollowed := true, recurses := true, apart := false, narrowed := true }
def FnExactHoldsCubicUptoSaid : Prop := fnExactHoldsCubicUptoRow.holds Try.pinned (OpenSpec.upto fnExactHoldsCubicSpec)

/-- 'laws.FnExactBankOf', WHERE WHAT IT READS IS OF BULK AT MOST 1048576: true; the input reads as it did. -/
def fnExactBankOfUptoRow : OpenClaim := { program := "ytkgnfmdeimaedaa", sum := "890b8b3f98d129f8b9777f860993f811650b60287a3c53851423a2b79faf0b09", func := "loop.example/g01019/laws.FnExactBankOf", spec := "fnExactBankOf", unfollowed := true, recurses := true, apart := false, narrowed := true }
def FnExactBankOfUptoSaid : Prop := fnExactBankOfUptoRow.holds Try.pinned (OpenSpec.upto fnExactBankOfSpec)

/-- 'laws.FnExactOuterBank', WHERE WHAT IT READS IS OF BULK AT MOST 1048576: true; the input reads as it did. -/
def fnExactOuterBankUptoRow : OpenClaim := { program := "ytkgnfmdeimaedaa", sum := "890b8b3f98d129f8b9777f860993f811650b60287a3c53851423a2b79faf0b09", func := "loop.example/g01019/laws.FnExactOuterBank", spec := "fnExactOuterBank", unfollowed := true, recurses := true, apart := false, narrowed := true }
def FnExactOuterBankUptoSaid : Prop := fnExactOuterBankUptoRow.holds Try.pinned (OpenSpec.upto fnExactOuterBankSpec)

/-- 'laws.FnExactNeighborsOf', WHERE WHAT IT READS IS OF BULK AT MOST 1048576: true; the input reads as it did. -/
def fnExactNeighborsOfUptoRow : OpenClaim := { program := "ytkgnfmdeimaedaa", sum := "890b8b3f98d129f8b9777f860993f811650b60287a3c53851423a2b79faf0b09", func := "loop.example/g01019/laws.FnExactNeighborsOf", spec := "fnExactNeighborsOf", unfollowed := true, recurses := true, apart := false, narrowed := true }
def FnExactNeighborsOfUptoSaid : Prop := fnExactNeighborsOfUptoRow.holds Try.pinned (OpenSpec.upto fnExactNeighborsOfSpec)

/-- 'laws.FnExactCutPond', WHERE WHAT IT READS IS OF BULK AT MOST 1048576: true; the input reads as it did. -/
def fnExactCutPondUptoRow : OpenClaim := { program := "ytkgnfmdeimaedaa", sum := "890b8b3f98d129f8b9777f860993f811650b60287a3c53851423a2b79faf0b09", func := "loop.example/g01019/laws.FnExactCutPond", spec := "fnExactCutPond", unfollowed := true, recurses := true, apart := false, narrowed := true }
def FnExactCutPondUptoSaid : Prop := fnExactCutPondUptoRow.holds Try.pinned (OpenSpec.upto fnExactCutPondSpec)

/-- 'laws.FnExactJoinPonds', WHERE WHAT IT READS IS OF BULK AT MOST 1048576: true; the input reads as it did. -/
def fnExactJoinPondsUptoRow : OpenClaim := { program := "ytkgnfmdeimaedaa", sum := "890b8b3f98d129f8b9777f860993f811650b60287a3c53851423a2b79faf0b09", func := "loop.example/g01019/laws.FnExactJoinPonds", spec := "fnExactJoinPonds", unfollowed := true, recurses := true, apart := false, narrowed := true }
def FnExactJoinPondsUptoSaid : Prop := fnExactJoinPondsUptoRow.holds Try.pinned (OpenSpec.upto fnExactJoinPondsSpec)

/-- 'laws.FnExactChain', WHERE WHAT IT READS IS OF BULK AT MOST 1048576: true; the input reads as it did. -/
def fnExactChainUptoRow : OpenClaim := { program := "ytkgnfmdeimaedaa", sum := "890b8b3f98d129f8b9777f860993f811650b60287a3c53851423a2b79faf0b09", func := "loop.example/g01019/laws.FnExactChain", spec := "fnExactChain", unfollowed := true, recurses := true, apart := false, narrowed := true }
def FnExactChainUptoSaid : Prop := fnExactChainUptoRow.holds Try.pinned (OpenSpec.upto fnExactChainSpec)

/-- 'laws.FnPonds', WHERE WHAT IT READS IS OF BULK AT MOST 1048576: true; the input reads as it did. -/
def fnPondsUptoRow : OpenClaim := { program := "ytkgnfmdeimaedaa", sum := "890b8b3f98d129f8b9777f860993f811650b60287a3c53851423a2b79faf0b09", func := "loop.example/g01019/laws.FnPonds", spec := "fnPonds", unfollowed := true, recurses := true, apart := false, narrowed := true }
def FnPondsUptoSaid : Prop := fnPondsUptoRow.holds Try.pinned (OpenSpec.upto fnPondsSpec)

/-- 'laws.FnChains', WHERE WHAT IT READS IS OF BULK AT MOST 1048576: true; the input reads as it did. -/
def fnChainsUptoRow : OpenClaim := { program := "ytkgnfmdeimaedaa", sum := "890b8b3f98d129f8b9777f860993f811650b60287a3c53851423a2b79faf0b09", func := "loop.example/g01019/laws.FnChains", spec := "fnChains", unfollowed := true, recurses := true, apart := false, narrowed := true }
def FnChainsUptoSaid : Prop := fnChainsUptoRow.holds Try.pinned (OpenSpec.upto fnChainsSpec)

end Rows
end Go.Proofs.Ytkgnfmdeimaedaa
