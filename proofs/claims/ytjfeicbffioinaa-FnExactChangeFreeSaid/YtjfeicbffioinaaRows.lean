/-
  No cell of these rows narrows 'for every input' (looked for: loops, veiled, ifaces, maps, wideKeys, modest, calm, conditions, laid).
  DERIVED. THE GIVEN ROWS OF THIS SEAT. 10 by the template 'for every input the law returns true; each argument reads behind the call as it read before'; 0 by the template 'total and deterministic' (their statements: YtjfeicbffioinaaTotals.lean).
  GIVEN WITH THE SEED: the statements are not yours to turn. If you find one false, say at which input.
  Laid BY PROGRAM, IN A SANDBOX (cutbox-rows.mjs): the forced cells as the released guide's own fill.sh prints them over the translation 73e96a208b3f62ed… (all of the seat's roots in one cut). By AI agents, Wed Nov 11 2026. No macro, syntax, notation, axiom, sorry.
-/
import Derived.Test.YtjfeicbffioinaaChecked
import GoSem.Claim
import GoSem.ClaimJoined
import GoSem.ClaimMapViews
import Derived.JoinedTies
import Derived.KernelRfl
namespace Go.Proofs.Ytjfeicbffioinaa
/- THE CELL 'sum', in the pinned program and in every row, IS THE sha256 OF THE DUMP (.gsa) THAT YtjfeicbffioinaaProg.lean LOADS. Nothing in Lean hashes anything: it is a label: what it is worth is what the hold of that sum in a sandbox is worth. -/
noncomputable def Try.pinned : Pinned := { name := "ytjfeicbffioinaa", sum := "73e96a208b3f62edfb462b54fdc6e5173534eb7f2f662f94dc98129e9dc99a3b", checked := Try.checked }
namespace Rows
def none {H : Type} : Left H := { results := [], args := [] }

/-- 'laws.FnExactConstants': WHATEVER THE INPUT: true; the input reads as it did. -/
def fnExactConstantsSpec : ChangeSpec := { name := "fnExactConstants", fn := fun _ => fun
  | [] => { results := [.lit (.bool true)], args := [] }
  | _ => none }
def fnExactConstantsRow : OpenClaim := { program := "ytjfeicbffioinaa", sum := "73e96a208b3f62edfb462b54fdc6e5173534eb7f2f662f94dc98129e9dc99a3b", func := "loop.example/g01019/laws.FnExactConstants", spec := "fnExactConstants", apart := false }
def FnExactConstantsSaid : Prop := fnExactConstantsRow.holds Try.pinned (OpenSpec.ofChange fnExactConstantsSpec)

/-- ITS FALSE NEIGHBOUR: 'it returns false'. Refute it at one input. -/
def fnExactConstantsWrong : ChangeSpec := { name := "fnExactConstants", fn := fun _ => fun
  | [] => { results := [.lit (.bool false)], args := [] }
  | _ => none }
def FnExactConstantsWrongFalsely : Prop := fnExactConstantsRow.holds Try.pinned (OpenSpec.ofChange fnExactConstantsWrong)

/-- 'laws.FnExactAreWorkers': WHATEVER THE INPUT: true; the input reads as it did. -/
def fnExactAreWorkersSpec : ChangeSpec := { name := "fnExactAreWorkers", fn := fun _ => fun
  | [d] => { results := [.lit (.bool true)], args := [d] }
  | _ => none }
def fnExactAreWorkersRow : OpenClaim := { program := "ytjfeicbffioinaa", sum := "73e96a208b3f62edfb462b54fdc6e5173534eb7f2f662f94dc98129e9dc99a3b", func := "loop.example/g01019/laws.FnExactAreWorkers", spec := "fnExactAreWorkers", apart := false }
def FnExactAreWorkersSaid : Prop := fnExactAreWorkersRow.holds Try.pinned (OpenSpec.ofChange fnExactAreWorkersSpec)

/-- ITS FALSE NEIGHBOUR: 'it returns false'. Refute it at one input. -/
def fnExactAreWorkersWrong : ChangeSpec := { name := "fnExactAreWorkers", fn := fun _ => fun
  | [d] => { results := [.lit (.bool false)], args := [d] }
  | _ => none }
def FnExactAreWorkersWrongFalsely : Prop := fnExactAreWorkersRow.holds Try.pinned (OpenSpec.ofChange fnExactAreWorkersWrong)

/-- 'laws.FnExactRakedOn': WHATEVER THE INPUT: true; the input reads as it did. -/
def fnExactRakedOnSpec : ChangeSpec := { name := "fnExactRakedOn", fn := fun _ => fun
  | [d1, d2, d3] => { results := [.lit (.bool true)], args := [d1, d2, d3] }
  | _ => none }
def fnExactRakedOnRow : OpenClaim := { program := "ytjfeicbffioinaa", sum := "73e96a208b3f62edfb462b54fdc6e5173534eb7f2f662f94dc98129e9dc99a3b", func := "loop.example/g01019/laws.FnExactRakedOn", spec := "fnExactRakedOn", apart := false }
def FnExactRakedOnSaid : Prop := fnExactRakedOnRow.holds Try.pinned (OpenSpec.ofChange fnExactRakedOnSpec)

/-- ITS FALSE NEIGHBOUR: 'it returns false'. Refute it at one input. -/
def fnExactRakedOnWrong : ChangeSpec := { name := "fnExactRakedOn", fn := fun _ => fun
  | [d1, d2, d3] => { results := [.lit (.bool false)], args := [d1, d2, d3] }
  | _ => none }
def FnExactRakedOnWrongFalsely : Prop := fnExactRakedOnRow.holds Try.pinned (OpenSpec.ofChange fnExactRakedOnWrong)

/-- 'laws.FnExactGangSizes': WHATEVER THE INPUT: true; the input reads as it did. -/
def fnExactGangSizesSpec : ChangeSpec := { name := "fnExactGangSizes", fn := fun _ => fun
  | [d] => { results := [.lit (.bool true)], args := [d] }
  | _ => none }
def fnExactGangSizesRow : OpenClaim := { program := "ytjfeicbffioinaa", sum := "73e96a208b3f62edfb462b54fdc6e5173534eb7f2f662f94dc98129e9dc99a3b", func := "loop.example/g01019/laws.FnExactGangSizes", spec := "fnExactGangSizes", apart := false }
def FnExactGangSizesSaid : Prop := fnExactGangSizesRow.holds Try.pinned (OpenSpec.ofChange fnExactGangSizesSpec)

/-- ITS FALSE NEIGHBOUR: 'it returns false'. Refute it at one input. -/
def fnExactGangSizesWrong : ChangeSpec := { name := "fnExactGangSizes", fn := fun _ => fun
  | [d] => { results := [.lit (.bool false)], args := [d] }
  | _ => none }
def FnExactGangSizesWrongFalsely : Prop := fnExactGangSizesRow.holds Try.pinned (OpenSpec.ofChange fnExactGangSizesWrong)

/-- 'laws.FnExactDaysToRake': WHATEVER THE INPUT: true; the input reads as it did. -/
def fnExactDaysToRakeSpec : ChangeSpec := { name := "fnExactDaysToRake", fn := fun _ => fun
  | [d1, d2, d3, d4] => { results := [.lit (.bool true)], args := [d1, d2, d3, d4] }
  | _ => none }
def fnExactDaysToRakeRow : OpenClaim := { program := "ytjfeicbffioinaa", sum := "73e96a208b3f62edfb462b54fdc6e5173534eb7f2f662f94dc98129e9dc99a3b", func := "loop.example/g01019/laws.FnExactDaysToRake", spec := "fnExactDaysToRake", apart := false }
def FnExactDaysToRakeSaid : Prop := fnExactDaysToRakeRow.holds Try.pinned (OpenSpec.ofChange fnExactDaysToRakeSpec)

/-- ITS FALSE NEIGHBOUR: 'it returns false'. Refute it at one input. -/
def fnExactDaysToRakeWrong : ChangeSpec := { name := "fnExactDaysToRake", fn := fun _ => fun
  | [d1, d2, d3, d4] => { results := [.lit (.bool false)], args := [d1, d2, d3, d4] }
  | _ => none }
def FnExactDaysToRakeWrongFalsely : Prop := fnExactDaysToRakeRow.holds Try.pinned (OpenSpec.ofChange fnExactDaysToRakeWrong)

/-- 'laws.FnExactPutInGang': WHATEVER THE INPUT: true; the input reads as it did. -/
def fnExactPutInGangSpec : ChangeSpec := { name := "fnExactPutInGang", fn := fun _ => fun
  | [d1, d2, d3] => { results := [.lit (.bool true)], args := [d1, d2, d3] }
  | _ => none }
def fnExactPutInGangRow : OpenClaim := { program := "ytjfeicbffioinaa", sum := "73e96a208b3f62edfb462b54fdc6e5173534eb7f2f662f94dc98129e9dc99a3b", func := "loop.example/g01019/laws.FnExactPutInGang", spec := "fnExactPutInGang", unfollowed := true, recurses := true, apart := false }
def FnExactPutInGangSaid : Prop := fnExactPutInGangRow.holds Try.pinned (OpenSpec.ofChange fnExactPutInGangSpec)

/-- ITS FALSE NEIGHBOUR: 'it returns false'. Refute it at one input. -/
def fnExactPutInGangWrong : ChangeSpec := { name := "fnExactPutInGang", fn := fun _ => fun
  | [d1, d2, d3] => { results := [.lit (.bool false)], args := [d1, d2, d3] }
  | _ => none }
def FnExactPutInGangWrongFalsely : Prop := fnExactPutInGangRow.holds Try.pinned (OpenSpec.ofChange fnExactPutInGangWrong)

/-- 'laws.FnExactRakedWeek': WHATEVER THE INPUT: true; the input reads as it did. -/
def fnExactRakedWeekSpec : ChangeSpec := { name := "fnExactRakedWeek", fn := fun _ => fun
  | [d1, d2] => { results := [.lit (.bool true)], args := [d1, d2] }
  | _ => none }
def fnExactRakedWeekRow : OpenClaim := { program := "ytjfeicbffioinaa", sum := "73e96a208b3f62edfb462b54fdc6e5173534eb7f2f662f94dc98129e9dc99a3b", func := "loop.example/g01019/laws.FnExactRakedWeek", spec := "fnExactRakedWeek", apart := false }
def FnExactRakedWeekSaid : Prop := fnExactRakedWeekRow.holds Try.pinned (OpenSpec.ofChange fnExactRakedWeekSpec)

/-- ITS FALSE NEIGHBOUR: 'it returns false'. Refute it at one input. -/
def fnExactRakedWeekWrong : ChangeSpec := { name := "fnExactRakedWeek", fn := fun _ => fun
  | [d1, d2] => { results := [.lit (.bool false)], args := [d1, d2] }
  | _ => none }
def FnExactRakedWeekWrongFalsely : Prop := fnExactRakedWeekRow.holds Try.pinned (OpenSpec.ofChange fnExactRakedWeekWrong)

/-- 'laws.FnExactSpareWorkers': WHATEVER THE INPUT: true; the input reads as it did. -/
def fnExactSpareWorkersSpec : ChangeSpec := { name := "fnExactSpareWorkers", fn := fun _ => fun
  | [d1, d2, d3] => { results := [.lit (.bool true)], args := [d1, d2, d3] }
  | _ => none }
def fnExactSpareWorkersRow : OpenClaim := { program := "ytjfeicbffioinaa", sum := "73e96a208b3f62edfb462b54fdc6e5173534eb7f2f662f94dc98129e9dc99a3b", func := "loop.example/g01019/laws.FnExactSpareWorkers", spec := "fnExactSpareWorkers", apart := false }
def FnExactSpareWorkersSaid : Prop := fnExactSpareWorkersRow.holds Try.pinned (OpenSpec.ofChange fnExactSpareWorkersSpec)

/-- ITS FALSE NEIGHBOUR: 'it returns false'. Refute it at one input. -/
def fnExactSpareWorkersWrong : ChangeSpec := { name := "fnExactSpareWorkers", fn := fun _ => fun
  | [d1, d2, d3] => { results := [.lit (.bool false)], args := [d1, d2, d3] }
  | _ => none }
def FnExactSpareWorkersWrongFalsely : Prop := fnExactSpareWorkersRow.holds Try.pinned (OpenSpec.ofChange fnExactSpareWorkersWrong)

/-- 'laws.FnExactIdleDays': WHATEVER THE INPUT: true; the input reads as it did. -/
def fnExactIdleDaysSpec : ChangeSpec := { name := "fnExactIdleDays", fn := fun _ => fun
  | [d1, d2] => { results := [.lit (.bool true)], args := [d1, d2] }
  | _ => none }
def fnExactIdleDaysRow : OpenClaim := { program := "ytjfeicbffioinaa", sum := "73e96a208b3f62edfb462b54fdc6e5173534eb7f2f662f94dc98129e9dc99a3b", func := "loop.example/g01019/laws.FnExactIdleDays", spec := "fnExactIdleDays", apart := false }
def FnExactIdleDaysSaid : Prop := fnExactIdleDaysRow.holds Try.pinned (OpenSpec.ofChange fnExactIdleDaysSpec)

/-- ITS FALSE NEIGHBOUR: 'it returns false'. Refute it at one input. -/
def fnExactIdleDaysWrong : ChangeSpec := { name := "fnExactIdleDays", fn := fun _ => fun
  | [d1, d2] => { results := [.lit (.bool false)], args := [d1, d2] }
  | _ => none }
def FnExactIdleDaysWrongFalsely : Prop := fnExactIdleDaysRow.holds Try.pinned (OpenSpec.ofChange fnExactIdleDaysWrong)

/-- 'laws.FnExactChangeFree': WHATEVER THE INPUT: true; the input reads as it did. -/
def fnExactChangeFreeSpec : ChangeSpec := { name := "fnExactChangeFree", fn := fun _ => fun
  | [d1, d2] => { results := [.lit (.bool true)], args := [d1, d2] }
  | _ => none }
def fnExactChangeFreeRow : OpenClaim := { program := "ytjfeicbffioinaa", sum := "73e96a208b3f62edfb462b54fdc6e5173534eb7f2f662f94dc98129e9dc99a3b", func := "loop.example/g01019/laws.FnExactChangeFree", spec := "fnExactChangeFree", unfollowed := true, recurses := true, apart := false }
def FnExactChangeFreeSaid : Prop := fnExactChangeFreeRow.holds Try.pinned (OpenSpec.ofChange fnExactChangeFreeSpec)

/-- ITS FALSE NEIGHBOUR: 'it returns false'. Refute it at one input. -/
def fnExactChangeFreeWrong : ChangeSpec := { name := "fnExactChangeFree", fn := fun _ => fun
  | [d1, d2] => { results := [.lit (.bool false)], args := [d1, d2] }
  | _ => none }
def FnExactChangeFreeWrongFalsely : Prop := fnExactChangeFreeRow.holds Try.pinned (OpenSpec.ofChange fnExactChangeFreeWrong)

/- THE SECOND FORM. 'bulk': how many values and letters a reading holds, each counted each time it is reached (what is shared counts as often as it is met; a slice's spare places count too). A statement '..UptoSaid' is the law's where the arguments, and the package variables that the reading takes, are together of bulk at most 1048576: NARROWER than '..Said'. Prove '..Said' where nothing that the law and all that it calls make is longer than what came in: it says more and counts as full. Else prove '..UptoSaid'. A law counts once. -/
mutual
def uptoBulk {H : Type} : DataW H → Nat
  | .lit (.string bytes) => bytes.length + 1
  | .lit _ => 1
  | .nil => 1
  | .ptr d => uptoBulk d + 1
  | .slice elems spare => uptoBulkAll elems + uptoBulkAll spare + 1
  | .agg parts => uptoBulkAll parts + 1
  | .iface _ d => uptoBulk d + 1
  | .map entries => uptoBulkEntries entries + 1
  | .held _ => 1
def uptoBulkAll {H : Type} : List (DataW H) → Nat
  | [] => 0
  | d :: r => uptoBulk d + uptoBulkAll r
def uptoBulkEntries {H : Type} : List (Lit × DataW H) → Nat
  | [] => 0
  | x :: r => uptoBulkEntry x + uptoBulkEntries r
def uptoBulkEntry {H : Type} : Lit × DataW H → Nat
  | (.string bytes, d) => bytes.length + uptoBulk d + 1
  | (_, d) => uptoBulk d + 1
 end
def uptoSmall : (H : Type) → List (DataW H) → Bool := fun _ ds => decide (uptoBulkAll ds ≤ 1048576)
def OpenSpec.upto (s : _root_.Go.ChangeSpec) : _root_.Go.OpenSpec := { _root_.Go.OpenSpec.ofChange s with cond := some uptoSmall }

/-- 'laws.FnExactConstants', WHERE WHAT IT READS IS OF BULK AT MOST 1048576: true; the input reads as it did. -/
def fnExactConstantsUptoRow : OpenClaim := { program := "ytjfeicbffioinaa", sum := "73e96a208b3f62edfb462b54fdc6e5173534eb7f2f662f94dc98129e9dc99a3b", func := "loop.example/g01019/laws.FnExactConstants", spec := "fnExactConstants", apart := false, narrowed := true }
def FnExactConstantsUptoSaid : Prop := fnExactConstantsUptoRow.holds Try.pinned (OpenSpec.upto fnExactConstantsSpec)

/-- 'laws.FnExactAreWorkers', WHERE WHAT IT READS IS OF BULK AT MOST 1048576: true; the input reads as it did. -/
def fnExactAreWorkersUptoRow : OpenClaim := { program := "ytjfeicbffioinaa", sum := "73e96a208b3f62edfb462b54fdc6e5173534eb7f2f662f94dc98129e9dc99a3b", func := "loop.example/g01019/laws.FnExactAreWorkers", spec := "fnExactAreWorkers", apart := false, narrowed := true }
def FnExactAreWorkersUptoSaid : Prop := fnExactAreWorkersUptoRow.holds Try.pinned (OpenSpec.upto fnExactAreWorkersSpec)

/-- 'laws.FnExactRakedOn', WHERE WHAT IT READS IS OF BULK AT MOST 1048576: true; the input reads as it did. -/
def fnExactRakedOnUptoRow : OpenClaim := { program := "ytjfeicbffioinaa", sum := "73e96a208b3f62edfb462b54fdc6e5173534eb7f2f662f94dc98129e9dc99a3b", func := "loop.example/g01019/laws.FnExactRakedOn", spec := "fnExactRakedOn", apart := false, narrowed := true }
def FnExactRakedOnUptoSaid : Prop := fnExactRakedOnUptoRow.holds Try.pinned (OpenSpec.upto fnExactRakedOnSpec)

/-- 'laws.FnExactGangSizes', WHERE WHAT IT READS IS OF BULK AT MOST 1048576: true; the input reads as it did. -/
def fnExactGangSizesUptoRow : OpenClaim := { program := "ytjfeicbffioinaa", sum := "73e96a208b3f62edfb462b54fdc6e5173534eb7f2f662f94dc98129e9dc99a3b", func := "loop.example/g01019/laws.FnExactGangSizes", spec := "fnExactGangSizes", apart := false, narrowed := true }
def FnExactGangSizesUptoSaid : Prop := fnExactGangSizesUptoRow.holds Try.pinned (OpenSpec.upto fnExactGangSizesSpec)

/-- 'laws.FnExactDaysToRake', WHERE WHAT IT READS IS OF BULK AT MOST 1048576: true; the input reads as it did. -/
def fnExactDaysToRakeUptoRow : OpenClaim := { program := "ytjfeicbffioinaa", sum := "73e96a208b3f62edfb462b54fdc6e5173534eb7f2f662f94dc98129e9dc99a3b", func := "loop.example/g01019/laws.FnExactDaysToRake", spec := "fnExactDaysToRake", apart := false, narrowed := true }
def FnExactDaysToRakeUptoSaid : Prop := fnExactDaysToRakeUptoRow.holds Try.pinned (OpenSpec.upto fnExactDaysToRakeSpec)

/-- 'laws.FnExactPutInGang', WHERE WHAT IT READS IS OF BULK AT MOST 1048576: true; the input reads as it did. -/
def fnExactPutInGangUptoRow : OpenClaim := { program := "ytjfeicbffioinaa", sum := "73e96a208b3f62edfb462b54fdc6e5173534eb7f2f662f94dc98129e9dc99a3b", func := "loop.example/g01019/laws.FnExactPutInGang", spec := "fnExactPutInGang", unfollowed := true, recurses := true, apart := false, narrowed := true }
def FnExactPutInGangUptoSaid : Prop := fnExactPutInGangUptoRow.holds Try.pinned (OpenSpec.upto fnExactPutInGangSpec)

/-- 'laws.FnExactRakedWeek', WHERE WHAT IT READS IS OF BULK AT MOST 1048576: true; the input reads as it did. -/
def fnExactRakedWeekUptoRow : OpenClaim := { program := "ytjfeicbffioinaa", sum := "73e96a208b3f62edfb462b54fdc6e5173534eb7f2f662f94dc98129e9dc99a3b", func := "loop.example/g01019/laws.FnExactRakedWeek", spec := "fnExactRakedWeek", apart := false, narrowed := true }
def FnExactRakedWeekUptoSaid : Prop := fnExactRakedWeekUptoRow.holds Try.pinned (OpenSpec.upto fnExactRakedWeekSpec)

/-- 'laws.FnExactSpareWorkers', WHERE WHAT IT READS IS OF BULK AT MOST 1048576: true; the input reads as it did. -/
def fnExactSpareWorkersUptoRow : OpenClaim := { program := "ytjfeicbffioinaa", sum := "73e96a208b3f62edfb462b54fdc6e5173534eb7f2f662f94dc98129e9dc99a3b", func := "loop.example/g01019/laws.FnExactSpareWorkers", spec := "fnExactSpareWorkers", apart := false, narrowed := true }
def FnExactSpareWorkersUptoSaid : Prop := fnExactSpareWorkersUptoRow.holds Try.pinned (OpenSpec.upto fnExactSpareWorkersSpec)

/-- 'laws.FnExactIdleDays', WHERE WHAT IT READS IS OF BULK AT MOST 1048576: true; the input reads as it did. -/
def fnExactIdleDaysUptoRow : OpenClaim := { program := "ytjfeicbffioinaa", sum := "73e96a208b3f62edfb462b54fdc6e5173534eb7f2f662f94dc98129e9dc99a3b", func := "loop.example/g01019/laws.FnExactIdleDays", spec := "fnExactIdleDays", apart := false, narrowed := true }
def FnExactIdleDaysUptoSaid : Prop := fnExactIdleDaysUptoRow.holds Try.pinned (OpenSpec.upto fnExactIdleDaysSpec)

/-- 'laws.FnExactChangeFree', WHERE WHAT IT READS IS OF BULK AT MOST 1048576: true; the input reads as it did. -/
def fnExactChangeFreeUptoRow : OpenClaim := { program := "ytjfeicbffioinaa", sum := "73e96a208b3f62edfb462b54fdc6e5173534eb7f2f662f94dc98129e9dc99a3b", func := "loop.example/g01019/laws.FnExactChangeFree", spec := "fnExactChangeFree", unfollowed := true, recurses := true, apart := false, narrowed := true }
def FnExactChangeFreeUptoSaid : Prop := fnExactChangeFreeUptoRow.holds Try.pinned (OpenSpec.upto fnExactChangeFreeSpec)

end Rows
end Go.Proofs.Ytjfeicbffioinaa
