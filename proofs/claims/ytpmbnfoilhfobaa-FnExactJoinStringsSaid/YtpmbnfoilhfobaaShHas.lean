/- The contracts of the library that this proof takes (ShHas), laid at this program. -/
import Derived.Shelf.Strings.Builder1
import Derived.Shelf.Strings.Builder2
import Derived.Shelf.Strings.OnBuilder
import Derived.Shelf.Strings.Search1
import Derived.Shelf.Strings.Search2
import Derived.Shelf.Strings.Search3
import Derived.Shelf.LaysM
import Derived.Shelf.Strings.Shaped
import Derived.Test.YtpmbnfoilhfobaaProg
namespace Go.Proofs
open Go.Shelf
set_option linter.unusedVariables false
def Try.ShHas_lays144_ren : Go.Shelf.Ren := ⟨fun | 144 => 10 | 143 => 12 | 219 => 16 | 217 => 19 | 225 => 20 | 224 => 21 | 267 => 22 | 266 => 25 | 314 => 26 | n => n, fun | 9 => 9 | 4 => 4 | 3 => 3 | 5 => 5 | 46 => 46 | 146 => 51 | 51 => 50 | n => n, fun | 1 => 0 | n => n⟩

theorem Try.ShHas_lays144 : Go.Proofs.Lays.n144 Try.prog Try.ShHas_lays144_ren := {
  mixed := by kernel_rfl
  f143 := Try.func12.trans (congrArg some (by kernel_rfl))
  f144 := Try.func10.trans (congrArg some (by kernel_rfl))
  f217 := Try.func19.trans (congrArg some (by kernel_rfl))
  f219 := Try.func16.trans (congrArg some (by kernel_rfl))
  f224 := Try.func21.trans (congrArg some (by kernel_rfl))
  f225 := Try.func20.trans (congrArg some (by kernel_rfl))
  f266 := Try.func25.trans (congrArg some (by kernel_rfl))
  f267 := Try.func22.trans (congrArg some (by kernel_rfl))
  f314 := Try.func26.trans (congrArg some (by kernel_rfl))
  t3 := Try.underlying3
  a3 := Try.isAgg3
  z3 := Try.sizeOf3
  v3 := Try.zeroValue3
  t4 := Try.underlying4
  a4 := Try.isAgg4
  z4 := Try.sizeOf4
  v4 := Try.zeroValue4
  t5 := Try.underlying5
  a5 := Try.isAgg5
  z5 := Try.sizeOf5
  v5 := Try.zeroValue5
  t9 := Try.underlying9
  a9 := Try.isAgg9
  z9 := Try.sizeOf9
  v9 := Try.zeroValue9
  t46 := Try.underlying46
  a46 := Try.isAgg46
  z46 := Try.sizeOf46
  v46 := Try.zeroValue46
  t51 := Try.underlying50
  a51 := Try.isAgg50
  z51 := Try.sizeOf50
  v51 := Try.zeroValue50
  t146 := Try.underlying51
  a146 := Try.isAgg51
  z146 := Try.sizeOf51
  v146 := Try.zeroValue51
  g1 := by kernel_rfl }

open Go.RowKit Go.Lib in
theorem Try.strings_Contains_one (s : ByteArray) (c : UInt8) (w : World) :
    Calls Try.prog 10 #[.string s, .string ⟨#[c]⟩] w fun e w' => e = .returned (.bool (decide (0 ≤ Lib.indexByte s.data.toList c))) ∧ w' = w := Any.strings_Contains_one Try.ShHas_lays144 s c w
end Go.Proofs
