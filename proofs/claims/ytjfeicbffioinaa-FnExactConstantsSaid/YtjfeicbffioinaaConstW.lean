/- The walk of the law FnExactConstants. -/
import Derived.Test.YtjfeicbffioinaaBase
import Derived.Test.YtjfeicbffioinaaRows
namespace Go.Proofs.Ytjfeicbffioinaa
open Go.RowKit
set_option linter.unusedVariables false

theorem FnExactConstants_walk (w : World) : Calls Try.prog 3 #[] w fun e w' => e = .returned (.bool true) ∧ Ext w w' := by
  go_enter Try.func3, Try.ntmps3
  go_wp2
  go_ret
  exact ⟨rfl, by repeat (with_reducible first | exact Ext.refl _ | refine Ext.setCell ?_ (by first | (simp; done) | (simp; omega)) _ | refine Ext.alloc ?_ _ | refine Ext.gw ?_ _ | refine Ext.drew ?_)⟩
end Go.Proofs.Ytjfeicbffioinaa
