/- The walk of the law FnExactIsBrine. -/
import Derived.Test.YtkbbbplflfigkaaBrines
namespace Go.Proofs.Ytkbbbplflfigkaa
open Go.RowKit
theorem FnExactIsBrine_walk (a b : Int) (w : World) : Calls Try.prog 4 #[.agg #[.int .i64 a, .int .i64 b]] w fun e w' => e = .returned (.bool true) ∧ Ext w w' := by
  go_enter Try.func4, Try.ntmps4
  go_wp2_with (first
    | (go_at_call 18; refine (toBrine_any _ _ _).mono ?_; rintro e w1 ⟨rfl, hx⟩; obtain ⟨x, rfl⟩ := hx.to_gw)
    | (go_at_call 17; refine (specIsBrine_any _ _ _).mono ?_; rintro e w1 ⟨rfl, hx⟩; obtain ⟨x, rfl⟩ := hx.to_gw)
    | (go_at_call 19; refine (isBrine_any _ _ _).mono ?_; rintro e w1 ⟨rfl, hx⟩; obtain ⟨x, rfl⟩ := hx.to_gw))
  go_ret
  exact ⟨rfl, by repeat (first | exact Ext.refl _ | refine Ext.alloc ?_ _ | refine Ext.gw ?_ _)⟩
end Go.Proofs.Ytkbbbplflfigkaa
