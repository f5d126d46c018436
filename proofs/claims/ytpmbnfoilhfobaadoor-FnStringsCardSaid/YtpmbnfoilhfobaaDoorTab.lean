/- The library's table of powers of ten in worlds that grow, and the program's numeral. -/
import Derived.Test.YtpmbnfoilhfobaaDoorNum
import Derived.Test.YtpmbnfoilhfobaaDoorShItoa
import Derived.Stop.LaidErr
import Derived.Lib.LaidTab
import Derived.Lib.QuietBelow
namespace Go.Proofs.YtpmbnfoilhfobaaDoor
open Go.RowKit
set_option linter.unusedVariables false

theorem var_ext {P : Program} {w w' : World} {n : String} {cs : Array Value} (h : w.var? P n = some cs) (hx : Ext w w') : w'.var? P n = some cs := by
  unfold World.var? at h ⊢
  cases hg : P.globalNamed n with
  | none => rw [hg] at h; cases h
  | some g =>
    rw [hg] at h
    simp only [Option.bind_some] at h ⊢
    have hlt : g < w.heap.size := by
      rcases Nat.lt_or_ge g w.heap.size with h' | h'
      · exact h'
      · simp [Array.getElem?_eq_none h'] at h
    rw [hx.heap hlt]
    exact h
def TabW (w : World) : Prop := Lib.TabIs Tryd.prog w "internal/strconv.uint64pow10" .u64 Lib.pow10Tab
theorem TabW.ext {w w' : World} (h : TabW w) (hx : Ext w w') : TabW w' := var_ext h hx
theorem tab_laid {W : World} {a b : String × DataW Unit} {r : List (String × DataW Unit)} (h : laidMet Tryd.prog (a :: b :: ("internal/strconv.uint64pow10", Rows.laid_internal_strconv_uint64pow10) :: r) W) : TabW W :=
  Lib.tabIs_of_head (g := 3) (t := 133) (e := 68) (n := 20) (by kernel_rfl) (by kernel_rfl) (by kernel_rfl) (by kernel_rfl) (by kernel_rfl) (by kernel_rfl) h.tail.tail
theorem ext_grown (w : World) (k : Nat) (os : Array Obj) : Ext w (Sort.grow (w.drewN k) os) := by
  exact ⟨rfl, rfl, rfl, by simp, fun i hi => by
    show (w.heap ++ os)[i]? = w.heap[i]?
    exact Array.getElem?_append_left hi⟩
theorem itoa_any (n : Int) (w : World) (h0 : -9223372036854775808 ≤ n) (h1 : n ≤ 9223372036854775807) (ht : TabW w) : Calls Tryd.prog 71 #[.int .i64 n] w fun e w' => e = .returned (.string (iB n)) ∧ Ext w w' :=
  (Tryd.strconv_Itoa n h0 h1 w ht).mono fun e w' ⟨he, k, os, hw⟩ => ⟨he, by rw [hw]; exact ext_grown w k os⟩
theorem decimal_any (n : Int) (w : World) (h0 : -9223372036854775808 ≤ n) (h1 : n ≤ 9223372036854775807) (ht : TabW w) : Calls Tryd.prog 46 #[.int .i64 n] w fun e w' => e = .returned (.string (iB n)) ∧ Ext w w' := by
  have HT := Lib.hid ht
  clear ht
  go_enter Tryd.func46, Tryd.ntmps46
  go_wp2_with (go_at_call 71; refine (itoa_any n _ h0 h1 HT.out).mono ?_; rintro e w1 ⟨rfl, hx⟩; obtain ⟨x, rfl⟩ := hx.to_gw; clear hx)
  go_ret
  exact ⟨rfl, by repeat (with_reducible first | exact Ext.refl _ | refine Ext.setCell ?_ (by first | (simp; done) | (simp; omega)) _ | refine Ext.alloc ?_ _ | refine Ext.gw ?_ _ | refine Ext.drew ?_)⟩
end Go.Proofs.YtpmbnfoilhfobaaDoor
