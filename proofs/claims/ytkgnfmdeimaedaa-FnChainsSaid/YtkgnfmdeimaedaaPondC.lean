/- slices.Clone of a list. -/
import Derived.Test.YtkgnfmdeimaedaaPondS
import Derived.Test.YtkgnfmdeimaedaaAppAll
import Derived.Lib.SliceRun
namespace Go.Proofs.Ytkgnfmdeimaedaa
open Go.RowKit
set_option linter.unusedVariables false

set_option maxHeartbeats 1000000 in
theorem clonePond_any (g off n c : Nat) (m : Nat → Pd) (w : World) (hc : c ≤ maxLen) (hnc : n ≤ c) (hr : Rd w (some ⟨g, off, none⟩) n 6 (pdF m)) (hn : 0 < n) (hn2 : n ≤ 1000000) :
    Calls Try.prog 67 #[.slice (some ⟨g, off, none⟩) n c] w (RetO 51 6 n (pdF m) w) := by
  unfold maxLen at *
  have HC : Hid (∀ i j, i < n → j < 6 → w.cell? ⟨g, off + i * 6 + j, none⟩ = some (pdF m i j)) := Lib.hid (fun i j hi hj => by
    obtain ⟨g2, off2, hA, _, hcell⟩ := hr hn
    injection hA with hA
    injection hA with e1 e2 _
    subst e1 e2
    have := hcell i j hi hj
    rw [Nat.add_assoc]
    exact this)
  obtain ⟨g2, off2, hA, hg, _⟩ := hr hn
  injection hA with hA
  injection hA with e1 e2 _
  subst e1 e2
  clear hr
  have q22 : ∀ (w : World) (a : Option Addr) (n c n' c' : Nat), (binOp .eql 25 (.slice a n c) (.slice none n' c')).run Try.prog w = .ok (.bool a.isNone) w := fun w a n c n' c' => Lib.run_eql_slice_nil w _ _ a n c n' c' Try.underlying25
  go_enter Try.func67, Try.ntmps67
  go_wp2_with (at_builtin; refine wpList_append_all rfl _ _ elPond rfl rfl (own_empty w w.heap.size rfl (Nat.le_refl _)) rfl (fun i j hi hj => ((Ext.alloc (Ext.refl w) _).cell hg).trans (HC.out i j hi hj)) (fun i j _ hj => pdF_one m i j hj) (by omega) (by simp) ?_)
  intro v' w' hown hx
  have hx2 := hx w (Ext.alloc (Ext.refl w) _) (Nat.le_refl _)
  go_wp2
  go_ret
  exact ⟨_, rfl, hown, hx2⟩
end Go.Proofs.Ytkgnfmdeimaedaa
