/- Worlds that only grow: the words 'Ext' and 'gw', and how a region that draws its order is walked once over all such worlds. No program in sight. -/
import Derived.WalkKit
import Derived.BigQuiet
import Derived.WalkLawsBesides
import Derived.WalkSpells
import Derived.Lib.Hide
namespace Go.Proofs.YtpmbnfoilhfobaaDoor
open Go.RowKit
set_option linter.unusedVariables false

/-- Nothing that lay in w has turned in w'. -/
def Ext (w w' : World) : Prop := Below w.heap.size w w'

theorem Ext.refl (w : World) : Ext w w := Below.refl _ _
theorem Ext.trans {a b c : World} (h : Ext a b) (k : Ext b c) : Ext a c := by
  unfold Ext at *
  exact h.trans (k.mono h.size)
theorem Ext.alloc {a w : World} (h : Ext a w) (o : Obj) : Ext a (w.alloc o) := Below.alloc h h.size o
theorem Ext.drew {a w : World} (h : Ext a w) : Ext a w.drew := Below.drew h
theorem Ext.drewN {a w : World} (h : Ext a w) (n : Nat) : Ext a (w.drewN n) := ⟨h.os, h.tape, h.output, h.size, h.block⟩
theorem Ext.setCell {a w : World} (h : Ext a w) {p : Addr} (hp : a.heap.size ≤ p.block) (u : Value) : Ext a (w.setCell p u) := Below.setCell h hp u
theorem Ext.grown {a w w' : World} {row : Option Nat} (h : Ext a w) (hg : w.grownBy w' row) (hr : ∀ k, row = some k → a.heap.size ≤ k) : Ext a w' :=
  Below.grown h hg h.size hr
theorem Ext.cell {w w' : World} (h : Ext w w') {p : Addr} (hp : p.block < w.heap.size) : w'.cell? p = w.cell? p := Below.cell h hp
theorem Ext.frozen {w w' : World} (h : Ext w w') {p : Addr} (hp : p.block < w.heap.size) : w'.frozen? p = w.frozen? p := Below.frozen h hp
theorem Ext.size_le {w w' : World} (h : Ext w w') : w.heap.size ≤ w'.heap.size := Below.size h
theorem Ext.heap {w w' : World} (h : Ext w w') {k : Nat} (hk : k < w.heap.size) : w'.heap[k]? = w.heap[k]? := Below.block h k hk

open Classical in
/-- The world x where it is a growth of w; else w: so 'gw w x' is any growth of w, and a letter x names it. -/
noncomputable def gw (w x : World) : World := if Ext w x then x else w

theorem ext_gw (w x : World) : Ext w (gw w x) := by
  unfold gw
  split
  · assumption
  · exact Ext.refl w
theorem Ext.to_gw {w w' : World} (h : Ext w w') : ∃ x, w' = gw w x := ⟨w', by unfold gw; rw [if_pos h]⟩
theorem Ext.gw {a w : World} (h : Ext a w) (x : World) : Ext a (Go.Proofs.YtpmbnfoilhfobaaDoor.gw w x) := h.trans (ext_gw w x)

@[simp, go_sem] theorem gw_cell (w x : World) (a : Addr) (h : a.block < w.heap.size) : (gw w x).cell? a = w.cell? a := (ext_gw w x).cell h
@[simp, go_sem] theorem gw_frozen (w x : World) (a : Addr) (h : a.block < w.heap.size) : (gw w x).frozen? a = w.frozen? a := (ext_gw w x).frozen h
@[simp, go_sem] theorem gw_lt (w x : World) (n : Nat) (h : n < w.heap.size) : n < (gw w x).heap.size := Nat.lt_of_lt_of_le h (ext_gw w x).size_le
@[simp, go_sem] theorem gw_lt1 (w x : World) (n : Nat) (h : n < w.heap.size) : n < (gw w x).heap.size + 1 := Nat.lt_succ_of_lt (gw_lt w x n h)
@[simp, go_sem] theorem gw_lt2 (w x : World) (n : Nat) (h : n < w.heap.size) : n < (gw w x).heap.size + 1 + 1 := Nat.lt_succ_of_lt (gw_lt1 w x n h)
@[simp, go_sem] theorem gw_lt3 (w x : World) (n : Nat) (h : n < w.heap.size) : n < (gw w x).heap.size + 1 + 1 + 1 := Nat.lt_succ_of_lt (gw_lt2 w x n h)
@[simp, go_sem] theorem gw_le (w x : World) (n : Nat) (h : n ≤ w.heap.size) : n ≤ (gw w x).heap.size := Nat.le_trans h (ext_gw w x).size_le
@[simp, go_sem] theorem gw_le1 (w x : World) (n : Nat) (h : n ≤ w.heap.size) : n ≤ (gw w x).heap.size + 1 := Nat.le_succ_of_le (gw_le w x n h)
@[simp, go_sem] theorem gw_ne (w x : World) (n : Nat) (h : n < w.heap.size) : (n = (gw w x).heap.size) = False := eq_false (Nat.ne_of_lt (gw_lt w x n h))
@[simp, go_sem] theorem gw_ne' (w x : World) (n : Nat) (h : n < w.heap.size) : ((gw w x).heap.size = n) = False := eq_false (Nat.ne_of_gt (gw_lt w x n h))
@[simp, go_sem] theorem gw_alloc_cell (w x : World) (o : Obj) (a : Addr) (h : a.block < w.heap.size) : ((gw w x).alloc o).cell? a = w.cell? a := (((ext_gw w x).alloc o)).cell h
@[simp, go_sem] theorem gw_alloc2_cell (w x : World) (o o2 : Obj) (a : Addr) (h : a.block < w.heap.size) : (((gw w x).alloc o).alloc o2).cell? a = w.cell? a := (((ext_gw w x).alloc o).alloc o2).cell h
@[simp, go_sem] theorem gw_alloc3_cell (w x : World) (o o2 o3 : Obj) (a : Addr) (h : a.block < w.heap.size) : ((((gw w x).alloc o).alloc o2).alloc o3).cell? a = w.cell? a := ((((ext_gw w x).alloc o).alloc o2).alloc o3).cell h
@[simp, go_sem] theorem gw_alloc_gw_cell (w x y : World) (o : Obj) (a : Addr) (h : a.block < w.heap.size) : (gw ((gw w x).alloc o) y).cell? a = w.cell? a := (((ext_gw w x).alloc o).gw y).cell h
@[simp, go_sem] theorem gw_alloc2_gw_cell (w x y : World) (o o2 : Obj) (a : Addr) (h : a.block < w.heap.size) : (gw (((gw w x).alloc o).alloc o2) y).cell? a = w.cell? a := ((((ext_gw w x).alloc o).alloc o2).gw y).cell h
@[simp, go_sem] theorem gw_alloc_frozen (w x : World) (o : Obj) (a : Addr) (h : a.block < w.heap.size) : ((gw w x).alloc o).frozen? a = w.frozen? a := (((ext_gw w x).alloc o)).frozen h
@[simp, go_sem] theorem gw_alloc2_frozen (w x : World) (o o2 : Obj) (a : Addr) (h : a.block < w.heap.size) : (((gw w x).alloc o).alloc o2).frozen? a = w.frozen? a := (((ext_gw w x).alloc o).alloc o2).frozen h
@[simp, go_sem] theorem gw_alloc3_frozen (w x : World) (o o2 o3 : Obj) (a : Addr) (h : a.block < w.heap.size) : ((((gw w x).alloc o).alloc o2).alloc o3).frozen? a = w.frozen? a := ((((ext_gw w x).alloc o).alloc o2).alloc o3).frozen h
@[simp, go_sem] theorem gw_alloc_gw_frozen (w x y : World) (o : Obj) (a : Addr) (h : a.block < w.heap.size) : (gw ((gw w x).alloc o) y).frozen? a = w.frozen? a := (((ext_gw w x).alloc o).gw y).frozen h
@[simp, go_sem] theorem gw_alloc2_gw_frozen (w x y : World) (o o2 : Obj) (a : Addr) (h : a.block < w.heap.size) : (gw (((gw w x).alloc o).alloc o2) y).frozen? a = w.frozen? a := ((((ext_gw w x).alloc o).alloc o2).gw y).frozen h
@[simp, go_sem] theorem gw_gw_cell (w x y : World) (a : Addr) (h : a.block < w.heap.size) : (gw (gw w x) y).cell? a = w.cell? a := ((ext_gw w x).gw y).cell h
@[simp, go_sem] theorem gw_gw_frozen (w x y : World) (a : Addr) (h : a.block < w.heap.size) : (gw (gw w x) y).frozen? a = w.frozen? a := ((ext_gw w x).gw y).frozen h
@[simp, go_sem] theorem gw_gw_lt (w x y : World) (n : Nat) (h : n < w.heap.size) : n < (gw (gw w x) y).heap.size := Nat.lt_of_lt_of_le h ((ext_gw w x).gw y).size_le
@[simp, go_sem] theorem gw_gw_alloc_cell (w x y : World) (o : Obj) (a : Addr) (h : a.block < w.heap.size) : ((gw (gw w x) y).alloc o).cell? a = w.cell? a := (((ext_gw w x).gw y).alloc o).cell h
theorem gw_heap (w x : World) (k : Nat) (h : k < w.heap.size) : (gw w x).heap[k]? = w.heap[k]? := (ext_gw w x).heap h

/-- A drawn region's start, over the class of the growths of the world at hand. -/
theorem wp_region_grow {P : Program} {id : Nat} {Q : Exit → Act → World → Prop} {a : Act} {w : World} {l : List Oper} (hm : P.follows .mixedOrders = true) (hB : Region.lexB .any l.toArray = true)
    (h : wpQuiet P l.toArray (fun w' => ∃ x, w' = gw w x) (fun a' => ∀ w', (∃ x, w' = gw w x) → Q .normal a' w') l a) : (Code.region id l.toArray true).wp P Q a w :=
  wp_region_quiet (C := fun w' => ∃ x, w' = gw w x) hm hB (Ext.to_gw (Ext.drew (Ext.refl w))) (by simpa using h)

theorem Ext.flat {w x w' : World} (h : Ext (Go.Proofs.YtpmbnfoilhfobaaDoor.gw w x) w') : Ext w w' := (ext_gw w x).trans h
/-- The same where the world at hand is itself named as a growth. -/
theorem wp_region_grow2 {P : Program} {id : Nat} {Q : Exit → Act → World → Prop} {a : Act} {w x : World} {l : List Oper} (hm : P.follows .mixedOrders = true) (hB : Region.lexB .any l.toArray = true)
    (h : wpQuiet P l.toArray (fun w' => ∃ x, w' = gw w x) (fun a' => ∀ w', (∃ x, w' = gw w x) → Q .normal a' w') l a) : (Code.region id l.toArray true).wp P Q a (gw w x) :=
  wp_region_quiet (C := fun w' => ∃ x, w' = gw w x) hm hB (Ext.to_gw (Ext.drew (ext_gw w x))) (by simpa using h)

/-- A callee's contract, met in a growth of w. -/
theorem grow_of {P : Program} {f : FuncId} {args : Array Value} {w x : World} {v : Value}
    (h : Calls P f args (gw w x) fun e w' => e = .returned v ∧ Ext (gw w x) w') : Calls P f args (gw w x) fun e w'' => e = .returned v ∧ ∃ y, w'' = gw w y :=
  h.mono fun _ _ ⟨he, hy⟩ => ⟨he, (((Ext.refl w).gw x).trans hy).to_gw⟩
theorem grow_same {P : Program} {f : FuncId} {args : Array Value} {w x : World} {v : Value}
    (h : Calls P f args (gw w x) fun e w' => e = .returned v ∧ gw w x = w') : Calls P f args (gw w x) fun e w'' => e = .returned v ∧ ∃ y, w'' = gw w y :=
  h.mono fun _ _ ⟨he, hy⟩ => ⟨he, x, hy.symm⟩

theorem ret_int {k : IntKind} {a b : Int} (h : a = b) : Ending.returned (.int k a) = .returned (.int k b) := by rw [h]
theorem ret_bool {a b : Bool} (h : a = b) : Ending.returned (.bool a) = .returned (.bool b) := by rw [h]

/-- a ≤ n ≤ b, closed to the walk. -/
def inB (n a b : Int) : Bool := decide (a ≤ n ∧ n ≤ b)
theorem inB_pos {n a b : Int} (h1 : a ≤ n) (h2 : n ≤ b) : inB n a b = true := by unfold inB; simp [h1, h2]
theorem inB_neg {n a b : Int} (h : ¬ (a ≤ n ∧ n ≤ b)) : inB n a b = false := by unfold inB; exact decide_eq_false h
theorem inB_iff {n a b : Int} : inB n a b = true ↔ a ≤ n ∧ n ≤ b := by unfold inB; exact decide_eq_true_iff
end Go.Proofs.YtpmbnfoilhfobaaDoor
