/- An append that keeps in sight what other new blocks hold. Over any program. -/
import Derived.Test.YtkgnfmdeimaedaaOwn
namespace Go.Proofs.Ytkgnfmdeimaedaa
open Go.RowKit
set_option linter.unusedVariables false

section
variable {P : Program}
theorem cell_of_heap {w w' : World} {b : Nat} (h : w'.heap[b]? = w.heap[b]?) (o : Nat) : w'.cell? ⟨b, o, none⟩ = w.cell? ⟨b, o, none⟩ := by
  simp only [World.cell?, h]
theorem wpList_append_K {ops : Array Oper} {rest : List Oper} {o : Oper} {a : Act} {Q : Exit → Act → World → Prop} {w : World} (Wb : World) (base : Nat) (hbs : Wb.heap.size = base) (hW : Ext Wb w) (hgd : o.guard = none) (s x : Operand) {t e size bytes : Nat} {z : Value} (hE : ElemOk P t e z size bytes)
    (ho : o.op = .call { callee := .builtin .append, args := #[s, x], argTypes := #[t, t] }) {n : Nat} {v : Value} {f : Nat → Nat → Value} (hs : a.eval s = v) (hown : OwnS w base e size v n f)
    (cs : Array Value) (t' : TypeId) (hx : a.eval x = .slice (some ⟨w.heap.size, 0, none⟩) 1 1) (hcs : cs.size = size) (hn : n < 1099511627776) (hcv : ∀ j, j < size → cs[j]? = some (f n j)) (h1 : ∀ j, j < size → (f n j).oneCell' = true)
    (h : ∀ v' y, OwnS (gw Wb y) base e size v' (n + 1) f → (∀ b, b < w.heap.size → v.ownBlock ≠ some b → b < (gw Wb y).heap.size ∧ ∀ o, (gw Wb y).cell? ⟨b, o, none⟩ = w.cell? ⟨b, o, none⟩) → wpList P ops Q rest (a.put o.dst v') (gw Wb y)) :
    wpList P ops Q (o :: rest) a (w.alloc (.cells cs t')) :=
  wpList_append_S hgd s x hE ho hs hown cs t' hx hcs hcv h1 hn (by rw [← hbs]; exact hW.size_le) fun v' w' h2 h3 h4 => by
    obtain ⟨y, rfl⟩ := (h3 Wb hW (by rw [hbs]; exact Nat.le_refl _)).to_gw
    refine h v' y h2 fun b hb hne => ?_
    have h5 := h4 b hb hne
    refine ⟨?_, fun o => cell_of_heap h5 o⟩
    rcases Nat.lt_or_ge b (gw Wb y).heap.size with h6 | h6
    · exact h6
    · rw [Array.getElem?_eq_none h6, Array.getElem?_eq_getElem hb] at h5
      cases h5
theorem wpList_append_KD {ops : Array Oper} {rest : List Oper} {o : Oper} {a : Act} {Q : Exit → Act → World → Prop} {w : World} (Wb : World) (base : Nat) (hbs : Wb.heap.size = base) (hW : Ext Wb w) (hgd : o.guard = none) (s x : Operand) {t e size bytes : Nat} {z : Value} (hE : ElemOk P t e z size bytes)
    (ho : o.op = .call { callee := .builtin .append, args := #[s, x], argTypes := #[t, t] }) {n : Nat} {v : Value} {f : Nat → Nat → Value} (hs : a.eval s = v) (hown : OwnS w base e size v n f)
    (cs : Array Value) (t' : TypeId) (hx : a.eval x = .slice (some ⟨w.heap.size, 0, none⟩) 1 1) (hcs : cs.size = size) (hn : n < 1099511627776) (hcv : ∀ j, j < size → cs[j]? = some (f n j)) (h1 : ∀ j, j < size → (f n j).oneCell' = true)
    (h : ∀ v' y, OwnS (gw Wb y) base e size v' (n + 1) f → (∀ b, b < w.heap.size → v.ownBlock ≠ some b → b < (gw Wb y).heap.size ∧ ∀ o, (gw Wb y).cell? ⟨b, o, none⟩ = w.cell? ⟨b, o, none⟩) → wpList P ops Q rest (a.put o.dst v') (gw Wb y)) :
    wpList P ops Q (o :: rest) a (w.alloc (.cells cs t')).drew :=
  wpList_append_K (w := w.drew) Wb base hbs hW.drew hgd s x hE ho hs (hown.ext (Ext.drew (Ext.refl _))) cs t' hx hcs hn hcv h1 h
end
end Go.Proofs.Ytkgnfmdeimaedaa
