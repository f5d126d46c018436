/- 'append(s, x...)' onto an empty slice of the call's own: all elements of x are copied. Over any program. -/
import Derived.Test.YtkgnfmdeimaedaaOwn
namespace Go.Proofs.Ytkgnfmdeimaedaa
open Go.RowKit
set_option linter.unusedVariables false

theorem wpList_append_all {P : Program} {ops : Array Oper} {rest : List Oper} {o : Oper} {a : Act} {Q : Exit → Act → World → Prop} {w : World} (hgd : o.guard = none) (s x : Operand) {t e size bytes : Nat} {z : Value} (hE : ElemOk P t e z size bytes)
    (ho : o.op = .call { callee := .builtin .append, args := #[s, x], argTypes := #[t, t] }) {base n c g off : Nat} {v : Value} {F : Nat → Nat → Value} (hs : a.eval s = v) (hown : OwnS w base e size v 0 F)
    (hx : a.eval x = .slice (some ⟨g, off, none⟩) n c) (hr : ∀ i j, i < n → j < size → w.cell? ⟨g, off + i * size + j, none⟩ = some (F i j)) (h1 : ∀ i j, i < n → j < size → (F i j).oneCell' = true)
    (hn : n < 1099511627776) (hb : base ≤ w.heap.size)
    (h : ∀ v' w', OwnS w' base e size v' n F → (∀ W, Ext W w → W.heap.size ≤ base → Ext W w') → wpList P ops Q rest (a.put o.dst v') w') :
    wpList P ops Q (o :: rest) a w := by
  obtain ⟨xs, h2, h3⟩ := hown
  obtain ⟨i, hi, hz, hsz, hby⟩ := hE.hi
  have hpos := hE.pos
  have hxs : xs = [] := by
    have := h2.1
    rw [Nat.zero_mul] at this
    exact List.length_eq_zero_iff.1 this
  have hget : ∀ j, j < n * size → j / size < n ∧ j % size < size := fun j hj => ⟨Nat.div_lt_of_lt_mul (by rw [Nat.mul_comm]; exact hj), Nat.mod_lt _ hpos⟩
  refine wpList_append_own (P := P) w hgd s x t ho base e i z size bytes hE.ht hi hz hsz hby hE.hz hE.pos v 0 xs hs h2 ⟨g, off, none⟩ n c ((List.range (n * size)).map fun q => F (q / size) (q % size)) hx (by simp) ?_ ?_ ?_ ?_ hb ?_
  · intro j u hu
    have e1 : (⟨g, off, none⟩ : Addr).add j = ⟨g, off + j, none⟩ := by unfold Addr.add; split <;> simp_all
    rw [List.getElem?_map] at hu
    cases hj : (List.range (n * size))[j]? with
    | none => rw [hj] at hu; cases hu
    | some q =>
      rw [hj] at hu
      injection hu with hu
      obtain ⟨hlt, hq⟩ := List.getElem?_eq_some_iff.1 hj
      rw [List.length_range] at hlt
      rw [List.getElem_range] at hq
      subst hq hu
      obtain ⟨g1, g2⟩ := hget j hlt
      have := hr (j / size) (j % size) g1 g2
      rw [e1]
      rw [Nat.add_assoc, Nat.mul_comm, Nat.div_add_mod] at this
      exact this
  · intro u hu
    obtain ⟨q, hq, rfl⟩ := List.mem_map.1 hu
    rw [List.mem_range] at hq
    obtain ⟨g1, g2⟩ := hget q hq
    exact h1 _ _ g1 g2
  · unfold maxLen; omega
  · have := hE.small
    calc (0 + n) * bytes ≤ 1099511627776 * 64 := Nat.mul_le_mul (by omega) this
      _ ≤ 140737488355328 := by omega
  · intro v' w' hown' hgrow _
    rw [Nat.zero_add] at hown'
    refine h v' w' ⟨_, hown', fun i j hi' hj => ?_⟩ (fun W hW hWb => hW.grown hgrow (fun k hk => Nat.le_trans hWb (h2.lt k hk).1))
    have hlt : i * size + j < n * size := by
      calc i * size + j < i * size + size := by omega
        _ = (i + 1) * size := by rw [Nat.add_mul, Nat.one_mul]
        _ ≤ n * size := Nat.mul_le_mul_right _ hi'
    rw [hxs, List.nil_append, List.getElem?_map, List.getElem?_range hlt]
    show some (F ((i * size + j) / size) ((i * size + j) % size)) = some (F i j)
    have e1 : (i * size + j) / size = i := by rw [Nat.mul_comm, Nat.mul_add_div hpos, Nat.div_eq_of_lt hj, Nat.add_zero]
    have e2 : (i * size + j) % size = j := by rw [Nat.mul_comm, Nat.mul_add_mod, Nat.mod_eq_of_lt hj]
    rw [e1, e2]
end Go.Proofs.Ytkgnfmdeimaedaa
