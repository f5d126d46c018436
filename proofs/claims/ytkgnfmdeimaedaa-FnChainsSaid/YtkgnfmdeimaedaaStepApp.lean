/- Appends inside a region that draws its order: onto an empty slice of no room; of one element onto a slice of the call's own. Over any program. -/
import Derived.Test.YtkgnfmdeimaedaaOwn
import Derived.Deep.AppendLies
namespace Go.Proofs.Ytkgnfmdeimaedaa
open Go.RowKit
set_option linter.unusedVariables false

def newsOf (F : Nat → Nat → Value) (m size : Nat) : List Value := (List.range (m * size)).map fun q => F (q / size) (q % size)
theorem newsOf_length (F : Nat → Nat → Value) (m size : Nat) : (newsOf F m size).length = m * size := by simp [newsOf]
theorem newsOf_at (F : Nat → Nat → Value) {m size i j : Nat} (hi : i < m) (hj : j < size) : (newsOf F m size)[i * size + j]? = some (F i j) := by
  have hpos : 0 < size := by omega
  have hlt : i * size + j < m * size := by
    calc i * size + j < i * size + size := by omega
      _ = (i + 1) * size := by rw [Nat.add_mul, Nat.one_mul]
      _ ≤ m * size := Nat.mul_le_mul_right _ hi
  unfold newsOf
  rw [List.getElem?_map, List.getElem?_range hlt]
  show some (F ((i * size + j) / size) ((i * size + j) % size)) = some (F i j)
  have e1 : (i * size + j) / size = i := by rw [Nat.mul_comm, Nat.mul_add_div hpos, Nat.div_eq_of_lt hj, Nat.add_zero]
  have e2 : (i * size + j) % size = j := by rw [Nat.mul_comm, Nat.mul_add_mod, Nat.mod_eq_of_lt hj]
  rw [e1, e2]
theorem newsOf_get {F : Nat → Nat → Value} {m size q : Nat} {u : Value} (hpos : 0 < size) (h : (newsOf F m size)[q]? = some u) : q / size < m ∧ q % size < size ∧ F (q / size) (q % size) = u ∧ q / size * size + q % size = q := by
  unfold newsOf at h
  rw [List.getElem?_map] at h
  cases hj : (List.range (m * size))[q]? with
  | none => rw [hj] at h; cases h
  | some r =>
    rw [hj] at h
    injection h with h
    obtain ⟨hlt, hq⟩ := List.getElem?_eq_some_iff.1 hj
    rw [List.length_range] at hlt
    rw [List.getElem_range] at hq
    subst hq
    exact ⟨Nat.div_lt_of_lt_mul (by rw [Nat.mul_comm]; exact hlt), Nat.mod_lt _ hpos, h, by rw [Nat.mul_comm]; exact Nat.div_add_mod _ _⟩
section
variable {P : Program}
theorem step_fresh {ops : Array Oper} {o : Oper} {a : Act} {K : Act → World → Prop} {Q : Exit → Act → World → Prop} {E : Prop} {w : World} (hgd : o.guard = none) (s x : Operand) {t e size bytes : Nat} {z : Value} (hE : ElemOk P t e z size bytes)
    (ho : o.op = .call { callee := .builtin .append, args := #[s, x], argTypes := #[t, t] }) {base m c g off : Nat} {A0 : Addr} (hs : a.eval s = .slice (some A0) 0 0) (F : Nat → Nat → Value) (hx : a.eval x = .slice (some ⟨g, off, none⟩) m c)
    (hr : ∀ i j, i < m → j < size → w.cell? ⟨g, off + (i * size + j), none⟩ = some (F i j)) (hm0 : 0 < m) (hm : m < 1099511627776) (hb : base ≤ w.heap.size)
    (h : ∀ v' w', OwnS w' base e size v' m F → Ext w w' → K (a.put o.dst v') w') :
    if Region.wanted o (yielded ops a.tmps) = true then Oper.wp P o a w K Q else E := by
  have hw : Region.wanted o (yielded ops a.tmps) = true := by simp [Region.wanted, hgd]
  rw [if_pos hw]
  obtain ⟨i, hi, hz, hsz, hby⟩ := hE.hi
  have hpos := hE.pos
  subst hsz
  subst hby
  have hsm := hE.small
  have hbytes : m * i.bytes ≤ 140737488355328 := by
    calc m * i.bytes ≤ 1099511627776 * 64 := Nat.mul_le_mul (by omega) hsm
      _ ≤ 140737488355328 := by omega
  have hl := newsOf_length F m i.size
  have hr' := run_append_grow (P := P) w t o.type e i z hE.ht hi hz A0 0 0 [] (by simp) (by simp) ⟨g, off, none⟩ m c (newsOf F m i.size) hl (fun j u hu => by
    obtain ⟨g1, g2, g3, g4⟩ := newsOf_get hpos hu
    have e1 : (⟨g, off, none⟩ : Addr).add j = ⟨g, off + j, none⟩ := by unfold Addr.add; split <;> simp_all
    have := hr _ _ g1 g2
    rw [g4] at this
    rw [e1, this, g3]) (by omega) (by omega) (growslice_fits (by omega) (by rw [Nat.zero_add]; exact hbytes))
  unfold Oper.wp execOp
  simp only [ho, resolve, invoke, builtin, Sem.run_bind, Sem.run_pure, Result.andThen_ok, List.map_toArray, List.map_cons, List.map_nil, hs, hx, hr']
  have hge := grownCap_ge w (0 + m) 0 e
  have hcm : grownCap w (0 + m) 0 e ≤ maxLen := grownCap_le_maxLen w (0 + m) 0 e (by unfold maxLen; omega)
  simp only [Nat.zero_add] at hge hcm ⊢
  refine h _ _ ⟨newsOf F m i.size, ⟨hl, .inr ⟨w.heap.size, _, _, rfl, hb, heap_alloc_new w.drew _, hge, hcm, ?_, ?_⟩⟩, fun i' j hi' hj => newsOf_at F hi' hj⟩ ((Ext.drew (Ext.refl w)).alloc _)
  · simp only [Array.size_append, List.size_toArray, size_zeroCells, hE.hz, hl, List.length_nil, Nat.zero_add, ← Nat.add_mul]
    congr 1
    omega
  · simp only [Array.toList_append, List.nil_append]
    rw [← hl]
    exact List.take_left
theorem step_one {ops : Array Oper} {o : Oper} {a : Act} {K : Act → World → Prop} {Q : Exit → Act → World → Prop} {E : Prop} {w : World} (hgd : o.guard = none) (s x : Operand) {t e size bytes : Nat} {z : Value} (hE : ElemOk P t e z size bytes)
    (ho : o.op = .call { callee := .builtin .append, args := #[s, x], argTypes := #[t, t] }) {base n g c : Nat} {v : Value} (f : Nat → Nat → Value) (hs : a.eval s = v) (hown : OwnS w base e size v n f) (hx : a.eval x = .slice (some ⟨g, 0, none⟩) 1 c)
    (hr : ∀ j, j < size → w.cell? ⟨g, j, none⟩ = some (f n j)) (h1 : ∀ j, j < size → (f n j).oneCell' = true) (hn : n < 1099511627776) (hb : base ≤ w.heap.size)
    (h : ∀ v' w', OwnS w' base e size v' (n + 1) f → (∀ W, Ext W w → W.heap.size ≤ base → Ext W w') → K (a.put o.dst v') w') :
    if Region.wanted o (yielded ops a.tmps) = true then Oper.wp P o a w K Q else E := by
  have hw : Region.wanted o (yielded ops a.tmps) = true := by simp [Region.wanted, hgd]
  rw [if_pos hw]
  obtain ⟨i, hi, hz, hsz, hby⟩ := hE.hi
  have hpos := hE.pos
  have hsm := hE.small
  obtain ⟨xs, h2, h3⟩ := hown
  have hl : (newsOf (fun _ j => f n j) 1 size).length = 1 * size := newsOf_length _ _ _
  obtain ⟨v', w', hr', h4, h5, _⟩ := run_append_own_at (P := P) w base t o.type e i z size bytes hE.ht hi hz hsz hby hE.hz hpos v n xs h2 ⟨g, 0, none⟩ 1 c (newsOf (fun _ j => f n j) 1 size) hl (fun j u hu => by
    obtain ⟨g1, g2, g3, g4⟩ := newsOf_get hpos hu
    have e1 : (⟨g, 0, none⟩ : Addr).add j = ⟨g, j, none⟩ := by unfold Addr.add; split <;> simp_all
    have h0 : j / size = 0 := Nat.lt_one_iff.1 g1
    rw [h0, Nat.zero_mul, Nat.zero_add] at g4
    rw [g4] at g3
    rw [e1, hr j (by rw [← g4]; exact g2)]
    exact congrArg some g3) (fun u hu => by
    obtain ⟨q, hq⟩ := List.getElem?_of_mem hu
    obtain ⟨_, g2, g3, _⟩ := newsOf_get hpos hq
    rw [← g3]
    exact h1 _ g2) (by unfold maxLen; omega) (by
    calc (n + 1) * bytes ≤ 1099511627776 * 64 := Nat.mul_le_mul (by omega) hsm
      _ ≤ 140737488355328 := by omega) hb
  unfold Oper.wp execOp
  simp only [ho, resolve, invoke, builtin, Sem.run_bind, Sem.run_pure, Result.andThen_ok, List.map_toArray, List.map_cons, List.map_nil, hs, hx, hr']
  refine h v' w' ⟨_, h4, fun i' j hi' hj => ?_⟩ (fun W hW hWb => hW.grown h5 (fun k hk => Nat.le_trans hWb (h2.lt k hk).1))
  by_cases hin : i' < n
  · rw [List.getElem?_append_left, h3 i' j hin hj]
    exact (List.getElem?_eq_some_iff.1 (h3 i' j hin hj)).1
  · obtain rfl : i' = n := by omega
    have := newsOf_at (fun _ j => f i' j) (m := 1) (i := 0) (by omega) hj
    rw [Nat.zero_mul, Nat.zero_add] at this
    rw [List.getElem?_append_right (by rw [h2.1]; omega), h2.1, show i' * size + j - i' * size = j by omega, this]
end
end Go.Proofs.Ytkgnfmdeimaedaa
