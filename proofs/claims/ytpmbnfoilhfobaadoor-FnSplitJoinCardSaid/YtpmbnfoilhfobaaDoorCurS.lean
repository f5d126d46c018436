/- A cursor beside slices of the call's own: appends, literals, what stays. -/
import Derived.Test.YtpmbnfoilhfobaaDoorCur
import Derived.Deep.AppendLies
namespace Go.Proofs.YtpmbnfoilhfobaaDoor
open Go.RowKit
set_option linter.unusedVariables false

theorem Cur.kept {w0 w w' : World} {b m : Nat} {row : Option Nat} (h : Cur w0 w b m) (hg : w.grownBy w' row) (hne : row ≠ some b) (hr : ∀ k, row = some k → w0.heap.size ≤ k) : Cur w0 w' b m := by
  obtain ⟨A, n, c, z, p, s', a1, a2, a3, a4, a5, a6, a7, a8, a9, a10, f0, f1, f2⟩ := h
  have q : some b ≠ row := fun h => hne h.symm
  exact ⟨A, n, c, z, p, s', a1, a2.grown hg hr, a3, Nat.lt_of_lt_of_le a4 hg.size, hg.cell a5 q, hg.cell a6 q, hg.cell a7 q, a8, a9, a10, by rw [hg.frozen_far _ a4 q]; exact f0, by rw [hg.frozen_far _ a4 q]; exact f1, by rw [hg.frozen_far _ a4 q]; exact f2⟩
theorem wpList_append_C {P : Program} {ops : Array Oper} {rest : List Oper} {o : Oper} {a : Act} {Q : Exit → Act → World → Prop} {w : World} (hgd : o.guard = none) (s x : Operand) {t e size bytes : Nat} {z : Value} (hE : ElemOk P t e z size bytes)
    (ho : o.op = .call { callee := .builtin .append, args := #[s, x], argTypes := #[t, t] }) {base n g : Nat} {v : Value} {f : Nat → Nat → Value} (hs : a.eval s = v) (hown : OwnS w base e size v n f)
    {cs : Array Value} {t' : TypeId} (hx : a.eval x = .slice (some ⟨g, 0, none⟩) 1 1) (hg : g = w.heap.size) (hcs : cs.size = size) (hcv : ∀ j, j < size → cs[j]? = some (f n j)) (h1 : ∀ j, j < size → (f n j).oneCell' = true)
    (hn : n < 1099511627776) (hb : base ≤ w.heap.size)
    (h : ∀ v' w', OwnS w' base e size v' (n + 1) f → w.grownBy w' v.ownBlock → wpList P ops Q rest (a.put o.dst v') w') :
    wpList P ops Q (o :: rest) a (w.alloc (.cells cs t')) := by
  subst hg
  obtain ⟨xs, h2, h3⟩ := hown
  obtain ⟨i, hi, hz, hsz, hby⟩ := hE.hi
  have hone : ∀ u ∈ cs.toList, u.oneCell' = true := by
    intro u hu
    obtain ⟨j, hj, rfl⟩ := List.getElem_of_mem hu
    have hj' : j < size := by rw [Array.length_toList] at hj; omega
    have h4 := hcv j hj'
    rw [← Array.getElem?_toList, List.getElem?_eq_getElem hj] at h4
    injection h4 with h4
    rw [h4]
    exact h1 j hj'
  refine wpList_append_own (P := P) (w.alloc (.cells cs t')) hgd s x t ho base e i z size bytes hE.ht hi hz hsz hby hE.hz hE.pos v n xs hs (h2.alloc _) ⟨w.heap.size, 0, none⟩ 1 1 cs.toList hx (by simp [hcs]) ?_ hone ?_ ?_ (by simp; omega) ?_
  · intro j u hu
    have e1 : (⟨w.heap.size, 0, none⟩ : Addr).add j = ⟨w.heap.size, j, none⟩ := by unfold Addr.add; split <;> simp_all
    rw [e1, World.cell?_alloc_new]
    simpa using hu
  · unfold maxLen; omega
  · have := hE.small
    calc (n + 1) * bytes ≤ 1099511627776 * 64 := Nat.mul_le_mul (by omega) this
      _ ≤ 140737488355328 := by omega
  · intro v' w' hown' hgrow _
    refine h v' w' ⟨_, hown', fun i j hi' hj => ?_⟩ (grownBy_trans (World.grownBy_alloc w _ _) hgrow)
    · by_cases hin : i < n
      · rw [List.getElem?_append_left, h3 i j hin hj]
        exact (List.getElem?_eq_some_iff.1 (h3 i j hin hj)).1
      · obtain rfl : i = n := by omega
        rw [List.getElem?_append_right (by rw [h2.1]; omega), h2.1, show i * size + j - i * size = j by omega, Array.getElem?_toList, hcv j hj]
/-- A list written where it stands. -/
theorem own_new {e size base n : Nat} {f : Nat → Nat → Value} (w : World) (cs : Array Value) (g : Nat) (hg : g = w.heap.size) (hb : base ≤ g) (hn : n ≤ maxLen) (hcs : cs.size = n * size) (hf : ∀ i j, i < n → j < size → cs[i * size + j]? = some (f i j)) : OwnS (w.alloc (.cells cs e)) base e size (.slice (some ⟨g, 0, none⟩) n n) n f := by
  subst hg
  exact ⟨_, World.ownsRow_lit w cs n hb hn hcs, fun i j hi hj => by rw [Array.getElem?_toList]; exact hf i j hi hj⟩
theorem OwnS.far {w w' : World} {base e size n b : Nat} {v : Value} {f : Nat → Nat → Value} (h : OwnS w base e size v n f) (hg : w.grownBy w' (some b)) (hb : b < base) : OwnS w' base e size v n f :=
  h.kept hg (by
    rcases hv : v.ownBlock with _ | k
    · exact .inl rfl
    · exact .inr (fun h' => by have := (h.block k hv).1; have := Option.some.inj h'; omega))
/-- What a call's own slice was appended to leaves the cursor, and what was there when the call began. -/
theorem OwnS.cur {w0 w w' : World} {base e size n b m : Nat} {v : Value} {f : Nat → Nat → Value} (h : OwnS w base e size v n f) (hg : w.grownBy w' v.ownBlock) (hb : b < base) (hw : w0.heap.size ≤ base) (hc : Cur w0 w b m) : Cur w0 w' b m :=
  hc.kept hg (fun h' => by have := (h.block b h').1; omega) (fun k hk => Nat.le_trans hw (h.block k hk).1)
theorem OwnS.since {wa w w' : World} {base e size n : Nat} {row : Option Nat} {v : Value} {f : Nat → Nat → Value} (h : OwnS w base e size v n f) (hg : w.grownBy w' v.ownBlock) (hb : wa.heap.size ≤ base) (ha : wa.grownBy w row) : wa.grownBy w' row := by
  refine ⟨hg.os.trans ha.os, hg.tape.trans ha.tape, hg.output.trans ha.output, Nat.le_trans ha.size hg.size, fun k hk hne => (hg.block k (Nat.lt_of_lt_of_le hk ha.size) (fun h' => ?_)).trans (ha.block k hk hne)⟩
  have := (h.block k h'.symm).1
  omega
end Go.Proofs.YtpmbnfoilhfobaaDoor
