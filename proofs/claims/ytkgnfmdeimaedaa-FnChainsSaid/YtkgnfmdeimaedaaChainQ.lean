/- Chain: what the program's walk stands on: a queue of its own, the world of the search, the way's closure. -/
import Derived.Test.YtkgnfmdeimaedaaChainT
import Derived.Test.YtkgnfmdeimaedaaKeep
import Derived.ArgAppend
namespace Go.Proofs.Ytkgnfmdeimaedaa
open Go.RowKit
set_option linter.unusedVariables false

theorem cell?_setCell_far (w : World) {g b i o : Nat} (u : Value) (h : b ≠ g) : (w.setCell ⟨g, i, none⟩ u).cell? ⟨b, o, none⟩ = w.cell? ⟨b, o, none⟩ := by
  refine World.cell?_setCell_other _ _ _ _ (fun hh => ?_)
  injection hh with hh _ _
  exact h hh.symm
theorem frozen?_setCell_any (w : World) {g i : Nat} (u : Value) (a : Addr) : (w.setCell ⟨g, i, none⟩ u).frozen? a = w.frozen? a := by simp
/-- A queue of numbers in a block of its own, from B on; what lies behind it to its capacity may be written. -/
def QOn (w : World) (B : Nat) (v : Value) (l : List Int) : Prop := ∃ g o cap, v = .slice (some ⟨g, o, none⟩) l.length cap ∧ B ≤ g ∧ g < w.heap.size ∧ l.length ≤ cap ∧ cap ≤ maxLen ∧
  (∀ j x, l[j]? = some x → w.cell? ⟨g, o + j, none⟩ = some (.int .i64 x)) ∧ ∀ j, j < cap → (w.cell? ⟨g, o + j, none⟩).isSome = true ∧ w.frozen? ⟨g, o + j, none⟩ = false
theorem QOn.ext {w w' : World} {B : Nat} {v : Value} {l : List Int} (h : QOn w B v l) (hx : Ext w w') : QOn w' B v l := by
  obtain ⟨g, o, cap, hv, hb, hg, hl, hm, hc, hs⟩ := h
  refine ⟨g, o, cap, hv, hb, Nat.lt_of_lt_of_le hg hx.size_le, hl, hm, fun j x hj => (hx.cell hg).trans (hc j x hj), fun j hj => ?_⟩
  rw [hx.cell (p := ⟨g, o + j, none⟩) hg, hx.frozen (p := ⟨g, o + j, none⟩) hg]
  exact hs j hj
theorem QOn.far {w : World} {B G i : Nat} {v : Value} {l : List Int} (h : QOn w B v l) (hG : G < B) (u : Value) : QOn (w.setCell ⟨G, i, none⟩ u) B v l := by
  obtain ⟨g, o, cap, hv, hb, hg, hl, hm, hc, hs⟩ := h
  have hne : g ≠ G := by omega
  refine ⟨g, o, cap, hv, hb, by simpa using hg, hl, hm, fun j x hj => (cell?_setCell_far w u hne).trans (hc j x hj), fun j hj => ?_⟩
  rw [cell?_setCell_far w u hne, frozen?_setCell_any]
  exact hs j hj
theorem QOn.tail {w : World} {B g o cap : Nat} {x : Int} {l : List Int} (h : QOn w B (.slice (some ⟨g, o, none⟩) (l.length + 1) cap) (x :: l)) :
    QOn w B (.slice (some (if cap = 1 then ⟨g, o, none⟩ else ⟨g, o + 1, none⟩)) l.length (cap - 1)) l := by
  obtain ⟨g', o', cap', hv, hb, hg, hl, hm, hc, hs⟩ := h
  injection hv with h1 _ h3
  injection h1 with h1
  injection h1 with h1 h2 _
  subst h1 h2 h3
  rw [List.length_cons] at hl
  by_cases hcap : cap = 1
  · subst hcap
    rw [if_pos rfl]
    have hl0 : l = [] := List.eq_nil_of_length_eq_zero (by omega)
    subst hl0
    exact ⟨g, o, 0, rfl, hb, hg, Nat.le_refl _, by unfold maxLen; omega, fun j x hj => by simp at hj, fun j hj => by omega⟩
  · rw [if_neg hcap]
    refine ⟨g, o + 1, cap - 1, rfl, hb, hg, by omega, by omega, fun j y hj => ?_, fun j hj => ?_⟩
    · rw [Nat.add_assoc, Nat.add_comm 1 j]
      exact hc (j + 1) y (by simpa using hj)
    · rw [Nat.add_assoc, Nat.add_comm 1 j]
      exact hs (j + 1) (by omega)
theorem QOn.one (w : World) (x : Int) (t : TypeId) (B : Nat) (hB : B ≤ w.heap.size) : QOn (w.alloc (.cells #[.int .i64 x] t)) B (.slice (some ⟨w.heap.size, 0, none⟩) 1 1) [x] := by
  refine ⟨w.heap.size, 0, 1, rfl, hB, by simp, Nat.le_refl _, by unfold maxLen; omega, fun j y hj => ?_, fun j hj => ?_⟩
  · match j, hj with
    | 0, hj =>
      simp at hj
      subst hj
      simp [go_sem]
  · obtain rfl : j = 0 := by omega
    exact ⟨by simp [go_sem], by simp [go_sem]⟩
theorem cell?_setCells_far (vs : List Value) (w : World) {g b o o' : Nat} (h : b ≠ g) : (w.setCells g o vs).cell? ⟨b, o', none⟩ = w.cell? ⟨b, o', none⟩ := by
  induction vs generalizing w o with
  | nil => rfl
  | cons v r ih => exact (ih (w.setCell ⟨g, o, none⟩ v)).trans (cell?_setCell_far w v h)
section
variable {P : Program}
/-- 'append(q, x)': the queue's value turns; nothing of the world does but in the queue's own block. -/
theorem wpList_append_Q {ops : Array Oper} {rest : List Oper} {o : Oper} {a : Act} {Q : Exit → Act → World → Prop} {w : World} (hgd : o.guard = none) (s x : Operand) {t e : TypeId} (hE : ElemOk P t e (.int .i64 0) 1 8)
    (ho : o.op = .call { callee := .builtin .append, args := #[s, x], argTypes := #[t, t] }) {B : Nat} {v : Value} {l : List Int} (hs : a.eval s = v) (hq : QOn w B v l) (y : Int) (t' : TypeId)
    (hx : a.eval x = .slice (some ⟨w.heap.size, 0, none⟩) 1 1) (hn : l.length < 1000000)
    (h : ∀ v' w', QOn w' B v' (l ++ [y]) → (∃ g, B ≤ g ∧ w.grownBy w' (some g)) → wpList P ops Q rest (a.put o.dst v') w') :
    wpList P ops Q (o :: rest) a (w.alloc (.cells #[.int .i64 y] t')) := by
  obtain ⟨i, hi, hz, hsz, hby⟩ := hE.hi
  have hqx := hq.ext (Ext.alloc (Ext.refl w) (.cells #[.int .i64 y] t'))
  obtain ⟨g, off, cap, rfl, hb, hg, hl, hm, hc, hsp⟩ := hqx
  have hgw : g < w.heap.size := by
    obtain ⟨g2, o2, c2, hv, _, hg2, _⟩ := hq
    injection hv with h1
    injection h1 with h1
    injection h1 with h1
    rw [h1]
    exact hg2
  have hlen : (l ++ [y]).length = l.length + 1 := by simp
  have hmap : ∀ j u, (l.map (Value.int .i64))[j]? = some u → (w.alloc (.cells #[.int .i64 y] t')).cell? ⟨g, off + j, none⟩ = some u := fun j u hj => by
    rw [List.getElem?_map] at hj
    cases hx2 : l[j]? with
    | none => rw [hx2] at hj; cases hj
    | some x2 =>
      rw [hx2] at hj
      injection hj with hj
      rw [← hj]
      exact hc j x2 hx2
  have hget : ∀ j x2, (l ++ [y])[j]? = some x2 → (j < l.length ∧ l[j]? = some x2) ∨ (j = l.length ∧ x2 = y) := fun j x2 hj => by
    by_cases hjl : j < l.length
    · rw [List.getElem?_append_left hjl] at hj
      exact .inl ⟨hjl, hj⟩
    · rw [List.getElem?_append_right (by omega)] at hj
      match hd : j - l.length, hj with
      | 0, hj =>
        refine .inr ⟨by omega, ?_⟩
        simpa using hj.symm
      | d + 1, hj => simp at hj
  have hgx : w.grownBy (w.alloc (.cells #[.int .i64 y] t')) (some g) := grownBy_ext (Ext.alloc (Ext.refl w) _) _
  refine wpList_append_arg (P := P) (w.alloc (.cells #[.int .i64 y] t')) hgd s x t ho e i (.int .i64 0) 1 8 hE.ht hi hz hsz hby hE.hz hE.pos g off l.length cap (l.map (Value.int .i64)) hs (by simp) hmap
    ⟨w.heap.size, 0, none⟩ 1 1 [.int .i64 y] hx rfl ?_ (by intro u hu; rw [List.mem_singleton.1 hu]; rfl) ?_ (by unfold maxLen; omega) (by omega) ?_ ?_
  · intro j u hj
    match j, hj with
    | 0, hj =>
      simp at hj
      subst hj
      simp [Addr.add, go_sem]
  · intro hroom j hj
    obtain rfl : j = 0 := by simpa using hj
    rw [Nat.mul_one, Nat.add_zero]
    exact hsp l.length (by omega)
  · intro hroom
    rw [Nat.mul_one]
    show wpList P ops Q rest _ ((w.alloc (.cells #[.int .i64 y] t')).setCell ⟨g, off + l.length, none⟩ (.int .i64 y))
    have hs1 := hsp l.length (by omega)
    refine h _ _ ⟨g, off, cap, by rw [hlen], hb, by simp; omega, by omega, hm, fun j x2 hj => ?_, fun j hj => ?_⟩ ⟨g, hb, grownBy_trans hgx (grownBy_set _ ⟨g, off + l.length, none⟩ _)⟩
    · rcases hget j x2 hj with ⟨h1, h2⟩ | ⟨rfl, rfl⟩
      · have hne : (⟨g, off + j, none⟩ : Addr) ≠ ⟨g, off + l.length, none⟩ := by
          intro hh
          injection hh with _ hh _
          omega
        rw [World.cell?_setCell_other _ _ _ _ (fun hh => hne hh.symm)]
        exact hc j x2 h2
      · obtain ⟨u0, hu0⟩ := Option.isSome_iff_exists.1 hs1.1
        exact World.cell?_setCell_same _ _ _ hu0
    · rw [frozen?_setCell_any]
      refine ⟨?_, (hsp j hj).2⟩
      by_cases hjl : j = l.length
      · subst hjl
        obtain ⟨u0, hu0⟩ := Option.isSome_iff_exists.1 hs1.1
        rw [World.cell?_setCell_same _ _ _ hu0]
        rfl
      · have hne : (⟨g, off + j, none⟩ : Addr) ≠ ⟨g, off + l.length, none⟩ := by
          intro hh
          injection hh with _ hh _
          omega
        rw [World.cell?_setCell_other _ _ _ _ (fun hh => hne hh.symm)]
        exact (hsp j hj).1
  · intro hfull v' w' hown hgr
    have hgr2 : w.grownBy w' (some g) := grownBy_trans hgx ⟨hgr.os, hgr.tape, hgr.output, hgr.size, fun k hk _ => hgr.block k hk (by simp)⟩
    have hbw : B ≤ w.heap.size := by omega
    rcases hown.2 with ⟨_, h0⟩ | ⟨g', cap', cur, rfl, hb', hg', hnc, hcm, hcs, _⟩
    · omega
    · rw [Nat.mul_one] at hcs
      refine h _ _ ⟨g', 0, cap', by rw [hlen], ?_, (Array.getElem?_eq_some_iff.1 hg').1, by omega, hcm, fun j x2 hj => ?_, fun j hj => ?_⟩ ⟨g, hb, hgr2⟩
      · have : w.heap.size ≤ (w.alloc (.cells #[.int .i64 y] t')).heap.size := by simp
        omega
      · have hjl : j < l.length + 1 := by
          have := (List.getElem?_eq_some_iff.1 hj).1
          omega
        have e1 := hown.cellAt j (by omega)
        rw [Nat.zero_add, e1]
        have e2 : (l.map (Value.int .i64) ++ [.int .i64 y]) = (l ++ [y]).map (Value.int .i64) := by simp
        rw [e2, List.getElem?_map, hj]
        rfl
      · refine ⟨?_, hown.frozenAt _⟩
        simp only [World.cell?, hg', Nat.zero_add]
        simp
        omega
end
/-- The world of the search: the list and what is known of each pond, each behind a box of its own; far is f, one more. -/
def ChW (w0 : World) (A : Option Addr) (n c b0 b1 G B : Nat) (f : Nat → Int) (wr : World) : Prop :=
  Ext w0 wr ∧ w0.heap.size ≤ G ∧ b0 < B ∧ b1 < B ∧ G < B ∧ B ≤ wr.heap.size ∧ b0 ≠ G ∧ b1 ≠ G ∧ wr.cell? ⟨b0, 0, none⟩ = some (.slice A n c) ∧ wr.cell? ⟨b1, 0, none⟩ = some (.slice (some ⟨G, 0, none⟩) n n) ∧
  OwnS wr w0.heap.size 3 1 (.slice (some ⟨G, 0, none⟩) n n) n (mk1 fun t => f t + 1)
section
variable {w0 wr w' : World} {A : Option Addr} {n c b0 b1 G B : Nat} {f : Nat → Int}
theorem ChW.ext (h : ChW w0 A n c b0 b1 G B f wr) (hx : Ext wr w') : ChW w0 A n c b0 b1 G B f w' := by
  obtain ⟨h1, h2, h3, h4, h5, h6, h7, h8, h9, h10, h11⟩ := h
  exact ⟨h1.trans hx, h2, h3, h4, h5, Nat.le_trans h6 hx.size_le, h7, h8, (hx.cell (p := ⟨b0, 0, none⟩) (Nat.lt_of_lt_of_le h3 h6)).trans h9, (hx.cell (p := ⟨b1, 0, none⟩) (Nat.lt_of_lt_of_le h4 h6)).trans h10, h11.ext hx⟩
theorem ChW.set (h : ChW w0 A n c b0 b1 G B f wr) {i : Nat} (hi : i < n) (v u : Int) (hu : u = v + 1) : ChW w0 A n c b0 b1 G B (fun t => if t = i then v else f t) (wr.setCell ⟨G, i, none⟩ (.int .i64 u)) := by
  obtain ⟨h1, h2, h3, h4, h5, h6, h7, h8, h9, h10, h11⟩ := h
  subst hu
  refine ⟨h1.setCell h2 _, h2, h3, h4, h5, by simpa using h6, h7, h8, (cell?_setCell_far wr _ h7).trans h9, (cell?_setCell_far wr _ h8).trans h10, (h11.set1 hi (v + 1)).congr (fun q j _ _ => ?_)⟩
  show Value.int .i64 ((if q = i then v else f q) + 1) = .int .i64 (if q = i then v + 1 else f q + 1)
  split <;> rfl
theorem ChW.grow (h : ChW w0 A n c b0 b1 G B f wr) (hg : ∃ g, B ≤ g ∧ wr.grownBy w' (some g)) : ChW w0 A n c b0 b1 G B f w' := by
  obtain ⟨h1, h2, h3, h4, h5, h6, h7, h8, h9, h10, h11⟩ := h
  obtain ⟨g, hb, hg⟩ := hg
  have n0 : some b0 ≠ some g := fun hh => by have := Option.some.inj hh; omega
  have n1 : some b1 ≠ some g := fun hh => by have := Option.some.inj hh; omega
  refine ⟨h1.grown hg (fun k hk => ?_), h2, h3, h4, h5, Nat.le_trans h6 hg.size, h7, h8, (hg.cell h9 n0), (hg.cell h10 n1), h11.kept hg (.inr (fun hh => ?_))⟩
  · obtain rfl := Option.some.inj hk
    omega
  · have h12 : G = g := Option.some.inj hh
    omega
theorem ChW.cells (h : ChW w0 A n c b0 b1 G B f wr) : b0 < wr.heap.size ∧ b1 < wr.heap.size ∧ G < wr.heap.size ∧ wr.cell? ⟨b0, 0, none⟩ = some (.slice A n c) ∧ wr.cell? ⟨b1, 0, none⟩ = some (.slice (some ⟨G, 0, none⟩) n n) := by
  obtain ⟨h1, h2, h3, h4, h5, h6, h7, h8, h9, h10, h11⟩ := h
  exact ⟨by omega, by omega, by omega, h9, h10⟩
theorem ChW.at (h : ChW w0 A n c b0 b1 G B f wr) {i : Nat} (hi : i < n) : wr.cell? ⟨G, i, none⟩ = some (.int .i64 (f i + 1)) ∧ wr.frozen? ⟨G, i, none⟩ = false := by
  obtain ⟨h1, h2, h3, h4, h5, h6, h7, h8, h9, h10, h11⟩ := h
  exact (h11.at1 hi).2.2
end
theorem fndPond_none (m : Nat → Pd) (id : Int) (f i : Nat) (h : fndPond m id f i = -1) : ∀ t, i ≤ t → t < i + f → (m t).id ≠ id := by
  induction f generalizing i with
  | zero => intro t h1 h2; omega
  | succ f ih =>
    intro t h1 h2
    unfold fndPond at h
    split at h
    · omega
    · next hne =>
      by_cases he : t = i
      · rw [he]; exact hne
      · exact ih (i + 1) h t (by omega) (by omega)
theorem ids_lt {n : Nat} {m : Nat → Pd} (h : pondsP n m) (d : Nat) : ∀ s, s + d + 1 < n → (m s).id < (m (s + d + 1)).id := by
  induction d with
  | zero => intro s hs; exact (h.2 (s + 1) hs).2.1 (by omega)
  | succ d ih =>
    intro s hs
    have h1 := ih s (by omega)
    have h2 : (m (s + d + 1)).id < (m (s + d + 1 + 1)).id := (h.2 (s + d + 1 + 1) hs).2.1 (by omega)
    exact Int.lt_trans h1 h2
theorem find_self {n : Nat} {m : Nat → Pd} (h : pondsP n m) {j : Nat} (hj : j < n) : findPond n m (m j).id = (j : Int) := by
  rcases findPond_bd n m (m j).id with h1 | ⟨i, h1, h2, h3⟩
  · exact absurd rfl (fndPond_none m _ n 0 h1 j (Nat.zero_le _) (by omega))
  · rcases Nat.lt_trichotomy i j with hl | hl | hl
    · have := ids_lt h (j - i - 1) i (by omega)
      rw [show i + (j - i - 1) + 1 = j by omega] at this
      omega
    · rw [h1, hl]
    · have := ids_lt h (i - j - 1) j (by omega)
      rw [show j + (i - j - 1) + 1 = i by omega] at this
      omega
/-- The world of the way: besides, the pond at hand in a box. -/
def WayW (A : Option Addr) (n c b0 b1 b3 G u : Nat) (m : Nat → Pd) (D : Nat → Int) (w : World) : Prop :=
  b0 < w.heap.size ∧ b1 < w.heap.size ∧ b3 < w.heap.size ∧ G < w.heap.size ∧ w.cell? ⟨b0, 0, none⟩ = some (.slice A n c) ∧ w.cell? ⟨b1, 0, none⟩ = some (.slice (some ⟨G, 0, none⟩) n n) ∧ w.cell? ⟨b3, 0, none⟩ = some (.int .i64 u) ∧
  (∀ t, t < n → w.cell? ⟨G, t, none⟩ = some (.int .i64 (D t + 1))) ∧ Rd w A n 6 (pdF m)
theorem WayW.ext {A : Option Addr} {n c b0 b1 b3 G u : Nat} {m : Nat → Pd} {D : Nat → Int} {w w' : World} (h : WayW A n c b0 b1 b3 G u m D w) (hx : Ext w w') : WayW A n c b0 b1 b3 G u m D w' := by
  obtain ⟨h1, h2, h3, h4, h5, h6, h7, h8, h9⟩ := h
  have hs := hx.size_le
  exact ⟨by omega, by omega, by omega, by omega, (hx.cell (p := ⟨b0, 0, none⟩) h1).trans h5, (hx.cell (p := ⟨b1, 0, none⟩) h2).trans h6, (hx.cell (p := ⟨b3, 0, none⟩) h3).trans h7, fun t ht => (hx.cell (p := ⟨G, t, none⟩) h4).trans (h8 t ht), h9.ext hx⟩
set_option maxHeartbeats 2000000 in
theorem wayIs_any (A : Option Addr) (n c b0 b1 b3 G u j : Nat) (m : Nat → Pd) (D : Nat → Int) (w : World) (hc : c ≤ maxLen) (hnc : n ≤ c) (hv : pondsP n m) (hj : j < n) (hu : u < n) (hD : ∀ t, t < n → -1 ≤ D t ∧ D t < (n : Int)) (hw : WayW A n c b0 b1 b3 G u m D w) :
    Calls Try.prog 73 #[.agg #[.int .i64 (m j).id, .int .i64 (m j).left, .int .i64 (m j).top, .int .i64 (m j).wide, .int .i64 (m j).high, .int .i64 (m j).depth], .pointer (some ⟨b1, 0, none⟩), .pointer (some ⟨b0, 0, none⟩), .pointer (some ⟨b3, 0, none⟩)] w fun e w' => e = .returned (.bool (goB (adjM m) D u j)) ∧ Ext w w' := by
  have HW := Lib.hid (hw.ext (Ext.alloc (Ext.refl w) (.cells #[.int .i64 (m j).id, .int .i64 (m j).left, .int .i64 (m j).top, .int .i64 (m j).wide, .int .i64 (m j).high, .int .i64 (m j).depth] 51)))
  have HC := Lib.hid hc
  have HN := Lib.hid hnc
  have HF := Lib.hid (find_self hv hj)
  have H1 := Lib.hid (small_at hv hj)
  have H2 := Lib.hid (small_at hv hu)
  have hn10 := hv.1
  obtain ⟨h1, h2, h3, h4, h5, h6, h7, h8, h9⟩ := hw
  have c1 := h8 j hj
  have c2 := h8 u hu
  obtain ⟨g, off, rfl, hg, d0, d1, d2, d3, d4, d5⟩ := h9.atPond hu
  have j0 : (0 : Int) ≤ (j : Int) := by omega
  have j1 : (j : Int) < (n : Int) := by omega
  have u0 : (0 : Int) ≤ (u : Int) := by omega
  have u1 : (u : Int) < (n : Int) := by omega
  obtain ⟨l1, l2⟩ := hD j hj
  obtain ⟨l3, l4⟩ := hD u hu
  unfold maxLen at hc
  clear h8 h9 hD hv
  by_cases he : D j = D u - 1
  · have q1 : (D j + 1 == D u) = true := by rw [beq_iff_eq]; omega
    by_cases hb : 0 < bankV (m j) (m u)
    · have HG := Lib.hid (show goB (adjM m) D u j = true from (goB_iff _ _).2 ⟨he, adjM_comm m j u hb⟩)
      clear he
      go_enter Try.func73, Try.ntmps73
      go_wp2_with fail
      refine wp_region_grow (by kernel_rfl) (by kernel_rfl) ?_
      repeat (go_big_quiet_step (first | (go_at_call 64; exact grow_of (pondAt_is _ _ _ _ _ _ _ HC.out HN.out (HW.out.ext (ext_gw _ _)).2.2.2.2.2.2.2.2 (by with_reducible exact HF.out))) | (go_at_call 66; exact grow_of (bank_any (m j) (m u) _ H1.out H2.out))))
      refine wpQuiet_nil ?_
      rintro _ ⟨xq, rfl⟩
      go_wp2
      go_ret
      exact ⟨ret_bool HG.out.symm, by repeat (with_reducible first | exact Ext.refl _ | refine Ext.setCell ?_ (by first | (simp; done) | (simp; omega)) _ | refine Ext.alloc ?_ _ | refine Ext.gw ?_ _ | refine Ext.drew ?_)⟩
    · have HG := Lib.hid (show goB (adjM m) D u j = false from goB_no (fun h => hb (adjM_comm m u j h.2)))
      have HB := Lib.hid hb
      clear he hb
      go_enter Try.func73, Try.ntmps73
      go_wp2_with fail
      refine wp_region_grow (by kernel_rfl) (by kernel_rfl) ?_
      repeat (go_big_quiet_step (first | (go_at_call 64; exact grow_of (pondAt_is _ _ _ _ _ _ _ HC.out HN.out (HW.out.ext (ext_gw _ _)).2.2.2.2.2.2.2.2 (by with_reducible exact HF.out))) | (go_at_call 66; exact grow_of (bank_any (m j) (m u) _ H1.out H2.out))))
      refine wpQuiet_nil ?_
      rintro _ ⟨xq, rfl⟩
      go_wp2
      go_ret
      exact ⟨ret_bool (by rw [HG.out]; first | rfl | exact decide_eq_false (by have := HB.out; omega)), by repeat (with_reducible first | exact Ext.refl _ | refine Ext.setCell ?_ (by first | (simp; done) | (simp; omega)) _ | refine Ext.alloc ?_ _ | refine Ext.gw ?_ _ | refine Ext.drew ?_)⟩
  · have HG := Lib.hid (show goB (adjM m) D u j = false from goB_no (fun h => he h.1))
    have q1 : (D j + 1 == D u) = false := by rw [beq_eq_false_iff_ne]; omega
    clear he
    go_enter Try.func73, Try.ntmps73
    go_wp2_with fail
    refine wp_region_grow (by kernel_rfl) (by kernel_rfl) ?_
    repeat (go_big_quiet_step (first | (go_at_call 64; exact grow_of (pondAt_is _ _ _ _ _ _ _ HC.out HN.out (HW.out.ext (ext_gw _ _)).2.2.2.2.2.2.2.2 (by with_reducible exact HF.out)))))
    refine wpQuiet_nil ?_
    rintro _ ⟨xq, rfl⟩
    go_wp2
    go_ret
    exact ⟨ret_bool HG.out.symm, by repeat (with_reducible first | exact Ext.refl _ | refine Ext.setCell ?_ (by first | (simp; done) | (simp; omega)) _ | refine Ext.alloc ?_ _ | refine Ext.gw ?_ _ | refine Ext.drew ?_)⟩
set_option maxHeartbeats 2000000 in
theorem indexFuncWay_any (A : Option Addr) (n c b0 b1 b3 G u : Nat) (m : Nat → Pd) (D : Nat → Int) (w : World) (hc : c ≤ maxLen) (hnc : n ≤ c) (hv : pondsP n m) (hu : u < n) (hD : ∀ t, t < n → -1 ≤ D t ∧ D t < (n : Int)) (hw : WayW A n c b0 b1 b3 G u m D w) (j : Nat) (hj : firstP (goB (adjM m) D u) n = j) (hjn : j < n) :
    Calls Try.prog 72 #[.slice A n c, .func (.func 73) #[] #[.pointer (some ⟨b1, 0, none⟩), .pointer (some ⟨b0, 0, none⟩), .pointer (some ⟨b3, 0, none⟩)]] w fun e w' => e = .returned (.int .i64 (j : Int)) ∧ Ext w w' := by
  have HW := Lib.hid hw
  have HC := Lib.hid hc
  have HV := Lib.hid hv
  have HD := Lib.hid hD
  have HJ := Lib.hid hj
  obtain ⟨_, _, _, _, _, _, _, _, hr⟩ := hw
  unfold maxLen at hc
  clear hv hD hj
  go_enter Try.func72, Try.ntmps72
  go_wp2
  go_loopw [5, 8] (fun _ i wr => ∃ k : Nat, i = .int .i64 k ∧ k ≤ n ∧ Hid (∀ t, t < k → goB (adjM m) D u t = false) ∧ ∃ y, wr = gw w y) (fun _ i _ => n - (intOf i).toNat)
  case atStart => exact ⟨0, rfl, Nat.zero_le _, Lib.hid (fun t ht => absurd ht (Nat.not_lt_zero t)), (Ext.refl w).to_gw⟩
  case round =>
    obtain ⟨k, rfl, hk, HT, y, rfl⟩ := hrel
    by_cases hlt : k < n
    · obtain ⟨g, off, rfl, hg, c0, c1, c2, c3, c4, c5⟩ := hr.atPond hlt
      have i0 : (0 : Int) ≤ (k : Int) := by omega
      have i1 : (k : Int) < (n : Int) := by omega
      cases hgo : goB (adjM m) D u k
      · have HG := Lib.hid hgo
        clear hgo
        go_wp2_with fail
        refine (wayIs_any _ n c b0 b1 b3 G u k m D _ HC.out hnc HV.out hlt hu HD.out (HW.out.ext (ext_gw _ _))).mono ?_
        rintro e w1 ⟨rfl, hx⟩
        rw [HG.out]
        obtain ⟨x, rfl⟩ := (Ext.flat hx).to_gw
        clear hx
        dsimp only
        go_wp2
        go_roundw
        case rel => exact ⟨k + 1, by go_num, by omega, Lib.hid (fun t ht => by
          by_cases he : t = k
          · rw [he]; exact HG.out
          · exact HT.out t (by omega)), ((by repeat (with_reducible first | exact Ext.refl _ | refine Ext.setCell ?_ (by first | (simp; done) | (simp; omega)) _ | refine Ext.alloc ?_ _ | refine Ext.gw ?_ _ | refine Ext.drew ?_) : Ext w _)).to_gw⟩
        case measure => simp [intOf]; omega
      · have HK := Lib.hid (show (k : Int) = (j : Int) by rw [← HJ.out, firstP_is hlt hgo HT.out])
        have HG := Lib.hid hgo
        clear hgo
        go_wp2_with fail
        refine (wayIs_any _ n c b0 b1 b3 G u k m D _ HC.out hnc HV.out hlt hu HD.out (HW.out.ext (ext_gw _ _))).mono ?_
        rintro e w1 ⟨rfl, hx⟩
        rw [HG.out]
        obtain ⟨x, rfl⟩ := (Ext.flat hx).to_gw
        clear hx
        dsimp only
        go_wp2
        go_ret
        exact ⟨ret_int HK.out, by repeat (with_reducible first | exact Ext.refl _ | refine Ext.setCell ?_ (by first | (simp; done) | (simp; omega)) _ | refine Ext.alloc ?_ _ | refine Ext.gw ?_ _ | refine Ext.drew ?_)⟩
    · exfalso
      obtain rfl : k = n := by omega
      have h1 := firstP_yes (goB (adjM m) D u) k (by rw [HJ.out]; exact hjn)
      rw [HJ.out, HT.out j hjn] at h1
      cases h1
end Go.Proofs.Ytkgnfmdeimaedaa
