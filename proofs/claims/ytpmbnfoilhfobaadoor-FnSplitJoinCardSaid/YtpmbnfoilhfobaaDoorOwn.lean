/- Slices of the call's own: the word 'OwnS' (n elements of some cells each, element i's cell j holds f i j), what keeps it, a store, an append, a make. Over any program. -/
import Derived.Test.YtpmbnfoilhfobaaDoorTail
import Derived.Test.YtpmbnfoilhfobaaDoorOpens
import Derived.Maps.AppendAt
namespace Go.Proofs.YtpmbnfoilhfobaaDoor
open Go.RowKit
set_option linter.unusedVariables false

/-- v is a slice of n elements of 'size' cells each in a block from 'base' on that nobody has frozen (or nil, with none); cell j of element i holds f i j. -/
def OwnS (w : World) (base : Nat) (e : TypeId) (size : Nat) (v : Value) (n : Nat) (f : Nat → Nat → Value) : Prop :=
  ∃ xs, w.ownsRow base e size v n xs ∧ ∀ i j, i < n → j < size → xs[i * size + j]? = some (f i j)

section
variable {w w' : World} {base e size n : Nat} {v : Value} {f f' : Nat → Nat → Value}

theorem OwnS.nil : OwnS w base e size (.slice none 0 0) 0 f := ⟨[], World.ownsRow_nil w base e size, fun i _ hi => absurd hi (Nat.not_lt_zero i)⟩
theorem OwnS.congr (h : OwnS w base e size v n f) (hf : ∀ i j, i < n → j < size → f' i j = f i j) : OwnS w base e size v n f' := by
  obtain ⟨xs, h1, h2⟩ := h
  exact ⟨xs, h1, fun i j hi hj => by rw [h2 i j hi hj, hf i j hi hj]⟩
theorem OwnS.kept {row : Option Nat} (h : OwnS w base e size v n f) (hg : w.grownBy w' row) (hne : v.ownBlock = none ∨ v.ownBlock ≠ row) : OwnS w' base e size v n f := by
  obtain ⟨xs, h1, h2⟩ := h
  exact ⟨xs, h1.kept hg hne, h2⟩
theorem OwnS.ext (h : OwnS w base e size v n f) (hx : Ext w w') : OwnS w' base e size v n f :=
  h.kept (row := none) ⟨hx.os, hx.tape, hx.output, hx.size, fun _ hk _ => hx.heap hk⟩ (by cases v.ownBlock <;> simp)
theorem OwnS.lower {b : Nat} (h : OwnS w base e size v n f) (hb : b ≤ base) : OwnS w b e size v n f := by
  obtain ⟨xs, ⟨h1, h2⟩, h3⟩ := h
  refine ⟨xs, ⟨h1, ?_⟩, h3⟩
  rcases h2 with h2 | ⟨g, cap, cur, e1, e2, e3⟩
  · exact .inl h2
  · exact .inr ⟨g, cap, cur, e1, Nat.le_trans hb e2, e3⟩
theorem OwnS.block (h : OwnS w base e size v n f) : ∀ k, v.ownBlock = some k → base ≤ k ∧ k < w.heap.size := by
  obtain ⟨xs, h1, _⟩ := h
  exact h1.lt
/-- What it looks like: an address or none; where there is an element: its block, cell by cell. -/
theorem OwnS.form (h : OwnS w base e size v n f) : ∃ A cap, v = .slice A n cap ∧ n ≤ cap ∧ cap ≤ maxLen ∧
    (0 < n → ∃ g, A = some ⟨g, 0, none⟩ ∧ v.ownBlock = some g ∧ base ≤ g ∧ g < w.heap.size ∧ ∀ i j, i < n → j < size → w.cell? ⟨g, i * size + j, none⟩ = some (f i j) ∧ w.frozen? ⟨g, i * size + j, none⟩ = false) := by
  obtain ⟨xs, h1, h2⟩ := h
  rcases h1.2 with ⟨rfl, rfl⟩ | ⟨g, cap, cur, rfl, hb, hg, hnc, hcm, hcs, htake⟩
  · exact ⟨none, 0, rfl, Nat.le_refl _, Nat.zero_le _, fun h => absurd h (Nat.lt_irrefl 0)⟩
  · refine ⟨some ⟨g, 0, none⟩, cap, rfl, hnc, hcm, fun _ => ⟨g, rfl, rfl, hb, (Array.getElem?_eq_some_iff.1 hg).1, fun i j hi hj => ⟨?_, h1.frozenAt _⟩⟩⟩
    rw [h1.cellAt (i * size + j) ?_, h2 i j hi hj]
    calc i * size + j < i * size + size := by omega
      _ = (i + 1) * size := by rw [Nat.add_mul, Nat.one_mul]
      _ ≤ n * size := Nat.mul_le_mul_right _ hi
theorem OwnS.rd (h : OwnS w base e size v n f) : ∃ A cap, v = .slice A n cap ∧ cap ≤ maxLen ∧ n ≤ cap ∧ Rd w A n size f := by
  obtain ⟨A, cap, hv, hnc, hcm, hr⟩ := h.form
  refine ⟨A, cap, hv, hcm, hnc, fun hn => ?_⟩
  obtain ⟨g, hA, _, _, hg, hc⟩ := hr hn
  exact ⟨g, 0, hA, hg, fun i j hi hj => by rw [Nat.zero_add]; exact (hc i j hi hj).1⟩
/-- A store into one cell. -/
theorem OwnS.stored {g cap i j : Nat} (h : OwnS w base e size (.slice (some ⟨g, 0, none⟩) n cap) n f) (hi : i < n) (hj : j < size) (u : Value) :
    OwnS (w.setCell ⟨g, i * size + j, none⟩ u) base e size (.slice (some ⟨g, 0, none⟩) n cap) n (fun i' j' => if i' = i ∧ j' = j then u else f i' j') := by
  obtain ⟨xs, h1, h2⟩ := h
  refine ⟨_, (h1.stored (i * size + j) u).1, fun i' j' hi' hj' => ?_⟩
  have hlen : ∀ i j, i < n → j < size → i * size + j < xs.length := by
    intro i j hi hj
    have := h2 i j hi hj
    exact (List.getElem?_eq_some_iff.1 this).1
  show (xs.set (i * size + j) u)[i' * size + j']? = some (if i' = i ∧ j' = j then u else f i' j')
  by_cases hc : i' = i ∧ j' = j
  · rw [if_pos hc, hc.1, hc.2, List.getElem?_set_self (hlen i j hi hj)]
  · rw [if_neg hc, List.getElem?_set_ne, h2 i' j' hi' hj']
    intro he
    refine hc ?_
    have hii : i' = i := by
      have h3 : (i * size + j) / size = i := by rw [Nat.mul_comm, Nat.mul_add_div (by omega), Nat.div_eq_of_lt hj, Nat.add_zero]
      have h4 : (i' * size + j') / size = i' := by rw [Nat.mul_comm, Nat.mul_add_div (by omega), Nat.div_eq_of_lt hj', Nat.add_zero]
      rw [← h4, ← he, h3]
    subst hii
    exact ⟨rfl, by omega⟩
end

theorem grownBy_set (w : World) (p : Addr) (u : Value) : w.grownBy (w.setCell p u) (some p.block) :=
  ⟨rfl, rfl, rfl, by simp [World.setCell], fun k _ hne => Below.heap_setCell w p u k (fun h => hne (by rw [h]))⟩
theorem grownBy_trans {a b c : World} {row : Option Nat} (h : a.grownBy b row) (k : b.grownBy c row) : a.grownBy c row :=
  ⟨k.os.trans h.os, k.tape.trans h.tape, k.output.trans h.output, Nat.le_trans h.size k.size, fun i hi hne => (k.block i (Nat.lt_of_lt_of_le hi h.size) hne).trans (h.block i hi hne)⟩
theorem grownBy_ext {a b : World} (h : Ext a b) (row : Option Nat) : a.grownBy b row := ⟨h.os, h.tape, h.output, h.size, fun _ hk _ => h.heap hk⟩

/-- What is asked of a slice's type t and its element type e: zero value z, cells, bytes. -/
structure ElemOk (P : Program) (t e : TypeId) (z : Value) (size bytes : Nat) : Prop where
  ht : P.underlying t = some (.slice e)
  hi : ∃ i, P.info? e = some i ∧ i.zero = some z ∧ i.size = size ∧ i.bytes = bytes
  hz : z.cells.size = size
  pos : 0 < size
  small : bytes ≤ 64

section
variable {P : Program}

/-- 'append(s, x)', x one element that lies in a block made just before. -/
theorem wpList_append_S {ops : Array Oper} {rest : List Oper} {o : Oper} {a : Act} {Q : Exit → Act → World → Prop} {w : World} (hgd : o.guard = none) (s x : Operand) {t e size bytes : Nat} {z : Value} (hE : ElemOk P t e z size bytes)
    (ho : o.op = .call { callee := .builtin .append, args := #[s, x], argTypes := #[t, t] }) {base n : Nat} {v : Value} {f : Nat → Nat → Value} (hs : a.eval s = v) (hown : OwnS w base e size v n f)
    (cs : Array Value) (t' : TypeId) (hx : a.eval x = .slice (some ⟨w.heap.size, 0, none⟩) 1 1) (hcs : cs.size = size) (hcv : ∀ j, j < size → cs[j]? = some (f n j)) (h1 : ∀ j, j < size → (f n j).oneCell' = true)
    (hn : n < 1099511627776) (hb : base ≤ w.heap.size)
    (h : ∀ v' w', OwnS w' base e size v' (n + 1) f → (∀ W, Ext W w → W.heap.size ≤ base → Ext W w') → (∀ b, b < w.heap.size → v.ownBlock ≠ some b → w'.heap[b]? = w.heap[b]?) → wpList P ops Q rest (a.put o.dst v') w') :
    wpList P ops Q (o :: rest) a (w.alloc (.cells cs t')) := by
  obtain ⟨xs, h2, h3⟩ := hown
  obtain ⟨i, hi, hz, hsz, hby⟩ := hE.hi
  have hone : ∀ u ∈ cs.toList, u.oneCell' = true := by
    intro u hu
    obtain ⟨j, hj, rfl⟩ := List.getElem_of_mem hu
    have hj' : j < size := by rw [Array.length_toList] at hj; omega
    have h4 := hcv j hj'
    rw [← Array.getElem?_toList, List.getElem?_eq_getElem hj] at h4
    injection h4 with h4
    rw [h4]
    exact h1 j hj'
  refine wpList_append_own (P := P) (w.alloc (.cells cs t')) hgd s x t ho base e i z size bytes hE.ht hi hz hsz hby hE.hz hE.pos v n xs hs (h2.alloc _) ⟨w.heap.size, 0, none⟩ 1 1 cs.toList hx (by simp [hcs]) ?_ hone ?_ ?_ (by simp; omega) ?_
  · intro j u hu
    have e1 : (⟨w.heap.size, 0, none⟩ : Addr).add j = ⟨w.heap.size, j, none⟩ := by unfold Addr.add; split <;> simp_all
    rw [e1, World.cell?_alloc_new]
    simpa using hu
  · unfold maxLen; omega
  · have := hE.small
    calc (n + 1) * bytes ≤ 1099511627776 * 64 := Nat.mul_le_mul (by omega) this
      _ ≤ 140737488355328 := by omega
  · intro v' w' hown' hgrow _
    refine h v' w' ⟨_, hown', fun i j hi' hj => ?_⟩ (fun W hW hWb => ?_) (fun b hb' hne => ?_)
    · by_cases hin : i < n
      · rw [List.getElem?_append_left, h3 i j hin hj]
        exact (List.getElem?_eq_some_iff.1 (h3 i j hin hj)).1
      · obtain rfl : i = n := by omega
        rw [List.getElem?_append_right (by rw [h2.1]; omega), h2.1, show i * size + j - i * size = j by omega, Array.getElem?_toList, hcv j hj]
    · exact (hW.alloc _).grown hgrow (fun k hk => Nat.le_trans hWb (h2.lt k hk).1)
    · rw [hgrow.block b (by simp; omega) (fun h => hne h.symm)]
      exact Below.heap_alloc w _ b hb'

/-- The same where the world at hand is a growth of Wb, and the slice lies in what is new since Wb: behind it the world is a growth of Wb again. -/
theorem wpList_append_G {ops : Array Oper} {rest : List Oper} {o : Oper} {a : Act} {Q : Exit → Act → World → Prop} {w : World} (Wb : World) (base : Nat) (hbs : Wb.heap.size = base) (hW : Ext Wb w) (hgd : o.guard = none) (s x : Operand) {t e size bytes : Nat} {z : Value} (hE : ElemOk P t e z size bytes)
    (ho : o.op = .call { callee := .builtin .append, args := #[s, x], argTypes := #[t, t] }) {n : Nat} {v : Value} {f : Nat → Nat → Value} (hs : a.eval s = v) (hown : OwnS w base e size v n f)
    (cs : Array Value) (t' : TypeId) (hx : a.eval x = .slice (some ⟨w.heap.size, 0, none⟩) 1 1) (hcs : cs.size = size) (hn : n < 1099511627776) (hcv : ∀ j, j < size → cs[j]? = some (f n j)) (h1 : ∀ j, j < size → (f n j).oneCell' = true)
    (h : ∀ v' y, OwnS (gw Wb y) base e size v' (n + 1) f → wpList P ops Q rest (a.put o.dst v') (gw Wb y)) :
    wpList P ops Q (o :: rest) a (w.alloc (.cells cs t')) :=
  wpList_append_S hgd s x hE ho hs hown cs t' hx hcs hcv h1 hn (by rw [← hbs]; exact hW.size_le) fun v' w' h2 h3 _ => by
    obtain ⟨y, rfl⟩ := (h3 Wb hW (by rw [hbs]; exact Nat.le_refl _)).to_gw
    exact h v' y h2

/-- 'make([]T, n)', laid as an equation ahead of a walk. -/
theorem run_make_S {t e size bytes : Nat} {z : Value} (hE : ElemOk P t e z size bytes) (n : Nat) (hn : n < 1099511627776) (w : World) :
    (Instr.makeSlice t (.int .i64 (n : Int)) (.int .i64 (n : Int))).run P w = .ok (.slice (some ⟨w.heap.size, 0, none⟩) n n) (w.alloc (.cells (madeCells z.cells (n * size)) e)) := by
  obtain ⟨i, hi, hz, hsz, hby⟩ := hE.hi
  have hb : (i.bytes : Int) * (n : Int) ≤ 281474976710656 := by
    have h : i.bytes * n ≤ 64 * 1099511627776 := Nat.mul_le_mul (by have := hE.small; omega) (by omega)
    have h2 : ((i.bytes * n : Nat) : Int) ≤ 281474976710656 := by omega
    rwa [Int.natCast_mul] at h2
  have hr := run_make (P := P) w t e i z hE.ht hi hz .i64 .i64 n n (by omega) (Int.le_refl _) hb (by omega)
  simp only [Int.toNat_natCast, hsz] at hr
  exact hr
theorem own_made {e size n : Nat} {z : Value} (hz : z.cells.size = size) (w : World) (hn : n ≤ maxLen) : OwnS (w.alloc (.cells (madeCells z.cells (n * size)) e)) w.heap.size e size (.slice (some ⟨w.heap.size, 0, none⟩) n n) n (fun _ j => z.cells[j]!) := by
  refine ⟨_, World.ownsRow_lit w _ n (Nat.le_refl _) hn (size_madeCells _ _), fun i j hi hj => ?_⟩
  have hlt : i * size + j < n * size := by
    calc i * size + j < i * size + size := by omega
      _ = (i + 1) * size := by rw [Nat.add_mul, Nat.one_mul]
      _ ≤ n * size := Nat.mul_le_mul_right _ hi
  rw [Array.getElem?_toList]
  simp only [madeCells, Array.getElem?_map, Array.getElem?_range, hlt, if_true, Option.map_some, hz]
  rw [Nat.mul_comm, Nat.mul_add_mod, Nat.mod_eq_of_lt hj]
theorem own_empty {e size base : Nat} {f : Nat → Nat → Value} (w : World) (g : Nat) (hg : g = w.heap.size) (hb : base ≤ g) : OwnS (w.alloc (.cells #[] e)) base e size (.slice (some ⟨g, 0, none⟩) 0 0) 0 f := by
  subst hg
  exact ⟨[], World.ownsRow_lit w #[] 0 hb (Nat.zero_le _) (by simp), fun i j hi => absurd hi (Nat.not_lt_zero i)⟩
end

/-- A whole element stored, cell by cell: the first c cells so far. -/
def putCells (w : World) (g o : Nat) (u : Nat → Value) : Nat → World
  | 0 => w
  | c + 1 => (putCells w g o u c).setCell ⟨g, o + c, none⟩ (u c)
theorem OwnS.put {w : World} {base e size n g cap i : Nat} {f : Nat → Nat → Value} (u : Nat → Value) (h : OwnS w base e size (.slice (some ⟨g, 0, none⟩) n cap) n f) (hi : i < n) (c : Nat) (hc : c ≤ size) :
    OwnS (putCells w g (i * size) u c) base e size (.slice (some ⟨g, 0, none⟩) n cap) n (fun i' j' => if i' = i ∧ j' < c then u j' else f i' j') ∧ w.grownBy (putCells w g (i * size) u c) (some g) := by
  induction c with
  | zero => exact ⟨h.congr (fun _ _ _ _ => by simp), grownBy_ext (Ext.refl w) _⟩
  | succ c ih =>
    obtain ⟨h1, h2⟩ := ih (by omega)
    refine ⟨(h1.stored hi (show c < size by omega) (u c)).congr (fun i' j' _ _ => ?_), grownBy_trans h2 (grownBy_set _ ⟨g, i * size + c, none⟩ _)⟩
    by_cases he : i' = i
    · by_cases hj : j' = c
      · rw [if_pos ⟨he, by omega⟩, if_pos ⟨he, hj⟩, hj]
      · by_cases hl : j' < c
        · rw [if_pos ⟨he, by omega⟩, if_neg (fun hh => hj hh.2), if_pos ⟨he, hl⟩]
        · rw [if_neg (fun hh => by have := hh.2; omega), if_neg (fun hh => hj hh.2), if_neg (fun hh => hl hh.2)]
    · rw [if_neg (fun hh => he hh.1), if_neg (fun hh => he hh.1), if_neg (fun hh => he hh.1)]
/-- One more element written: 'the first k are F, the others Z' goes on to k + 1. -/
theorem OwnS.put_next {w : World} {base e size n g cap k : Nat} {F Z : Nat → Nat → Value} (h : OwnS w base e size (.slice (some ⟨g, 0, none⟩) n cap) n (fun i j => if i < k then F i j else Z i j)) (hk : k < n) :
    OwnS (putCells w g (k * size) (F k) size) base e size (.slice (some ⟨g, 0, none⟩) n cap) n (fun i j => if i < k + 1 then F i j else Z i j) ∧ w.grownBy (putCells w g (k * size) (F k) size) (some g) := by
  obtain ⟨h1, h2⟩ := h.put (F k) hk size (Nat.le_refl _)
  refine ⟨h1.congr (fun i j _ hj => ?_), h2⟩
  rcases Nat.lt_trichotomy i k with hl | rfl | hl
  · rw [if_pos (by omega), if_neg (by omega), if_pos hl]
  · rw [if_pos (by omega), if_pos ⟨rfl, hj⟩]
  · rw [if_neg (by omega), if_neg (by omega), if_neg (by omega)]
theorem Ext.put {a w : World} (h : Ext a w) {g : Nat} (hg : a.heap.size ≤ g) (o : Nat) (u : Nat → Value) (c : Nat) : Ext a (putCells w g o u c) := by
  induction c with
  | zero => exact h
  | succ c ih => exact ih.setCell hg _
/-- A call that hands back a slice of its own. -/
def RetO (e : TypeId) (size n : Nat) (f : Nat → Nat → Value) (w : World) (en : Ending) (w' : World) : Prop :=
  ∃ v, en = .returned v ∧ OwnS w' w.heap.size e size v n f ∧ Ext w w'
/-- A call that hands back a slice and a bool: the slice is the call's own, n elements that hold f. -/
def RetS (e : TypeId) (size n : Nat) (f : Nat → Nat → Value) (ok : Bool) (w : World) (en : Ending) (w' : World) : Prop :=
  ∃ v, en = .returned (.tuple #[v, .bool ok]) ∧ OwnS w' w.heap.size e size v n f ∧ Ext w w'
theorem OwnS.apart {w w' : World} {b1 b2 e1 e2 s1 s2 n1 n2 : Nat} {v1 v2 : Value} {f1 f2 : Nat → Nat → Value} (h1 : OwnS w b1 e1 s1 v1 n1 f1) (h2 : OwnS w' b2 e2 s2 v2 n2 f2) (hb : w.heap.size ≤ b2) : v1.ownBlock = none ∨ v1.ownBlock ≠ v2.ownBlock := by
  cases hv : v1.ownBlock with
  | none => exact .inl rfl
  | some k =>
    right
    intro h
    have h3 := (h1.block k hv).2
    have h4 := (h2.block k h.symm).1
    omega
theorem OwnS.apart' {w w' : World} {b1 b2 e1 e2 s1 s2 n1 n2 : Nat} {v1 v2 : Value} {f1 f2 : Nat → Nat → Value} (h1 : OwnS w b1 e1 s1 v1 n1 f1) (h2 : OwnS w' b2 e2 s2 v2 n2 f2) (hb : w.heap.size ≤ b2) : v2.ownBlock = none ∨ v2.ownBlock ≠ v1.ownBlock := by
  rcases h1.apart h2 hb with h | h
  · rw [h]
    cases v2.ownBlock <;> simp
  · exact .inr (fun hh => h hh.symm)
theorem OwnS.ext_of {w0 w w' : World} {b e s n : Nat} {v : Value} {f : Nat → Nat → Value} (h : OwnS w b e s v n f) (hx : Ext w0 w) (hb : w0.heap.size ≤ b) (hg : w.grownBy w' v.ownBlock) : Ext w0 w' :=
  hx.grown hg (fun k hk => Nat.le_trans hb (h.block k hk).1)

/-! ### Elements of one and of two numbers -/
def mk1 (p : Nat → Int) : Nat → Nat → Value := fun i _ => .int .i64 (p i)
def mk2 (p q : Nat → Int) : Nat → Nat → Value := fun i j => if j = 0 then .int .i64 (p i) else .int .i64 (q i)
def marks1 : Nat → Nat → Value := mk1 fun i => (i : Int) + 1
def marks2 : Nat → Nat → Value := mk2 (fun i => 2 * (i : Int) + 1) (fun i => 2 * (i : Int) + 2)
theorem Rd.at2 {w : World} {A : Option Addr} {n i : Nat} {p q : Nat → Int} (h : Rd w A n 2 (mk2 p q)) (hi : i < n) :
    ∃ g off, A = some ⟨g, off, none⟩ ∧ g < w.heap.size ∧ w.cell? ⟨g, off + i * 2, none⟩ = some (.int .i64 (p i)) ∧ w.cell? ⟨g, off + i * 2 + 1, none⟩ = some (.int .i64 (q i)) := by
  obtain ⟨g, off, hA, hg, hc⟩ := h (by omega)
  exact ⟨g, off, hA, hg, hc i 0 hi (by omega), hc i 1 hi (by omega)⟩
theorem Rd.at1 {w : World} {A : Option Addr} {n i : Nat} {p : Nat → Int} (h : Rd w A n 1 (mk1 p)) (hi : i < n) :
    ∃ g off, A = some ⟨g, off, none⟩ ∧ g < w.heap.size ∧ w.cell? ⟨g, off + i, none⟩ = some (.int .i64 (p i)) := by
  obtain ⟨g, off, hA, hg, hc⟩ := h (by omega)
  have := hc i 0 hi (by omega)
  rw [Nat.mul_one, Nat.add_zero] at this
  exact ⟨g, off, hA, hg, this⟩
theorem marks2_step {k i j : Nat} {f : Nat → Nat → Value} (hj : j < 2) : (if i < k + 1 then marks2 i j else f i j) =
    if i = k ∧ j = 1 then Value.int .i64 (2 * (k : Int) + 1 + 1) else if i = k ∧ j = 0 then .int .i64 (2 * (k : Int) + 1) else if i < k then marks2 i j else f i j := by
  rcases Nat.lt_trichotomy i k with h | rfl | h
  · rw [if_pos (by omega), if_neg (by omega), if_neg (by omega), if_pos h]
  · rw [if_pos (by omega)]
    match j, hj with
    | 0, _ => simp [marks2, mk2]
    | 1, _ => simp [marks2, mk2]; omega
  · rw [if_neg (by omega), if_neg (by omega), if_neg (by omega), if_neg (by omega)]
theorem marks1_step {k i j : Nat} {f : Nat → Nat → Value} (hj : j < 1) : (if i < k + 1 then marks1 i j else f i j) =
    if i = k ∧ j = 0 then Value.int .i64 ((k : Int) + 1) else if i < k then marks1 i j else f i j := by
  rcases Nat.lt_trichotomy i k with h | rfl | h
  · rw [if_pos (by omega), if_neg (by omega), if_pos h]
  · rw [if_pos (by omega)]
    match j, hj with
    | 0, _ => simp [marks1, mk1]
  · rw [if_neg (by omega), if_neg (by omega), if_neg (by omega)]
/-- What a call leaves that writes into a slice of the caller's own: the number, what the slice holds now, and that nothing else has turned. -/
def MarkRet (base : Nat) (e : TypeId) (size n : Nat) (m : Nat → Nat → Value) (val : Int) (v : Value) (w : World) (en : Ending) (w' : World) : Prop :=
  en = .returned (.int .i64 val) ∧ OwnS w' base e size v n m ∧ w.grownBy w' v.ownBlock
end Go.Proofs.YtpmbnfoilhfobaaDoor
