/- What a law's arguments read as: structs of numbers and bools, slices of such structs, of bytes and of strings. Over any program. -/
import Derived.Test.YtpmbnfoilhfobaaDoorBase
import Derived.ProofKit
import Derived.Deep.Slices
import Derived.Deep.Fields
import Derived.SliceStrings
namespace Go.Proofs.YtpmbnfoilhfobaaDoor
open Go.ChangeShapes Go.WideShapes Go.RowKit Go.Deep

/-- What one field holds: true: a number; false: a bool. -/
def FieldIs : Bool → Value → Prop
  | true, v => ∃ x : Int, v = .int .i64 x ∧ (Lit.int .i64 x).wf = true
  | false, v => ∃ b : Bool, v = .bool b

section
variable {H : Type} {enc : TypeId × Value → H} {P : Program} {w : World} {base : Nat} {spare : Nat → Bool} {held : Bool}

theorem fields_read {t I B : TypeId} {fs : Array Field} {fuel : Nat} {cs : List Value} {x : DataW H × List MemPlace} (ks : List Bool) (hs : P.underlying t = some (.struct fs)) (hone : oneCellFields P fs = true)
    (hC : P.cellsOf t = ks.length) (ht : fs.toList.map (·.type) = ks.map (fun k => if k then I else B)) (hI : P.underlying I = some (.int .i64)) (hB : ks.all id = true ∨ P.underlying B = some .bool)
    (h : DataW.trod enc P w base spare held fuel t cs = some x) : cs.length = ks.length ∧ ∀ (j : Nat) (k : Bool), ks[j]? = some k → ∃ v, cs[j]? = some v ∧ FieldIs k v := by
  obtain ⟨ys, n, _, _, hlen, hyl, hf⟩ := DataW.trod_struct hs h
  rw [hC] at hlen
  refine ⟨hlen, fun j k hk => ?_⟩
  have hj : j < ks.length := (List.getElem?_eq_some_iff.1 hk).1
  have hsz : fs.size = ks.length := by
    have := congrArg List.length ht
    simpa using this
  have hfj : fs[j]? = some fs[j] := Array.getElem?_eq_getElem (by omega)
  have hty : fs[j].type = if k then I else B := by
    have h1 : (fs.toList.map (·.type))[j]? = (ks.map (fun k => if k then I else B))[j]? := by rw [ht]
    rw [List.getElem?_map, List.getElem?_map, hk, Array.getElem?_toList, hfj] at h1
    simpa using h1
  obtain ⟨ho, hc⟩ := hone_of hone j _ hfj
  have h1 := hf j _ hfj
  rw [ho, hc, List.drop_eq_getElem_cons (by omega)] at h1
  have hv : cs[j]? = some cs[j] := List.getElem?_eq_getElem (by omega)
  have hy : ys[j]? = some ys[j] := List.getElem?_eq_getElem (by omega)
  rw [hy] at h1
  have h2 : DataW.trod enc P w base spare held n fs[j].type [cs[j]] = some ys[j] := h1
  refine ⟨_, hv, ?_⟩
  rw [hty] at h2
  cases k with
  | true =>
    obtain ⟨q, e, _, hw⟩ := DataW.trod_int hI h2
    exact ⟨q, by simpa using e, hw⟩
  | false =>
    rcases hB with hB | hB
    · exact absurd (List.all_eq_true.1 hB _ (List.mem_of_getElem? hk)) (by simp)
    · obtain ⟨b, e, _⟩ := DataW.trod_bool hB h2
      exact ⟨b, by simpa using e⟩

/-- A struct by value. -/
theorem open_agg {r : Reach} {b0 : Nat} {t I B : TypeId} {fs : Array Field} {v : Value} {d : DataW H} {p : List MemPlace} (ks : List Bool) (hs : P.underlying t = some (.struct fs)) (hone : oneCellFields P fs = true)
    (hC : P.cellsOf t = ks.length) (ht : fs.toList.map (·.type) = ks.map (fun k => if k then I else B)) (hI : P.underlying I = some (.int .i64)) (hB : ks.all id = true ∨ P.underlying B = some .bool)
    (hv : Value.okWide P w r b0 t v) (h : DataW.Trod enc P w base spare held t v d p) :
    ∃ cs : Array Value, v = .agg cs ∧ cs.size = ks.length ∧ ∀ (j : Nat) (k : Bool), ks[j]? = some k → ∃ u, cs[j]? = some u ∧ FieldIs k u := by
  obtain ⟨cs, rfl, hsz⟩ := okWide_struct hs hv
  obtain ⟨fuel, hf⟩ := h
  obtain ⟨h1, h2⟩ := fields_read ks hs hone hC ht hI hB hf
  refine ⟨cs, rfl, hsz.trans hC, fun j k hk => ?_⟩
  obtain ⟨u, hu, hk'⟩ := h2 j k hk
  exact ⟨u, by simpa [Value.cells] using hu, hk'⟩
end

/-- THE WALK's WORD FOR A SLICE THAT IS READ: n elements of k cells each; cell j of element i holds f i j. Nothing is said where n is 0. -/
def Rd (w : World) (A : Option Addr) (n k : Nat) (f : Nat → Nat → Value) : Prop :=
  0 < n → ∃ g off, A = some ⟨g, off, none⟩ ∧ g < w.heap.size ∧ ∀ i j, i < n → j < k → w.cell? ⟨g, off + (i * k + j), none⟩ = some (f i j)

theorem Rd.ext {w w' : World} {A : Option Addr} {n k : Nat} {f : Nat → Nat → Value} (h : Rd w A n k f) (hx : Ext w w') : Rd w' A n k f := fun hn => by
  obtain ⟨g, off, hA, hg, hc⟩ := h hn
  exact ⟨g, off, hA, Nat.lt_of_lt_of_le hg hx.size_le, fun i j hi hj => (hx.cell hg).trans (hc i j hi hj)⟩

theorem Rd.congr {w : World} {A : Option Addr} {n k : Nat} {f f' : Nat → Nat → Value} (h : Rd w A n k f) (hf : ∀ i j, i < n → j < k → f' i j = f i j) : Rd w A n k f' := fun hn => by
  obtain ⟨g, off, hA, hg, hc⟩ := h hn
  exact ⟨g, off, hA, hg, fun i j hi hj => by rw [hf i j hi hj]; exact hc i j hi hj⟩

section
variable {H : Type} {enc : TypeId × Value → H} {P : Program} {w : World} {base : Nat} {spare : Nat → Bool} {held : Bool}

theorem spot_none {w : World} {a : Addr} {v : Value} (h : w.cell? a = some v) : a = ⟨a.block, a.off, none⟩ := by
  obtain ⟨b, o, s⟩ := a
  have := World.cell?_spot h
  simp at this
  subst this
  rfl
theorem add_block (a : Addr) (n : Nat) : (a.add n).block = a.block := by unfold Addr.add; split <;> rfl

/-- A slice of structs that came in. -/
theorem open_rows {t e I B : TypeId} {fs : Array Field} {a : Option Addr} {len cap : Nat} {d : DataW H} {p : List MemPlace} (ks : List Bool) (hts : P.underlying t = some (.slice e)) (hs : P.underlying e = some (.struct fs)) (hone : oneCellFields P fs = true)
    (hC : P.cellsOf e = ks.length) (h0 : 0 < ks.length) (ht : fs.toList.map (·.type) = ks.map (fun k => if k then I else B)) (hI : P.underlying I = some (.int .i64)) (hB : ks.all id = true ∨ P.underlying B = some .bool)
    (h : DataW.Trod enc P w base spare held t (.slice a len cap) d p) :
    len ≤ maxLen ∧ ∃ f : Nat → Nat → Value, Rd w a len ks.length f ∧ ∀ i j k, i < len → ks[j]? = some k → FieldIs k (f i j) := by
  obtain ⟨fuel, hf⟩ := h
  rcases open_slice hts hf with ⟨hcs, _⟩ | ⟨x, l, c, m, n, D, Pl, hcs, _, hl, hm, hmm, hx, hi⟩
  · simp [Value.cells] at hcs
    obtain ⟨rfl, rfl, rfl⟩ := hcs
    exact ⟨Nat.zero_le _, fun _ _ => .bool false, fun h => absurd h (by omega), fun i j k hi => absurd hi (by omega)⟩
  · simp [Value.cells] at hcs
    obtain ⟨rfl, rfl, rfl⟩ := hcs
    have hml : len ≤ m := by rw [hmm]; split <;> omega
    have hcell : ∀ i j, i < len → j < ks.length → ∃ v, w.cell? (x.add (i * ks.length + j)) = some v ∧ ∀ k, ks[j]? = some k → FieldIs k v := by
      intro i j hil hj
      obtain ⟨cs', hc, ht'⟩ := hi i (by omega)
      rw [hC] at hc
      obtain ⟨_, _, hat⟩ := World.cells?_some hc
      obtain ⟨h1, h2⟩ := fields_read ks hs hone hC ht hI hB ht'
      obtain ⟨v, hv, hk⟩ := h2 j _ (List.getElem?_eq_getElem hj)
      refine ⟨v, ?_, fun k hk' => ?_⟩
      · rw [← Go.Deep.add_add, hat j hj, hv]
      · rw [List.getElem?_eq_getElem hj] at hk'
        injection hk' with hk'
        rw [← hk']
        exact hk
    refine ⟨by omega, fun i j => ((w.cell? (x.add (i * ks.length + j))).getD (.bool false)), fun hn => ?_, fun i j k hil hk => ?_⟩
    · obtain ⟨v0, hv0, _⟩ := hcell 0 0 hn h0
      have hx0 : x = ⟨x.block, x.off, none⟩ := by
        have : x.add (0 * ks.length + 0) = x := by simp [Addr.add]
        rw [this] at hv0
        exact spot_none hv0
      refine ⟨x.block, x.off, by rw [← hx0], ?_, fun i j hil hj => ?_⟩
      · have hb := World.block_lt_of_cell? w _ hv0
        rwa [add_block] at hb
      · obtain ⟨v, hv, _⟩ := hcell i j hil hj
        have e : x.add (i * ks.length + j) = ⟨x.block, x.off + (i * ks.length + j), none⟩ := by
          rw [show x.add (i * ks.length + j) = (⟨x.block, x.off, none⟩ : Addr).add (i * ks.length + j) by rw [← hx0]]
          unfold Addr.add
          split
          · rename_i h0
            rw [h0]
            rfl
          · rfl
        rw [e] at hv
        show w.cell? _ = some ((w.cell? (x.add _)).getD _)
        rw [e, hv]
        rfl
    · obtain ⟨v, hv, hkk⟩ := hcell i j hil (List.getElem?_eq_some_iff.1 hk).1
      show FieldIs k ((w.cell? (x.add _)).getD _)
      rw [hv]
      exact hkk k hk
end

/-- Structs whose fields are all numbers, or those of a worker, by value. -/
theorem agg_ii {cs : Array Value} (h : cs.size = 2) (hf : ∀ (j : Nat) (k : Bool), [true, true][j]? = some k → ∃ u, cs[j]? = some u ∧ FieldIs k u) : ∃ a b : Int, cs = #[.int .i64 a, .int .i64 b] := by
  obtain ⟨_, h0, a, rfl, _⟩ := hf 0 true rfl
  obtain ⟨_, h1, b, rfl, _⟩ := hf 1 true rfl
  obtain ⟨l⟩ := cs
  match l, h with
  | [_, _], _ =>
    simp at h0 h1
    subst h0 h1
    exact ⟨a, b, rfl⟩
theorem agg_iiibi {cs : Array Value} (h : cs.size = 5) (hf : ∀ (j : Nat) (k : Bool), [true, true, true, false, true][j]? = some k → ∃ u, cs[j]? = some u ∧ FieldIs k u) :
    ∃ (a b c : Int) (d : Bool) (e : Int), cs = #[.int .i64 a, .int .i64 b, .int .i64 c, .bool d, .int .i64 e] := by
  obtain ⟨_, h0, a, rfl, _⟩ := hf 0 true rfl
  obtain ⟨_, h1, b, rfl, _⟩ := hf 1 true rfl
  obtain ⟨_, h2, c, rfl, _⟩ := hf 2 true rfl
  obtain ⟨_, h3, d, rfl⟩ := hf 3 false rfl
  obtain ⟨_, h4, e, rfl, _⟩ := hf 4 true rfl
  obtain ⟨l⟩ := cs
  match l, h with
  | [_, _, _, _, _], _ =>
    simp at h0 h1 h2 h3 h4
    subst h0 h1 h2 h3 h4
    exact ⟨a, b, c, d, e, rfl⟩
theorem agg_iiiiii {cs : Array Value} (h : cs.size = 6) (hf : ∀ (j : Nat) (k : Bool), [true, true, true, true, true, true][j]? = some k → ∃ u, cs[j]? = some u ∧ FieldIs k u) :
    ∃ a b c d e f : Int, cs = #[.int .i64 a, .int .i64 b, .int .i64 c, .int .i64 d, .int .i64 e, .int .i64 f] := by
  obtain ⟨_, h0, a, rfl, _⟩ := hf 0 true rfl
  obtain ⟨_, h1, b, rfl, _⟩ := hf 1 true rfl
  obtain ⟨_, h2, c, rfl, _⟩ := hf 2 true rfl
  obtain ⟨_, h3, d, rfl, _⟩ := hf 3 true rfl
  obtain ⟨_, h4, e, rfl, _⟩ := hf 4 true rfl
  obtain ⟨_, h5, f, rfl, _⟩ := hf 5 true rfl
  obtain ⟨l⟩ := cs
  match l, h with
  | [_, _, _, _, _, _], _ =>
    simp at h0 h1 h2 h3 h4 h5
    subst h0 h1 h2 h3 h4 h5
    exact ⟨a, b, c, d, e, f, rfl⟩
end Go.Proofs.YtpmbnfoilhfobaaDoor
