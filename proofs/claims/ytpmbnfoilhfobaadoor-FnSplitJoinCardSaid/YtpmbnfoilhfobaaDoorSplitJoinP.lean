/- What FnSplitJoin says, in plain lists: the pieces of a text, joined again, are the text. No program in sight. -/
import Derived.Test.YtpmbnfoilhfobaaDoorSplitL
import Derived.Test.YtpmbnfoilhfobaaDoorJoin
import Derived.Sort.Walk0
namespace Go.Proofs.YtpmbnfoilhfobaaDoor
open Go.RowKit
set_option linter.unusedVariables false

theorem less_not_both (a b : List UInt8) : (Op.bytesLess a b && Op.bytesLess b a) = false := by
  induction a generalizing b with
  | nil => cases b <;> simp [Op.bytesLess]
  | cons x a ih =>
    cases b with
    | nil => simp [Op.bytesLess]
    | cons y b =>
      have h := ih b
      rw [Bool.and_eq_false_iff] at h ⊢
      simp only [Op.bytesLess]
      by_cases hxy : x = y
      · subst hxy
        simpa using h
      · have h1 : (x == y) = false := by simpa using hxy
        have h2 : (y == x) = false := by simpa using fun h => hxy h.symm
        rw [h1, h2]
        simp only [Bool.false_and, Bool.or_false, decide_eq_false_iff_not]
        by_cases h3 : x < y
        · exact .inr (fun h4 => absurd (UInt8.lt_trans h3 h4) (UInt8.lt_irrefl x))
        · exact .inl h3
theorem sp1_clean (b : UInt8) (l : List UInt8) : ∀ x, x ∈ sp1 b l → b ∉ x := by
  induction l with
  | nil => intro x hx; simp [sp1] at hx; subst hx; simp
  | cons c l ih =>
    by_cases h : c = b
    · subst h
      rw [sp1_eq]
      intro x hx
      rcases List.mem_cons.1 hx with rfl | hx
      · simp
      · exact ih x hx
    · cases hs : sp1 b l with
      | nil => exact absurd hs (sp1_pos b l)
      | cons h1 t =>
        rw [hs] at ih
        rw [sp1_ne h hs]
        intro x hx
        rcases List.mem_cons.1 hx with rfl | hx
        · intro hb
          rcases List.mem_cons.1 hb with rfl | hb
          · exact h rfl
          · exact ih h1 (List.mem_cons_self ..) hb
        · exact ih x (List.mem_cons_of_mem _ hx)
theorem sp1_join (b : UInt8) (l : List UInt8) : Lib.join (sp1 b l) [b] = l := by
  induction l with
  | nil => simp [sp1, Lib.join_one]
  | cons c l ih =>
    cases hs : sp1 b l with
    | nil => exact absurd hs (sp1_pos b l)
    | cons h1 t =>
      rw [hs, Lib.join_cons] at ih
      by_cases h : c = b
      · subst h
        rw [sp1_eq, hs, Lib.join_cons]
        simp only [Lib.joinTail, List.nil_append]
        first
          | (rw [← ih]; rfl)
          | (rw [← ih]; simp [Lib.joinTail])
      · rw [sp1_ne h hs, Lib.join_cons, List.cons_append, ih]
theorem spL_clean (s : ByteArray) (b : UInt8) (i : Nat) (hi : i < (spL s b).length) : hasB ((spL s b).getD i ByteArray.empty) b = false := by
  have h : (spL s b)[i].data.toList ∈ sp1 b s.data.toList := by
    rw [← spL_sp1]
    exact List.mem_map.2 ⟨_, List.getElem_mem hi, rfl⟩
  have h2 := sp1_clean b _ _ h
  rw [List.getD_eq_getElem?_getD, List.getElem?_eq_getElem hi]
  unfold hasB
  simpa using h2
theorem spL_pos (s : ByteArray) (b : UInt8) : 0 < (spL s b).length := by
  unfold spL
  rw [List.length_append]
  simp
theorem spL_back (s : ByteArray) (b : UInt8) : jP (spL s b) b (spL s b).length = s := by
  rw [jP_join _ _ (spL_pos s b), spL_sp1, sp1_join]
theorem spL_sum (s : ByteArray) (b : UInt8) : tS (spL s b) (spL s b).length + ((spL s b).length - 1) = s.size := by
  rw [← jP_size _ b, spL_back]
theorem spL_join (s : ByteArray) (b : UInt8) (h : s.size ≤ 4000) : jC (spL s b) b = true ∧ jS (spL s b) b = s := by
  have h1 := j_yes (l := spL s b) (b := b) ⟨spL_pos s b, spL_clean s b, by rw [spL_sum]; exact h⟩
  exact ⟨h1.1, by rw [h1.2, spL_back]⟩
end Go.Proofs.YtpmbnfoilhfobaaDoor
