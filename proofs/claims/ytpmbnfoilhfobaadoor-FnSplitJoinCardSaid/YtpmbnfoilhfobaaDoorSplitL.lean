/- The library's Split at one byte gives the pieces. No program in sight. -/
import Derived.Test.YtpmbnfoilhfobaaDoorPieces
import Derived.Lib.SplitLaws
import Derived.Lib.IndexBytes
namespace Go.Proofs.YtpmbnfoilhfobaaDoor
open Go.RowKit
set_option linter.unusedVariables false

def sp1 (b : UInt8) : List UInt8 → List (List UInt8)
  | [] => [[]]
  | c :: l => if c = b then [] :: sp1 b l else match sp1 b l with
    | [] => [[c]]
    | h :: t => (c :: h) :: t
theorem sp1_pos (b : UInt8) (l : List UInt8) : sp1 b l ≠ [] := by
  cases l with
  | nil => simp [sp1]
  | cons c l =>
    unfold sp1
    split
    · simp
    · split <;> simp
theorem sp1_eq (b : UInt8) (l : List UInt8) : sp1 b (b :: l) = [] :: sp1 b l := by
  conv => lhs; unfold sp1
  rw [if_pos rfl]
theorem sp1_ne {b c : UInt8} (h : c ≠ b) {l h1 : List UInt8} {t : List (List UInt8)} (e : sp1 b l = h1 :: t) : sp1 b (c :: l) = (c :: h1) :: t := by
  conv => lhs; unfold sp1
  rw [if_neg h, e]
theorem sp1_hit (b : UInt8) (l : List UInt8) : sp1 b (l ++ [b]) = sp1 b l ++ [[]] := by
  induction l with
  | nil => simp [sp1]
  | cons c l ih =>
    by_cases h : c = b
    · subst h
      rw [List.cons_append, sp1_eq, sp1_eq, ih]; rfl
    · cases hs : sp1 b l with
      | nil => exact absurd hs (sp1_pos b l)
      | cons h1 t =>
        rw [hs] at ih
        rw [List.cons_append, sp1_ne h hs, sp1_ne h ih]; rfl
theorem sp1_miss {b c : UInt8} (hc : c ≠ b) (l : List UInt8) : ∀ xs y, sp1 b l = xs ++ [y] → sp1 b (l ++ [c]) = xs ++ [y ++ [c]] := by
  induction l with
  | nil =>
    intro xs y h
    cases xs with
    | nil =>
      injection h with h
      subst h
      exact sp1_ne hc (show sp1 b [] = [] :: [] from rfl)
    | cons x xs => injection h with _ h; simp at h
  | cons a l ih =>
    intro xs y h
    by_cases ha : a = b
    · subst ha
      rw [sp1_eq] at h
      cases xs with
      | nil => injection h with _ h; exact absurd h (sp1_pos a l)
      | cons x xs =>
        injection h with h1 h2
        subst h1
        rw [List.cons_append, sp1_eq, ih xs y h2]; rfl
    · cases hs : sp1 b l with
      | nil => exact absurd hs (sp1_pos b l)
      | cons h1 t =>
        rw [sp1_ne ha hs] at h
        cases xs with
        | nil =>
          injection h with h2 h3
          subst h3
          have := ih [] h1 hs
          rw [List.cons_append, sp1_ne ha this, ← h2]; rfl
        | cons x xs =>
          injection h with h2 h3
          have := ih (h1 :: xs) y (by rw [hs, h3]; rfl)
          rw [List.cons_append, sp1_ne ha this, ← h2]; rfl
theorem spP_sp1 (s : ByteArray) (b : UInt8) (k : Nat) (hk : k ≤ s.size) : sp1 b (s.data.toList.take k) = (spP s b k).1.map (·.data.toList) ++ [(s.data.toList.take k).drop (spP s b k).2] := by
  induction k with
  | zero => rfl
  | succ k ih =>
    have h1 := ih (by omega)
    have h2 := take_snoc s k (by omega)
    have hf := (spP_le s b k).1
    by_cases he : s[k] = b
    · rw [spP_hit (by omega) he]
      rw [h2, he, sp1_hit, h1, List.map_append]
      congr 1
      · congr 1
        show _ = [(s.extract (spP s b k).2 k).data.toList]
        congr 1
        simp only [ByteArray.data_extract, Array.toList_extract, List.extract_eq_take_drop]
        rw [List.drop_take]
      · congr 1
        refine (List.drop_eq_nil_of_le ?_).symm
        simp
        omega
    · rw [spP_miss (by omega) he, h2, sp1_miss he _ _ _ h1, List.drop_append_of_le_length (by simp; omega)]
theorem spL_sp1 (s : ByteArray) (b : UInt8) : (spL s b).map (·.data.toList) = sp1 b s.data.toList := by
  have h := spP_sp1 s b s.size (Nat.le_refl _)
  have h2 : s.data.toList.take s.size = s.data.toList := List.take_of_length_le (by first | (simp; done) | (simp; omega))
  rw [h2] at h
  unfold spL
  rw [h, List.map_append]
  congr 1
  show [(s.extract (spP s b s.size).2 s.size).data.toList] = _
  congr 1
  simp only [ByteArray.data_extract, Array.toList_extract, List.extract_eq_take_drop]
  refine List.take_of_length_le ?_
  simp
theorem split_sp1 (b : UInt8) (l : List UInt8) : Lib.splitK [b] 0 (Lib.count l [b]) l = sp1 b l := by
  induction l with
  | nil => rfl
  | cons c l ih =>
    by_cases h : c = b
    · subst h
      rw [Lib.count_cons_eq, sp1_eq, ← ih, Nat.add_comm]
      have hix : Lib.index (c :: l) [c] = ((0 : Nat) : Int) := by rw [Lib.index]; simp [List.isPrefixOf]
      conv => lhs; unfold Lib.splitK
      rw [hix]
      simp
    · rw [Lib.count_cons_ne c b l h]
      have hp : ([b] : List UInt8).isPrefixOf (c :: l) = false := by simp [List.isPrefixOf, Ne.symm h]
      have hix : Lib.index (c :: l) [b] = if Lib.index l [b] == -1 then -1 else Lib.index l [b] + 1 := by rw [Lib.index, hp]; simp
      by_cases hm : Lib.index l [b] = -1
      · rw [Lib.count_miss hm] at ih ⊢
        exact (sp1_ne h (show sp1 b l = l :: [] from ih.symm)).symm
      · have hge := Lib.index_ge l [b]
        obtain ⟨j, hj⟩ : ∃ j : Nat, Lib.index l [b] = j := ⟨(Lib.index l [b]).toNat, by omega⟩
        have hix' : Lib.index (c :: l) [b] = ((j + 1 : Nat) : Int) := by rw [hix, if_neg (fun e => hm (beq_iff_eq.1 e)), hj]; omega
        rw [Lib.count_hit (by simp) hj, Nat.add_comm] at ih ⊢
        unfold Lib.splitK at ih ⊢
        rw [hj, if_neg (by first | (simp; done) | (simp; omega))] at ih
        rw [hix', if_neg (by first | (simp; done) | (simp; omega))]
        rw [sp1_ne h ih.symm]
        simp
theorem splitB_spL (s : ByteArray) (b : UInt8) : Lib.splitB ⟨#[b]⟩ 0 (Lib.countB s ⟨#[b]⟩) s = spL s b := by
  have inj : Function.Injective (fun x : ByteArray => x.data.toList) := fun x y h => ByteArray.ext (Array.toList_inj.1 h)
  refine (List.map_inj_right (fun x y h => inj h)).1 ?_
  rw [Lib.splitB_data, spL_sp1]
  exact split_sp1 b s.data.toList
end Go.Proofs.YtpmbnfoilhfobaaDoor
