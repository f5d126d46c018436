/- Decimal numerals read back. No program in sight. -/
import Derived.Test.YtpmbnfoilhfobaaDoorNum
import Derived.Lib.AtoiAll
namespace Go.Proofs.YtpmbnfoilhfobaaDoor
open Go.RowKit
set_option linter.unusedVariables false

def isD (c : UInt8) : Prop := 48 ≤ (c.toNat : Int) ∧ (c.toNat : Int) ≤ 57
def dval (l : List UInt8) : Int := l.foldl (fun a c => 10 * a + ((c.toNat : Int) - 48)) 0
theorem dval_snoc (l : List UInt8) (c : UInt8) : dval (l ++ [c]) = 10 * dval l + ((c.toNat : Int) - 48) := by unfold dval; rw [List.foldl_append]; rfl
theorem digit_isD {u : Nat} (h : u < 10) : isD (UInt8.ofNat (48 + u)) ∧ ((UInt8.ofNat (48 + u)).toNat : Int) = 48 + u := by
  have e : (UInt8.ofNat (48 + u)).toNat = 48 + u := by simp; omega
  refine ⟨⟨?_, ?_⟩, ?_⟩ <;> rw [e] <;> omega
theorem dec_isD (u : Nat) : ∀ c ∈ Lib.decDigits u, isD c := by
  induction u using Nat.strongRecOn with
  | _ u ih =>
    intro c hc
    rw [Lib.decDigits] at hc
    split at hc
    · rw [List.mem_singleton] at hc; subst hc; exact (digit_isD (by omega)).1
    · rcases List.mem_append.1 hc with h | h
      · exact ih (u / 10) (by omega) c h
      · rw [List.mem_singleton] at h; subst h; exact (digit_isD (Nat.mod_lt _ (by omega))).1
theorem dec_dval (u : Nat) : dval (Lib.decDigits u) = u := by
  induction u using Nat.strongRecOn with
  | _ u ih =>
    rw [Lib.decDigits]
    split
    · rename_i h
      have := (digit_isD h).2
      unfold dval
      simp only [List.foldl_cons, List.foldl_nil]
      omega
    · have := (digit_isD (Nat.mod_lt u (show 0 < 10 by omega))).2
      rw [dval_snoc, ih (u / 10) (by omega)]
      omega
theorem dval_bd (l : List UInt8) (h : ∀ c ∈ l, isD c) : 0 ≤ dval l ∧ dval l < 10 ^ l.length := by
  have key : ∀ (r : List UInt8), (∀ c ∈ r, isD c) → 0 ≤ dval r.reverse ∧ dval r.reverse < 10 ^ r.length := by
    intro r
    induction r with
    | nil => intro _; simp [dval]
    | cons c r ih =>
      intro hr
      have h1 := ih (fun c' hc' => hr c' (List.mem_cons_of_mem _ hc'))
      have h2 := hr c (List.mem_cons_self ..)
      rw [List.reverse_cons, dval_snoc, List.length_cons, Int.pow_succ]
      obtain ⟨h3, h4⟩ := h2
      omega
  have := key l.reverse (fun c hc => h c (List.mem_reverse.1 hc))
  rwa [List.reverse_reverse, List.length_reverse] at this
theorem dval_small (l : List UInt8) (h : ∀ c ∈ l, isD c) (hl : l.length ≤ 6) : 0 ≤ dval l ∧ dval l ≤ 999999 := by
  have h1 := dval_bd l h
  have h2 : (10 : Int) ^ l.length ≤ 1000000 := by
    have h3 : (10 : Nat) ^ l.length ≤ 10 ^ 6 := Nat.pow_le_pow_right (by omega) hl
    have h4 : ((10 ^ l.length : Nat) : Int) ≤ ((10 ^ 6 : Nat) : Int) := by omega
    rw [Int.natCast_pow] at h4
    simpa using h4
  omega
theorem dec_len (u : Nat) (h : u ≤ 999999) : 1 ≤ (Lib.decDigits u).length ∧ (Lib.decDigits u).length ≤ 6 := by
  rw [Lib.decDigits_length]
  refine ⟨Lib.nDigits_pos u, ?_⟩
  have key : ∀ (k u : Nat), u < 10 ^ (k + 1) → Lib.nDigits u ≤ k + 1 := by
    intro k
    induction k with
    | zero => intro u hu; rw [Lib.nDigits_small (by simpa using hu)]; omega
    | succ k ih =>
      intro u hu
      by_cases hs : u < 10
      · rw [Lib.nDigits_small hs]; omega
      · rw [Lib.nDigits_big hs]
        have := ih (u / 10) (by rw [Nat.pow_succ] at hu; omega)
        omega
  exact key 5 u (by omega)
theorem iB_eq {n : Int} {s : ByteArray} : iB n = s ↔ Lib.itoa n = s.data.toList := by
  unfold iB
  constructor
  · intro h; rw [← h]
  · intro h; rw [h]
theorem itoa_pos {n : Int} (h : 0 ≤ n) : Lib.itoa n = Lib.decDigits n.toNat := by unfold Lib.itoa; rw [if_neg (by omega)]
theorem itoa_minus {n : Int} (h : n < 0) : Lib.itoa n = 45 :: Lib.decDigits n.natAbs := by unfold Lib.itoa; rw [if_pos h]
theorem dec_head {u : Nat} {c : UInt8} {r : List UInt8} (h : Lib.decDigits u = c :: r) : c ≠ 45 := by
  have := dec_isD u c (by rw [h]; exact List.mem_cons_self ..)
  rintro rfl
  exact absurd this.1 (by decide)
/-- Does s say a number of at most six digits, as it is written? -/
def saysN (s : ByteArray) (n : Int) : Prop := (-999999 ≤ n ∧ n ≤ 999999) ∧ iB n = s
theorem says_one {s : ByteArray} {n k : Int} (h1 : saysN s n) (h2 : saysN s k) : n = k := by
  have e : Lib.itoa n = Lib.itoa k := (iB_eq.1 h1.2).trans (iB_eq.1 h2.2).symm
  by_cases hn : 0 ≤ n
  · by_cases hk : 0 ≤ k
    · rw [itoa_pos hn, itoa_pos hk] at e
      have := congrArg dval e
      rw [dec_dval, dec_dval] at this
      omega
    · rw [itoa_pos hn, itoa_minus (by omega)] at e
      exact absurd rfl (dec_head e)
  · by_cases hk : 0 ≤ k
    · rw [itoa_pos hk, itoa_minus (by omega)] at e
      exact absurd rfl (dec_head e.symm)
    · rw [itoa_minus (by omega), itoa_minus (by omega)] at e
      injection e with _ e
      have := congrArg dval e
      rw [dec_dval, dec_dval] at this
      omega
open Classical in
noncomputable def rdC (s : ByteArray) : Bool := decide (∃ n, saysN s n)
open Classical in
noncomputable def rdV (s : ByteArray) : Int := if h : ∃ n, saysN s n then h.choose else 0
open Classical in
theorem rd_yes {s : ByteArray} {n : Int} (h : saysN s n) : rdC s = true ∧ rdV s = n := by
  have he : ∃ n, saysN s n := ⟨n, h⟩
  refine ⟨by unfold rdC; exact decide_eq_true he, ?_⟩
  unfold rdV
  rw [dif_pos he]
  exact says_one he.choose_spec h
open Classical in
theorem rd_no {s : ByteArray} (h : ¬ ∃ n, saysN s n) : rdC s = false ∧ rdV s = 0 :=
  ⟨by unfold rdC; exact decide_eq_false h, by unfold rdV; rw [dif_neg h]⟩
/-- What a text that says a number looks like: without a sign. -/
theorem says_plain {s : ByteArray} {n : Int} (h : saysN s n) (hh : ∀ r, s.data.toList = 45 :: r → r = []) : 0 ≤ n ∧ s.data.toList = Lib.decDigits n.toNat := by
  have h1 := iB_eq.1 h.2
  by_cases hn : 0 ≤ n
  · exact ⟨hn, by rw [← h1, itoa_pos hn]⟩
  · rw [itoa_minus (by omega)] at h1
    have h2 := hh _ h1.symm
    have := (dec_len n.natAbs (by have := h.1; omega)).1
    rw [h2] at this
    exact absurd this (by decide)
theorem says_signed {s : ByteArray} {n : Int} {r : List UInt8} (h : saysN s n) (hh : s.data.toList = 45 :: r) : n < 0 ∧ r = Lib.decDigits n.natAbs := by
  have h1 := iB_eq.1 h.2
  by_cases hn : 0 ≤ n
  · rw [itoa_pos hn, hh] at h1
    exact absurd rfl (dec_head h1)
  · rw [itoa_minus (by omega), hh] at h1
    injection h1 with _ h1
    exact ⟨by omega, h1.symm⟩
/-! The library's reading of a numeral. -/
theorem parse_snoc (l : List UInt8) (c : UInt8) : ∀ (acc a : Nat), Lib.parseUint10 acc l = .ok a → isD c → a < 100000000000000000 → Lib.parseUint10 acc (l ++ [c]) = .ok (a * 10 + (c.toNat - 48)) := by
  induction l with
  | nil =>
    intro acc a h hc ha
    simp only [Lib.parseUint10] at h
    injection h with h
    subst h
    obtain ⟨c1, c2⟩ := hc
    simp only [List.nil_append, Lib.parseUint10]
    rw [if_pos ⟨by omega, by omega⟩, if_neg (by omega), if_neg (by omega)]
  | cons b l ih =>
    intro acc a h hc ha
    simp only [List.cons_append, Lib.parseUint10] at h ⊢
    split at h
    · rename_i hb
      rw [if_pos hb]
      split at h
      · cases h
      · rename_i h2
        rw [if_neg h2]
        split at h
        · cases h
        · rename_i h3
          rw [if_neg h3]
          exact ih _ _ h hc ha
    · cases h
theorem parse_dec (u : Nat) (h : u < 100000000000000000) : Lib.parseUint10 0 (Lib.decDigits u) = .ok u := by
  induction u using Nat.strongRecOn with
  | _ u ih =>
    rw [Lib.decDigits]
    split
    · rename_i h1
      have h2 := digit_isD h1
      obtain ⟨⟨d1, d2⟩, d3⟩ := h2
      simp only [Lib.parseUint10]
      rw [if_pos ⟨by omega, by omega⟩, if_neg (by omega), if_neg (by omega)]
      congr 1
      omega
    · have h2 := digit_isD (Nat.mod_lt u (show 0 < 10 by omega))
      rw [parse_snoc _ _ 0 (u / 10) (ih (u / 10) (by omega) (by omega)) h2.1 (by omega)]
      congr 1
      have := h2.2
      omega
theorem atoi_itoa {n : Int} (h0 : -999999 ≤ n) (h1 : n ≤ 999999) : Lib.atoiAll (Lib.itoa n) = .ok n := by
  by_cases hn : 0 ≤ n
  · rw [itoa_pos hn]
    have hl := (dec_len n.toNat (by omega)).1
    cases hd : Lib.decDigits n.toNat with
    | nil => rw [hd] at hl; exact absurd hl (by decide)
    | cons c r =>
      have hc := dec_isD n.toNat c (by rw [hd]; exact List.mem_cons_self ..)
      obtain ⟨c1, c2⟩ := hc
      unfold Lib.atoiAll Lib.parseMag
      have e1 : ¬ c.toNat = 43 := by omega
      have e2 : ¬ c.toNat = 45 := by omega
      simp only [e1, e2, or_self, if_false, List.cons_ne_nil]
      rw [← hd, parse_dec n.toNat (by omega)]
      simp only [not_false_eq_true, true_and, false_and, if_false]
      rw [if_neg (by omega)]
      congr 1
      omega
  · rw [itoa_minus (by omega)]
    have hl := (dec_len n.natAbs (by omega)).1
    unfold Lib.atoiAll Lib.parseMag
    have e2 : (45 : UInt8).toNat = 45 := rfl
    have e3 : ¬ Lib.decDigits n.natAbs = [] := fun h => by rw [h] at hl; exact absurd hl (by decide)
    simp only [e2, or_true, if_true, if_neg e3]
    rw [parse_dec n.natAbs (by omega)]
    simp only [not_true_eq_false, false_and, if_false, true_and]
    rw [if_neg (by omega)]
    congr 1
    omega
theorem says_atoi {s : ByteArray} {n : Int} (h : saysN s n) : Lib.atoiAll s.data.toList = .ok n := by
  rw [← iB_eq.1 h.2]
  exact atoi_itoa h.1.1 h.1.2
end Go.Proofs.YtpmbnfoilhfobaaDoor
