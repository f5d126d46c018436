/- A brine's text read back: the plain law. No program in sight but for the text's words. -/
import Derived.Test.YtpmbnfoilhfobaaDoorDig
import Derived.Test.YtpmbnfoilhfobaaDoorText
import Derived.Test.YtpmbnfoilhfobaaDoorSplitL
import Derived.Lib.IndexMore
import Derived.Lib.Strings
namespace Go.Proofs.YtpmbnfoilhfobaaDoor
open Go.RowKit
set_option linter.unusedVariables false

theorem dec_len7 (u : Nat) (h : u ≤ 1000000) : 1 ≤ (Lib.decDigits u).length ∧ (Lib.decDigits u).length ≤ 7 := by
  rw [Lib.decDigits_length]
  refine ⟨Lib.nDigits_pos u, ?_⟩
  have key : ∀ (k u : Nat), u < 10 ^ (k + 1) → Lib.nDigits u ≤ k + 1 := by
    intro k
    induction k with
    | zero => intro u hu; rw [Lib.nDigits_small (by simpa using hu)]; omega
    | succ k ih =>
      intro u hu
      by_cases hs : u < 10
      · rw [Lib.nDigits_small hs]; omega
      · rw [Lib.nDigits_big hs]
        have := ih (u / 10) (by rw [Nat.pow_succ] at hu; omega)
        omega
  exact key 6 u (by omega)
theorem dval_small7 (l : List UInt8) (h : ∀ c ∈ l, isD c) (hl : l.length ≤ 7) : 0 ≤ dval l ∧ dval l ≤ 9999999 := by
  have h1 := dval_bd l h
  have h2 : (10 : Int) ^ l.length ≤ 10000000 := by
    have h3 : (10 : Nat) ^ l.length ≤ 10 ^ 7 := Nat.pow_le_pow_right (by omega) hl
    have h4 : ((10 ^ l.length : Nat) : Int) ≤ ((10 ^ 7 : Nat) : Int) := by omega
    rw [Int.natCast_pow] at h4
    simpa using h4
  omega
def okD7 (l : List UInt8) : Prop := (∀ c ∈ l, isD c) ∧ 1 ≤ l.length ∧ l.length ≤ 7
open Classical in
noncomputable def rd7 (l : List UInt8) : Int := if okD7 l then dval l else -1
theorem rd7_yes {l : List UInt8} (h : okD7 l) : rd7 l = dval l := by unfold rd7; rw [if_pos h]
theorem rd7_no {l : List UInt8} (h : ¬ okD7 l) : rd7 l = -1 := by unfold rd7; rw [if_neg h]
theorem rd7_bd (l : List UInt8) : -1 ≤ rd7 l ∧ rd7 l ≤ 9999999 := by
  by_cases h : okD7 l
  · rw [rd7_yes h]
    have := dval_small7 l h.1 h.2.2
    omega
  · rw [rd7_no h]
    omega
theorem rd7_dec {u : Nat} (h : u ≤ 1000000) : rd7 (Lib.decDigits u) = u := by
  rw [rd7_yes ⟨dec_isD u, (dec_len7 u h).1, (dec_len7 u h).2⟩, dec_dval]
theorem sp1_none {b : UInt8} {l : List UInt8} (h : ∀ c ∈ l, c ≠ b) : sp1 b l = [l] := by
  induction l with
  | nil => rfl
  | cons c l ih => exact sp1_ne (h c (List.mem_cons_self ..)) (ih (fun d hd => h d (List.mem_cons_of_mem _ hd)))
theorem sp1_mid {b : UInt8} {l r : List UInt8} (h : ∀ c ∈ l, c ≠ b) : sp1 b (l ++ b :: r) = l :: sp1 b r := by
  induction l with
  | nil => exact sp1_eq b r
  | cons c l ih =>
    rw [List.cons_append]
    exact sp1_ne (h c (List.mem_cons_self ..)) (ih (fun d hd => h d (List.mem_cons_of_mem _ hd)))
theorem index_mid {l r : List UInt8} (h : ∀ c ∈ l, c ≠ 32) : Lib.index (l ++ 32 :: 115 :: r) [32, 115] = (l.length : Int) := by
  induction l with
  | nil =>
    rw [List.nil_append, Lib.index]
    simp [List.isPrefixOf]
  | cons c l ih =>
    have h1 := ih (fun d hd => h d (List.mem_cons_of_mem _ hd))
    have hp : ([32, 115] : List UInt8).isPrefixOf (c :: (l ++ 32 :: 115 :: r)) = false := by
      simp [List.isPrefixOf, Ne.symm (h c (List.mem_cons_self ..))]
    rw [List.cons_append, Lib.index, hp, if_neg (by simp), h1, if_neg (by first | (simp; done) | (simp; omega))]
    simp
theorem cut_mid {l r : List UInt8} (h : ∀ c ∈ l, c ≠ 32) : Lib.cut (l ++ 32 :: 115 :: r) [32, 115] = (l, r, true) := by
  unfold Lib.cut
  rw [index_mid h, if_pos (by omega), Int.toNat_natCast]
  simp
theorem bText_list {a b : Int} (ha : 0 ≤ a) (hb : 0 ≤ b) : (bText a b).data.toList = (119 :: Lib.decDigits a.toNat) ++ 32 :: 115 :: Lib.decDigits b.toNat := by
  unfold bText iB
  rw [itoa_pos ha, itoa_pos hb]
  simp
theorem dec_no {u : Nat} {b : UInt8} (hb : ¬ isD b) : ∀ c ∈ Lib.decDigits u, c ≠ b := fun c hc he => hb (he ▸ dec_isD u c hc)
theorem head_no (u : Nat) : ∀ c ∈ (119 :: Lib.decDigits u : List UInt8), c ≠ 32 := by
  intro c hc
  rcases List.mem_cons.1 hc with h | h
  · rw [h]; decide
  · exact dec_no (b := 32) (fun h => absurd h.1 (by decide)) c h
theorem tail_no (u : Nat) : ∀ c ∈ (115 :: Lib.decDigits u : List UInt8), c ≠ 32 := by
  intro c hc
  rcases List.mem_cons.1 hc with h | h
  · rw [h]; decide
  · exact dec_no (b := 32) (fun h => absurd h.1 (by decide)) c h
theorem bs_of_list {x y : ByteArray} (h : x.data.toList = y.data.toList) : x = y := ByteArray.ext (Array.toList_inj.1 h)
/-- What the program reads. -/
noncomputable def pX (s : ByteArray) : Int := rd7 (Lib.trimPrefix (Lib.cut s.data.toList [32, 115]).1 [119])
noncomputable def pY (s : ByteArray) : Int := rd7 (Lib.cut s.data.toList [32, 115]).2.1
/-- What the reference reads. -/
noncomputable def qX (s : ByteArray) : Int := rd7 (((spL s 32).getD 0 ByteArray.empty).data.toList.drop 1)
noncomputable def qY (s : ByteArray) : Int := rd7 (((spL s 32).getD 1 ByteArray.empty).data.toList.drop 1)
theorem pb_read {a b : Int} (hv : brineB a b = true) {s : ByteArray} (h : bText a b = s) :
    pX s = a ∧ pY s = b ∧ qX s = a ∧ qY s = b ∧ (spL s 32).length = 2 ∧ 2 ≤ ((spL s 32).getD 0 ByteArray.empty).size ∧ 2 ≤ ((spL s 32).getD 1 ByteArray.empty).size := by
  obtain ⟨⟨a0, a1⟩, b0, b1⟩ := brineB_iff.1 hv
  subst h
  have hl := bText_list a0 b0
  have hna := head_no a.toNat
  have hnb := tail_no b.toNat
  have hla := dec_len7 a.toNat (by omega)
  have hlb := dec_len7 b.toNat (by omega)
  have hc := cut_mid (r := Lib.decDigits b.toNat) hna
  have hm : (spL (bText a b) 32).map (·.data.toList) = [119 :: Lib.decDigits a.toNat, 115 :: Lib.decDigits b.toNat] := by
    rw [spL_sp1, hl, sp1_mid hna, sp1_none hnb]
  obtain ⟨x, y, hxy, hx, hy⟩ : ∃ x y : ByteArray, spL (bText a b) 32 = [x, y] ∧ x.data.toList = 119 :: Lib.decDigits a.toNat ∧ y.data.toList = 115 :: Lib.decDigits b.toNat := by
    match hsp : spL (bText a b) 32, hm with
    | [x, y], hm =>
      injection hm with h1 h2
      injection h2 with h2 _
      exact ⟨x, y, rfl, h1, h2⟩
    | [], hm => cases hm
    | [_], hm => injection hm with _ h; cases h
    | _ :: _ :: _ :: _, hm => injection hm with _ h; injection h with _ h; cases h
  have rx : rd7 (Lib.decDigits a.toNat) = a := by rw [rd7_dec (by omega)]; omega
  have ry : rd7 (Lib.decDigits b.toNat) = b := by rw [rd7_dec (by omega)]; omega
  have sz : ∀ z : ByteArray, z.size = z.data.toList.length := fun z => by simp
  refine ⟨?_, ?_, ?_, ?_, ?_, ?_, ?_⟩
  · unfold pX
    rw [hl, hc]
    show rd7 (Lib.trimPrefix (119 :: Lib.decDigits a.toNat) [119]) = a
    have : Lib.trimPrefix (119 :: Lib.decDigits a.toNat) [119] = Lib.decDigits a.toNat := by
      unfold Lib.trimPrefix Lib.hasPrefix
      simp [List.isPrefixOf]
    rw [this, rx]
  · unfold pY
    rw [hl, hc]
    exact ry
  · unfold qX
    rw [hxy]
    show rd7 (x.data.toList.drop 1) = a
    rw [hx]
    exact rx
  · unfold qY
    rw [hxy]
    show rd7 (y.data.toList.drop 1) = b
    rw [hy]
    exact ry
  · rw [hxy]; rfl
  · rw [hxy]
    show 2 ≤ x.size
    rw [sz, hx, List.length_cons]
    omega
  · rw [hxy]
    show 2 ≤ y.size
    rw [sz, hy, List.length_cons]
    omega
/-- Is s the text of a brine? -/
def pbP (s : ByteArray) : Prop := ∃ a b, brineB a b = true ∧ bText a b = s
open Classical in
noncomputable def pbC (s : ByteArray) : Bool := decide (pbP s)
open Classical in
noncomputable def pbA (s : ByteArray) : Int := if pbP s then pX s else 0
open Classical in
noncomputable def pbB (s : ByteArray) : Int := if pbP s then pY s else 0
open Classical in
theorem pb_no {s : ByteArray} (h : ¬ pbP s) : pbC s = false ∧ pbA s = 0 ∧ pbB s = 0 :=
  ⟨by unfold pbC; exact decide_eq_false h, by unfold pbA; rw [if_neg h], by unfold pbB; rw [if_neg h]⟩
open Classical in
theorem pb_yes {s : ByteArray} {a b : Int} (hv : brineB a b = true) (h : bText a b = s) : pbC s = true ∧ pbA s = a ∧ pbB s = b := by
  have hp : pbP s := ⟨a, b, hv, h⟩
  obtain ⟨h1, h2, _⟩ := pb_read hv h
  exact ⟨by unfold pbC; exact decide_eq_true hp, by unfold pbA; rw [if_pos hp, h1], by unfold pbB; rw [if_pos hp, h2]⟩
/-- The program's test. -/
theorem pb_prog {s : ByteArray} : pbP s ↔ brineB (pX s) (pY s) = true ∧ bText (pX s) (pY s) = s := by
  constructor
  · rintro ⟨a, b, hv, h⟩
    obtain ⟨h1, h2, _⟩ := pb_read hv h
    rw [h1, h2]
    exact ⟨hv, h⟩
  · rintro ⟨hv, h⟩
    exact ⟨_, _, hv, h⟩
/-- The reference's test. -/
theorem pb_spec {s : ByteArray} : pbP s ↔ (spL s 32).length = 2 ∧ 2 ≤ ((spL s 32).getD 0 ByteArray.empty).size ∧ 2 ≤ ((spL s 32).getD 1 ByteArray.empty).size ∧ brineB (qX s) (qY s) = true ∧ bText (qX s) (qY s) = s := by
  constructor
  · rintro ⟨a, b, hv, h⟩
    obtain ⟨_, _, h3, h4, h5, h6, h7⟩ := pb_read hv h
    rw [h3, h4]
    exact ⟨h5, h6, h7, hv, h⟩
  · rintro ⟨_, _, _, hv, h⟩
    exact ⟨_, _, hv, h⟩
end Go.Proofs.YtpmbnfoilhfobaaDoor
