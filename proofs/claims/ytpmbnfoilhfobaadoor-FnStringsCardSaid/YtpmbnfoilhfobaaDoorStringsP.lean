/- A checksummed text with one byte changed is no checksummed text: the plain law. -/
import Derived.Test.YtpmbnfoilhfobaaDoorVerify
import Derived.Test.YtpmbnfoilhfobaaDoorDig
import Derived.Test.YtpmbnfoilhfobaaDoorFormat
import Derived.Laws.BitsAllLaws
namespace Go.Proofs.YtpmbnfoilhfobaaDoor
open Go.RowKit
set_option linter.unusedVariables false

theorem ck_step_inj {h h' : Int} {c : UInt8} (h0 : 0 ≤ h) (h1 : h < 999979) (h2 : 0 ≤ h') (h3 : h' < 999979) (he : ckStep h c = ckStep h' c) : h = h' := by
  unfold ckStep at he
  omega
theorem ck_fold_inj (q : List UInt8) : ∀ h h' : Int, 0 ≤ h → h < 999979 → 0 ≤ h' → h' < 999979 → h ≠ h' → q.foldl ckStep h ≠ q.foldl ckStep h' := by
  induction q with
  | nil => intro h h' _ _ _ _ hne; exact hne
  | cons c q ih =>
    intro h h' a b a' b' hne
    have h1 := ckStep_bd h c
    have h2 := ckStep_bd h' c
    exact ih _ _ h1.1 h1.2 h2.1 h2.2 (fun he => hne (ck_step_inj a b a' b' he))
theorem ck_one (p q : List UInt8) (a c : UInt8) (hac : a ≠ c) : ck (p ++ a :: q) ≠ ck (p ++ c :: q) := by
  unfold ck
  rw [List.foldl_append, List.foldl_append, List.foldl_cons, List.foldl_cons]
  have h1 := ckStep_bd (p.foldl ckStep 7) a
  have h2 := ckStep_bd (p.foldl ckStep 7) c
  refine ck_fold_inj q _ _ h1.1 h1.2 h2.1 h2.2 (fun he => hac ?_)
  unfold ckStep at he
  have ha := a.toNat_lt
  have hc := c.toNat_lt
  exact UInt8.toNat_inj.1 (by omega)
def sealL (x : List UInt8) : List UInt8 := x ++ 35 :: Lib.decDigits (ck x).toNat
theorem sealB_list (s : ByteArray) : (sealB s).data.toList = sealL s.data.toList := by
  unfold sealB sealL iB
  rw [itoa_pos (ck_bd s.data.toList).1]
  simp
theorem split_first {b : UInt8} : ∀ (a a' p p' : List UInt8), (∀ x ∈ a, x ≠ b) → (∀ x ∈ a', x ≠ b) → a ++ b :: p = a' ++ b :: p' → a = a' ∧ p = p' := by
  intro a
  induction a with
  | nil =>
    intro a' p p' _ h' he
    cases a' with
    | nil => injection he with _ he; exact ⟨rfl, he⟩
    | cons c a' => injection he with he _; exact absurd he.symm (h' c (List.mem_cons_self ..))
  | cons c a ih =>
    intro a' p p' h h' he
    cases a' with
    | nil => injection he with he _; exact absurd he (h c (List.mem_cons_self ..))
    | cons c' a' =>
      injection he with h1 h2
      obtain ⟨h3, h4⟩ := ih a' p p' (fun x hx => h x (List.mem_cons_of_mem _ hx)) (fun x hx => h' x (List.mem_cons_of_mem _ hx)) h2
      exact ⟨by rw [h1, h3], h4⟩
theorem first_at {b : UInt8} : ∀ (l : List UInt8), b ∈ l → ∃ p q, l = p ++ b :: q ∧ ∀ x ∈ p, x ≠ b := by
  intro l
  induction l with
  | nil => intro h; cases h
  | cons c l ih =>
    intro h
    by_cases hc : c = b
    · exact ⟨[], l, by rw [hc]; rfl, fun x hx => by cases hx⟩
    · rcases List.mem_cons.1 h with h | h
      · exact absurd h.symm hc
      · obtain ⟨p, q, h1, h2⟩ := ih h
        refine ⟨c :: p, q, by rw [h1]; rfl, fun x hx => ?_⟩
        rcases List.mem_cons.1 hx with hx | hx
        · rw [hx]; exact hc
        · exact h2 x hx
theorem dec35 (u : Nat) : ∀ c ∈ Lib.decDigits u, c ≠ 35 := fun c hc he => by
  have := dec_isD u c hc
  rw [he] at this
  exact absurd this.1 (by decide)
theorem dec_inj {u v : Nat} (h : Lib.decDigits u = Lib.decDigits v) : u = v := by
  have := congrArg dval h
  rw [dec_dval, dec_dval] at this
  omega
theorem ck_of_dec {x y : List UInt8} (h : Lib.decDigits (ck x).toNat = Lib.decDigits (ck y).toNat) : ck x = ck y := by
  have h1 := dec_inj h
  have := ck_bd x
  have := ck_bd y
  omega
/-- One byte changed: the parts p, q around it stay. -/
theorem spoilt_no {x t p q : List UInt8} {a c : UInt8} (hx : ∀ b ∈ x, b ≠ 35) (ht : ∀ b ∈ t, b ≠ 35) (hp : sealL x = p ++ a :: q) (hac : a ≠ c) : sealL t ≠ p ++ c :: q := by
  intro hs
  unfold sealL at hp hs
  rcases List.append_eq_append_iff.1 hp with ⟨r, h1, h2⟩ | ⟨r, h1, h2⟩
  · -- p = x ++ r, 35 :: D = r ++ a :: q
    cases r with
    | nil =>
      injection h2 with h2 h3
      rw [List.append_nil] at h1
      subst h1
      have hm : (35 : UInt8) ∈ p ++ c :: q := by rw [← hs]; simp
      rcases List.mem_append.1 hm with h | h
      · exact hx 35 h rfl
      · rcases List.mem_cons.1 h with h | h
        · exact hac (h2.symm.trans h)
        · exact dec35 _ 35 (by rw [h3]; exact h) rfl
    | cons e r =>
      injection h2 with h2 h3
      subst h2
      rw [h1, List.append_assoc, List.cons_append] at hs
      obtain ⟨h4, h5⟩ := split_first t x _ _ ht hx hs
      rw [h4, h3] at h5
      have h6 := List.append_cancel_left h5
      injection h6 with h6 _
      exact hac h6
  · -- x = p ++ r, r ++ 35 :: D = a :: q
    cases r with
    | nil =>
      rw [List.append_nil] at h1
      subst h1
      rw [List.nil_append] at h2
      injection h2 with h2 h3
      have hm : (35 : UInt8) ∈ x ++ c :: q := by rw [← hs]; simp
      rcases List.mem_append.1 hm with h | h
      · exact hx 35 h rfl
      · rcases List.mem_cons.1 h with h | h
        · exact hac (h2.trans h)
        · exact dec35 _ 35 (by rw [← h3]; exact h) rfl
    | cons e r =>
      rw [List.cons_append] at h2
      injection h2 with h2 h3
      subst h2
      rw [h3] at hs
      have he : p ++ c :: (r ++ 35 :: Lib.decDigits (ck x).toNat) = (p ++ c :: r) ++ 35 :: Lib.decDigits (ck x).toNat := by simp
      rw [he] at hs
      by_cases hm : (35 : UInt8) ∈ p ++ c :: r
      · obtain ⟨u, v, h4, h5⟩ := first_at _ hm
        rw [h4, List.append_assoc, List.cons_append] at hs
        obtain ⟨_, h7⟩ := split_first t u _ _ ht h5 hs
        exact dec35 _ 35 (by rw [h7]; simp) rfl
      · obtain ⟨h4, h5⟩ := split_first t (p ++ c :: r) _ _ ht (fun b hb he => hm (he ▸ hb)) hs
        have h6 := ck_of_dec h5
        rw [h4, h1] at h6
        exact ck_one p r a c hac h6.symm
theorem seal_mem {s : ByteArray} (h : hasB s 35 = false) : ∀ b ∈ s.data.toList, b ≠ 35 := fun b hb he => by
  unfold hasB at h
  rw [Bool.eq_false_iff] at h
  exact h (List.contains_iff_mem.2 (he ▸ hb))
/-- What VerifyChecksum says of a checksummed text with byte k changed. -/
theorem ver_spoilt {x s' : ByteArray} {k : Nat} {c : UInt8} (hx : hasB x 35 = false) (hk : k < (sealB x).data.toList.length) (hc : (sealB x).data.toList[k] ≠ c) (hs : s'.data.toList = (sealB x).data.toList.set k c) : verC s' = false := by
  refine (ver_no (s := s') (fun h => ?_)).1
  obtain ⟨_, h⟩ := h
  have h1 := congrArg (fun b : ByteArray => b.data.toList) h
  rw [sealB_list, hs, List.set_eq_take_append_cons_drop, if_pos hk] at h1
  have h2 : sealL x.data.toList = (sealB x).data.toList.take k ++ (sealB x).data.toList[k] :: (sealB x).data.toList.drop (k + 1) := by
    rw [← sealB_list, List.getElem_cons_drop, List.take_append_drop]
  exact spoilt_no (seal_mem hx) (seal_mem (headB_has s' 35)) h2 hc h1
theorem app_facts {x : ByteArray} (h : appC x = true) : hasB x 35 = false ∧ (sealB x).size ≤ 4000 ∧ appS x = sealB x := by
  have h0 := h
  unfold appC at h
  simp at h
  exact ⟨h.1.2, h.2, by unfold appS; rw [if_pos h0]⟩
theorem head_seal {x : ByteArray} (hx : hasB x 35 = false) : headB (sealB x) 35 = x := by
  apply ByteArray.ext
  apply Array.toList_inj.1
  rw [headB_list, sealB_list]
  unfold sealL
  rw [List.takeWhile_append_of_pos (fun b hb => by simpa using seal_mem hx b hb)]
  simp
theorem ver_seal {x : ByteArray} (h : appC x = true) : verC (sealB x) = true ∧ verS (sealB x) = x := by
  obtain ⟨h1, h2, _⟩ := app_facts h
  have h3 := head_seal h1
  have h4 := ver_yes (s := sealB x) h2 (by rw [h3])
  exact ⟨h4.1, h4.2.trans h3⟩
theorem fmt_back {n : Int} (h : inB n (-999999) 999999 = true) : rdC (fmtS n) = true ∧ rdV (fmtS n) = n := by
  have h2 := inB_iff.1 h
  have h3 : fmtS n = iB n := by unfold fmtS; rw [if_pos h]
  rw [h3]
  exact rd_yes ⟨h2, rfl⟩
theorem fmt_size (n : Int) : (fmtS n).size ≤ 21 := by
  unfold fmtS
  split
  · next h =>
    have := inB_iff.1 h
    exact iB_size (by omega) (by omega)
  · decide
theorem xor_ne {a v : Nat} (hv : v ≠ 0) : a ^^^ v ≠ a := fun h => hv (by
  have h1 : a ^^^ (a ^^^ v) = a ^^^ a := by rw [h]
  rw [← Nat.xor_assoc, Nat.xor_self, Nat.zero_xor] at h1
  exact h1)
end Go.Proofs.YtpmbnfoilhfobaaDoor
