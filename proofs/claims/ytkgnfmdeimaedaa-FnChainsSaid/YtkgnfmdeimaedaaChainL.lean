/- Ways from pond to pond: the plain law on graphs. -/
import Derived.Test.YtkgnfmdeimaedaaBankOf
namespace Go.Proofs.Ytkgnfmdeimaedaa
open Go.RowKit
set_option linter.unusedVariables false

theorem pig (n : Nat) : ∀ (f : Nat → Int) (t : Nat), (∀ d : Nat, d ≤ t → ∃ u, u < n ∧ f u = (d : Int)) → t < n := by
  induction n with
  | zero =>
    intro f t h
    obtain ⟨u, hu, _⟩ := h 0 (Nat.zero_le _)
    exact absurd hu (Nat.not_lt_zero u)
  | succ n ih =>
    intro f t h
    match t, h with
    | 0, _ => omega
    | t + 1, h =>
      refine Nat.succ_lt_succ (ih (fun u => if f n < f u then f u - 1 else f u) t fun d hd => ?_)
      by_cases hc : (d : Int) < f n
      · obtain ⟨u, hu, he⟩ := h d (by omega)
        have hne : u ≠ n := fun hh => by rw [hh] at he; omega
        exact ⟨u, by omega, by show (if f n < f u then f u - 1 else f u) = _; rw [if_neg (by omega)]; exact he⟩
      · obtain ⟨u, hu, he⟩ := h (d + 1) (by omega)
        have hne : u ≠ n := fun hh => by rw [hh] at he; omega
        exact ⟨u, by omega, by show (if f n < f u then f u - 1 else f u) = _; rw [if_pos (by omega)]; omega⟩

section
variable (n : Nat) (adj : Nat → Nat → Prop) (g : Nat)
/-- Each that is known, but g, has a neighbor one nearer. -/
def Near (f : Nat → Int) : Prop := ∀ k, k < n → 0 < f k → ∃ i, i < n ∧ adj i k ∧ f i = f k - 1
/-- f is how far each lies from g; -1 where no way leads. -/
structure Far (f : Nat → Int) : Prop where
  lo : ∀ i, i < n → -1 ≤ f i
  zero : ∀ i, i < n → (f i = 0 ↔ i = g)
  near : Near n adj f
  next : ∀ i k, i < n → k < n → 0 ≤ f i → adj i k → 0 ≤ f k ∧ f k ≤ f i + 1
end
section
variable {n : Nat} {adj : Nat → Nat → Prop} {g : Nat}
theorem Near.all {f : Nat → Int} (h : Near n adj f) (t : Nat) : ∀ i, i < n → f i = (t : Int) → ∀ d : Nat, d ≤ t → ∃ u, u < n ∧ f u = (d : Int) := by
  induction t with
  | zero => intro i hi he d hd; exact ⟨i, hi, by omega⟩
  | succ t ih =>
    intro i hi he d hd
    by_cases hc : d = t + 1
    · exact ⟨i, hi, by omega⟩
    · obtain ⟨u, hu, _, hf⟩ := h i hi (by omega)
      exact ih u hu (by omega) d (by omega)
theorem Near.lt {f : Nat → Int} (h : Near n adj f) {i : Nat} (hi : i < n) : f i < (n : Int) := by
  by_cases h0 : 0 ≤ f i
  · have := pig n f (f i).toNat (h.all _ i hi (by omega))
    omega
  · omega
theorem Far.le {f f' : Nat → Int} (h : Far n adj g f) (h' : Far n adj g f') (t : Nat) : ∀ i, i < n → f i = (t : Int) → 0 ≤ f' i ∧ f' i ≤ (t : Int) := by
  induction t with
  | zero => intro i hi he; have := (h'.zero i hi).2 ((h.zero i hi).1 he); omega
  | succ t ih =>
    intro i hi he
    obtain ⟨u, hu, ha, hf⟩ := h.near i hi (by omega)
    have h1 := ih u hu (by omega)
    have h2 := h'.next u i hu hi h1.1 ha
    omega
theorem Far.eq {f f' : Nat → Int} (h : Far n adj g f) (h' : Far n adj g f') : ∀ i, i < n → f i = f' i := by
  intro i hi
  have l1 := h.lo i hi
  have l2 := h'.lo i hi
  by_cases h0 : 0 ≤ f i
  · have h1 := h.le h' (f i).toNat i hi (by omega)
    have h2 := h'.le h (f' i).toNat i hi (by omega)
    omega
  · by_cases h1 : 0 ≤ f' i
    · have h2 := h'.le h (f' i).toNat i hi (by omega)
      omega
    · omega
/-- From either end it is as far. -/
theorem Far.back {s : Nat} {f f' : Nat → Int} (h : Far n adj g f) (h' : Far n adj s f') (hs : ∀ i k, adj i k → adj k i) (t : Nat) : ∀ i, i < n → f i = (t : Int) → 0 ≤ f' i → 0 ≤ f' g ∧ f' g ≤ f' i + t := by
  induction t with
  | zero => intro i hi he h0; rw [← (h.zero i hi).1 he]; omega
  | succ t ih =>
    intro i hi he h0
    obtain ⟨u, hu, ha, hf⟩ := h.near i hi (by omega)
    have h1 := h'.next i u hi hu h0 (hs _ _ ha)
    have h2 := ih u hu (by omega) h1.1
    omega
theorem Far.both {s : Nat} {f f' : Nat → Int} (h : Far n adj g f) (h' : Far n adj s f') (hs : ∀ i k, adj i k → adj k i) (hg : g < n) (hsn : s < n) (h0 : 0 ≤ f s) : f' g = f s := by
  have z1 := (h'.zero s hsn).2 rfl
  have z2 := (h.zero g hg).2 rfl
  have h1 := h.back h' hs (f s).toNat s hsn (by omega) (by omega)
  have h2 := h'.back h hs (f' g).toNat g hg (by omega) (by omega)
  omega
end
open Classical in
/-- How far each lies from g. -/
noncomputable def farV (n : Nat) (adj : Nat → Nat → Prop) (g : Nat) : Nat → Int := if h : ∃ f, Far n adj g f then h.choose else fun _ => 0
theorem Far.is {n : Nat} {adj : Nat → Nat → Prop} {g : Nat} {f : Nat → Int} (h : Far n adj g f) : Far n adj g (farV n adj g) := by
  have he : ∃ f, Far n adj g f := ⟨f, h⟩
  unfold farV
  rw [dif_pos he]
  exact he.choose_spec

/-! ### The reference's way: level by level -/
section
variable (n : Nat) (adj : Nat → Nat → Prop) (g : Nat)
/-- Nothing is farther than b; all of level below r is done; of level r those below i, and of i those below k. -/
structure Lev (b r i k : Nat) (f : Nat → Int) : Prop where
  lo : ∀ i, i < n → -1 ≤ f i
  zero : ∀ i, i < n → (f i = 0 ↔ i = g)
  near : Near n adj f
  hi : ∀ i, i < n → f i ≤ (b : Int)
  below : ∀ u v, u < n → v < n → 0 ≤ f u → f u < (r : Int) → adj u v → 0 ≤ f v ∧ f v ≤ f u + 1
  here : ∀ u v, u < n → v < n → f u = (r : Int) → adj u v → u < i ∨ u = i ∧ v < k → 0 ≤ f v
end
section
variable {n : Nat} {adj : Nat → Nat → Prop} {g : Nat} {b r i k : Nat} {f : Nat → Int}
theorem Lev.start (hg : g < n) (h1 : f g = 0) (h2 : ∀ i, i < n → i ≠ g → f i = -1) : Lev n adj g 0 0 0 0 f where
  lo := fun i hi => by by_cases h : i = g; (· rw [h]; omega); (· have := h2 i hi h; omega)
  zero := fun i hi => by
    by_cases h : i = g
    · rw [h]; simp [h1]
    · have := h2 i hi h
      constructor
      · intro hh; omega
      · intro hh; exact absurd hh h
  near := fun k hk h0 => by
    by_cases h : k = g
    · rw [h] at h0; omega
    · have := h2 k hk h; omega
  hi := fun i hi => by by_cases h : i = g; (· rw [h]; omega); (· have := h2 i hi h; omega)
  below := fun u v _ _ h0 hl => by omega
  here := fun u v _ _ _ _ hc => by omega
theorem Lev.open (h : Lev n adj g r r 0 0 f) : Lev n adj g (r + 1) r 0 0 f :=
  ⟨h.lo, h.zero, h.near, fun i hi => by have := h.hi i hi; omega, h.below, h.here⟩
theorem Lev.skip (h : Lev n adj g (r + 1) r i k f) (hin : i < n) (hk : f i = (r : Int) → n ≤ k) : Lev n adj g (r + 1) r (i + 1) 0 f :=
  ⟨h.lo, h.zero, h.near, h.hi, h.below, fun u v hu hv hf ha hc => h.here u v hu hv hf ha (by
    by_cases he : u = i
    · subst he
      have := hk hf
      omega
    · omega)⟩
theorem Lev.shut (h : Lev n adj g (r + 1) r n 0 f) : Lev n adj g (r + 1) (r + 1) 0 0 f :=
  ⟨h.lo, h.zero, h.near, h.hi, fun u v hu hv h0 hl ha => by
    by_cases hc : f u < (r : Int)
    · exact h.below u v hu hv h0 hc ha
    · have h1 := h.here u v hu hv (by omega) ha (by omega)
      have h2 := h.hi v hv
      omega, fun u v _ _ _ _ hc => by omega⟩
theorem Lev.keep (h : Lev n adj g (r + 1) r i k f) (hk : 0 ≤ f k ∨ ¬ adj i k) : Lev n adj g (r + 1) r i (k + 1) f :=
  ⟨h.lo, h.zero, h.near, h.hi, h.below, fun u v hu hv hf ha hc => by
    by_cases he : u = i ∧ v = k
    · obtain ⟨rfl, rfl⟩ := he
      exact hk.resolve_right (fun hn => hn ha)
    · exact h.here u v hu hv hf ha (by omega)⟩
theorem Lev.mark (h : Lev n adj g (r + 1) r i k f) (hin : i < n) (hkn : k < n) (hi : f i = (r : Int)) (hk : f k < 0) (ha : adj i k) : Lev n adj g (r + 1) r i (k + 1) (fun t => if t = k then (r : Int) + 1 else f t) := by
  have hik : i ≠ k := fun hh => by rw [hh] at hi; omega
  have hgk : g ≠ k := fun hh => by have := (h.zero k hkn).2 hh.symm; omega
  refine ⟨fun t ht => ?_, fun t ht => ?_, fun t ht h0 => ?_, fun t ht => ?_, fun u v hu hv h0 hl hA => ?_, fun u v hu hv hf hA hc => ?_⟩
  · show _ ≤ (if t = k then _ else _)
    split
    · omega
    · exact h.lo t ht
  · show (if t = k then _ else _) = (0 : Int) ↔ _
    split
    · next he =>
      constructor
      · intro hh; omega
      · intro hh; exact absurd (hh ▸ he) hgk
    · exact h.zero t ht
  · by_cases he : t = k
    · subst he
      exact ⟨i, hin, ha, by rw [if_neg hik, if_pos rfl]; omega⟩
    · rw [if_neg he] at h0
      obtain ⟨u, hu, h1, h2⟩ := h.near t ht h0
      have huk : u ≠ k := fun hh => by rw [hh] at h2; omega
      exact ⟨u, hu, h1, by rw [if_neg he, if_neg huk]; exact h2⟩
  · show (if t = k then _ else _) ≤ _
    split
    · omega
    · exact h.hi t ht
  · have huk : u ≠ k := fun hh => by rw [if_pos hh] at hl; omega
    rw [if_neg huk] at h0 hl
    rw [if_neg huk]
    have h1 := h.below u v hu hv h0 hl hA
    by_cases hvk : v = k
    · rw [hvk] at h1; omega
    · rw [if_neg hvk]; exact h1
  · have huk : u ≠ k := fun hh => by rw [if_pos hh] at hf; omega
    rw [if_neg huk] at hf
    show 0 ≤ (if v = k then _ else _)
    split
    · omega
    · next hvk => exact h.here u v hu hv hf hA (by omega)
theorem Lev.far (h : Lev n adj g n n 0 0 f) : Far n adj g f :=
  ⟨h.lo, h.zero, h.near, fun i k hi hk h0 ha => h.below i k hi hk h0 (h.near.lt hi) ha⟩
end

/-! ### The program's way: one after another -/
section
variable (n : Nat) (adj : Nat → Nat → Prop) (g : Nat)
/-- What waits in q is known and rises; nothing is farther than the first of q and one; all known that do not wait are done. -/
structure Que (f : Nat → Int) (q : List Nat) : Prop where
  lo : ∀ i, i < n → -1 ≤ f i
  zero : ∀ i, i < n → (f i = 0 ↔ i = g)
  near : Near n adj f
  inq : ∀ x ∈ q, x < n ∧ 0 ≤ f x
  rise : q.Pairwise fun x y => f x ≤ f y
  top : ∀ x r, q = x :: r → ∀ v, v < n → f v ≤ f x + 1
  done : ∀ u v, u < n → v < n → 0 ≤ f u → u ∉ q → adj u v → 0 ≤ f v ∧ f v ≤ f u + 1
/-- at is taken from q; its neighbors below i are known. -/
structure Qin (a i : Nat) (f : Nat → Int) (q : List Nat) : Prop where
  lo : ∀ i, i < n → -1 ≤ f i
  zero : ∀ i, i < n → (f i = 0 ↔ i = g)
  near : Near n adj f
  inq : ∀ x ∈ q, x < n ∧ f a ≤ f x
  rise : q.Pairwise fun x y => f x ≤ f y
  top : ∀ v, v < n → f v ≤ f a + 1
  an : a < n
  a0 : 0 ≤ f a
  done : ∀ u v, u < n → v < n → 0 ≤ f u → u ∉ q → u ≠ a → adj u v → 0 ≤ f v ∧ f v ≤ f u + 1
  mine : ∀ v, v < i → v < n → adj a v → 0 ≤ f v
end
section
variable {n : Nat} {adj : Nat → Nat → Prop} {g a i : Nat} {f : Nat → Int} {q : List Nat}
theorem Que.start (hg : g < n) (h1 : f g = 0) (h2 : ∀ i, i < n → i ≠ g → f i = -1) : Que n adj g f [g] := by
  have h := Lev.start (adj := adj) hg h1 h2
  refine ⟨h.lo, h.zero, h.near, fun x hx => ?_, List.pairwise_singleton _ _, fun x r he v hv => ?_, fun u v hu _ h0 hn _ => ?_⟩
  · obtain rfl := List.mem_singleton.1 hx
    exact ⟨hg, by omega⟩
  · injection he with he _
    have := h.hi v hv
    rw [← he]
    omega
  · by_cases hc : u = g
    · exact absurd (List.mem_singleton.2 hc) hn
    · have := h2 u hu hc; omega
theorem Que.take (h : Que n adj g f (a :: q)) : Qin n adj g a 0 f q := by
  have h0 := h.inq a (List.mem_cons_self)
  have hr := List.pairwise_cons.1 h.rise
  refine ⟨h.lo, h.zero, h.near, fun x hx => ⟨(h.inq x (List.mem_cons_of_mem _ hx)).1, hr.1 x hx⟩, hr.2, h.top a q rfl, h0.1, h0.2, fun u v hu hv hu0 hn hne ha => h.done u v hu hv hu0 (fun hm => ?_) ha, fun v hv => absurd hv (Nat.not_lt_zero v)⟩
  rcases List.mem_cons.1 hm with hm | hm
  · exact hne hm
  · exact hn hm
theorem Qin.keep (h : Qin n adj g a i f q) (hk : 0 ≤ f i ∨ ¬ adj a i) : Qin n adj g a (i + 1) f q :=
  ⟨h.lo, h.zero, h.near, h.inq, h.rise, h.top, h.an, h.a0, h.done, fun v hv hvn ha => by
    by_cases he : v = i
    · subst he; exact hk.resolve_right (fun hn => hn ha)
    · exact h.mine v (by omega) hvn ha⟩
theorem Qin.mark (h : Qin n adj g a i f q) (hin : i < n) (hk : f i < 0) (ha : adj a i) : Qin n adj g a (i + 1) (fun t => if t = i then f a + 1 else f t) (q ++ [i]) := by
  have hai : a ≠ i := fun hh => by have := h.a0; rw [hh] at this; omega
  have hgi : g ≠ i := fun hh => by have := (h.zero i hin).2 hh.symm; omega
  have a0 := h.a0
  have hq : ∀ x ∈ q, x ≠ i := fun x hx hh => by have := (h.inq x hx).2; rw [hh] at this; omega
  refine ⟨fun t ht => ?_, fun t ht => ?_, fun t ht h0 => ?_, fun x hx => ?_, ?_, fun v hv => ?_, h.an, ?_, fun u v hu hv h0 hnq hne hA => ?_, fun v hv hvn hA => ?_⟩
  · show _ ≤ (if t = i then _ else _)
    split
    · omega
    · exact h.lo t ht
  · show (if t = i then _ else _) = (0 : Int) ↔ _
    split
    · next he =>
      constructor
      · intro hh; omega
      · intro hh; exact absurd (hh ▸ he) hgi
    · exact h.zero t ht
  · by_cases he : t = i
    · subst he
      exact ⟨a, h.an, ha, by rw [if_neg hai, if_pos rfl]; omega⟩
    · rw [if_neg he] at h0
      obtain ⟨u, hu, h1, h2⟩ := h.near t ht h0
      have hui : u ≠ i := fun hh => by rw [hh] at h2; omega
      exact ⟨u, hu, h1, by rw [if_neg he, if_neg hui]; exact h2⟩
  · rw [if_neg hai]
    rcases List.mem_append.1 hx with hx | hx
    · rw [if_neg (hq x hx)]; exact h.inq x hx
    · obtain rfl := List.mem_singleton.1 hx
      rw [if_pos rfl]
      exact ⟨hin, by omega⟩
  · refine List.pairwise_append.2 ⟨?_, List.pairwise_singleton _ _, fun x hx y hy => ?_⟩
    · refine List.Pairwise.imp_of_mem (fun {x y} hx hy hxy => ?_) h.rise
      rw [if_neg (hq x hx), if_neg (hq y hy)]
      exact hxy
    · obtain rfl := List.mem_singleton.1 hy
      rw [if_neg (hq x hx), if_pos rfl]
      exact h.top x (h.inq x hx).1
  · rw [if_neg hai]
    show (if v = i then _ else _) ≤ _
    split
    · omega
    · exact h.top v hv
  · rw [if_neg hai]; exact a0
  · have hui : u ≠ i := fun hh => hnq (List.mem_append.2 (.inr (List.mem_singleton.2 hh)))
    rw [if_neg hui] at h0 ⊢
    have h1 := h.done u v hu hv h0 (fun hm => hnq (List.mem_append.2 (.inl hm))) hne hA
    by_cases hvi : v = i
    · rw [hvi] at h1; omega
    · rw [if_neg hvi]; exact h1
  · show 0 ≤ (if v = i then _ else _)
    split
    · omega
    · next hvi => exact h.mine v (by omega) hvn hA
theorem Qin.shut (h : Qin n adj g a n f q) : Que n adj g f q := by
  refine ⟨h.lo, h.zero, h.near, fun x hx => ⟨(h.inq x hx).1, by have := (h.inq x hx).2; have := h.a0; omega⟩, h.rise, fun x r he v hv => ?_, fun u v hu hv h0 hn ha => ?_⟩
  · have h1 := h.top v hv
    have h2 := (h.inq x (by rw [he]; exact List.mem_cons_self)).2
    omega
  · by_cases hc : u = a
    · subst hc
      exact ⟨h.mine v hv hv ha, h.top v hv⟩
    · exact h.done u v hu hv h0 hn hc ha
theorem Que.far (h : Que n adj g f []) : Far n adj g f :=
  ⟨h.lo, h.zero, h.near, fun i k hi hk h0 ha => h.done i k hi hk h0 (by simp) ha⟩
/-- How many are not yet known, and how many wait: each round takes one away. -/
def unk (f : Nat → Int) : Nat → Nat
  | 0 => 0
  | n + 1 => unk f n + if f n < 0 then 1 else 0
theorem unk_congr {f f' : Nat → Int} (n : Nat) (h : ∀ t, t < n → f t = f' t) : unk f n = unk f' n := by
  induction n with
  | zero => rfl
  | succ n ih =>
    show unk f n + (if f n < 0 then 1 else 0) = unk f' n + (if f' n < 0 then 1 else 0)
    rw [ih (fun t ht => h t (by omega)), h n (by omega)]
theorem unk_mark (f : Nat → Int) (n i : Nat) (c : Int) (hi : i < n) (hf : f i < 0) (hc : 0 ≤ c) : unk (fun t => if t = i then c else f t) n + 1 = unk f n := by
  induction n with
  | zero => omega
  | succ n ih =>
    show unk _ n + (if (if n = i then c else f n) < 0 then 1 else 0) + 1 = unk f n + (if f n < 0 then 1 else 0)
    by_cases he : n = i
    · subst he
      rw [if_pos rfl, if_neg (by omega), if_pos hf, unk_congr (f' := f) n (fun t ht => if_neg (by omega))]
    · rw [if_neg he]
      have := ih (by omega)
      omega
end

/-! ### The way -/
/-- The least j below n that p says yes to; n if there is none. -/
def firstP (p : Nat → Bool) : Nat → Nat
  | 0 => 0
  | n + 1 => if firstP p n < n then firstP p n else if p n then n else n + 1
theorem firstP_le (p : Nat → Bool) (n : Nat) : firstP p n ≤ n := by
  induction n with
  | zero => exact Nat.le_refl _
  | succ n ih =>
    unfold firstP
    split
    · omega
    · split <;> omega
theorem firstP_no (p : Nat → Bool) (n : Nat) : ∀ t, t < firstP p n → p t = false := by
  induction n with
  | zero => intro t ht; exact absurd ht (Nat.not_lt_zero t)
  | succ n ih =>
    intro t ht
    have hle := firstP_le p n
    unfold firstP at ht
    split at ht
    · exact ih t ht
    · next hn =>
      have he : firstP p n = n := by omega
      split at ht
      · exact ih t (by omega)
      · next hp =>
        by_cases hc : t = n
        · rw [hc]; simpa using hp
        · exact ih t (by omega)
theorem firstP_yes (p : Nat → Bool) (n : Nat) (h : firstP p n < n) : p (firstP p n) = true := by
  induction n with
  | zero => exact absurd h (Nat.not_lt_zero _)
  | succ n ih =>
    have hle := firstP_le p n
    unfold firstP at h ⊢
    by_cases hc : firstP p n < n
    · rw [if_pos hc]; exact ih hc
    · rw [if_neg hc] at h ⊢
      by_cases hp : p n = true
      · rw [if_pos hp]; exact hp
      · rw [if_neg hp] at h; omega
theorem firstP_is {p : Nat → Bool} {n j : Nat} (hj : j < n) (hp : p j = true) (hno : ∀ t, t < j → p t = false) : firstP p n = j := by
  have h1 := firstP_le p n
  rcases Nat.lt_trichotomy (firstP p n) j with h | h | h
  · have := firstP_yes p n (by omega)
    rw [hno _ h] at this
    cases this
  · exact h
  · have := firstP_no p n j h
    rw [hp] at this
    cases this
section
variable (n : Nat) (adj : Nat → Nat → Prop) (f : Nat → Int)
open Classical in
/-- May the way go from x to j? -/
noncomputable def goB (x j : Nat) : Bool := decide (f j = f x - 1 ∧ adj x j)
open Classical in
theorem goB_iff {x j : Nat} : goB adj f x j = true ↔ f j = f x - 1 ∧ adj x j := by unfold goB; exact decide_eq_true_iff
/-- The way from s: its t-th. -/
noncomputable def wayN (s : Nat) : Nat → Nat
  | 0 => s
  | t + 1 => firstP (goB adj f (wayN s t)) n
end
section
variable {n : Nat} {adj : Nat → Nat → Prop} {g : Nat} {f : Nat → Int}
theorem Far.step (h : Far n adj g f) (hs : ∀ i k, adj i k → adj k i) {x : Nat} (hx : x < n) (h0 : 0 < f x) : firstP (goB adj f x) n < n ∧ f (firstP (goB adj f x) n) = f x - 1 ∧ adj x (firstP (goB adj f x) n) := by
  obtain ⟨u, hu, ha, he⟩ := h.near x hx h0
  have hlt : firstP (goB adj f x) n < n := by
    rcases Nat.lt_or_ge u (firstP (goB adj f x) n) with hc | hc
    · have h1 := firstP_no (goB adj f x) n u hc
      have h2 : goB adj f x u = true := (goB_iff adj f).2 ⟨he, hs _ _ ha⟩
      rw [h2] at h1
      cases h1
    · omega
  have h1 := (goB_iff adj f).1 (firstP_yes (goB adj f x) n hlt)
  exact ⟨hlt, h1⟩
theorem Far.way (h : Far n adj g f) (hs : ∀ i k, adj i k → adj k i) {s : Nat} (hsn : s < n) (t : Nat) : (t : Int) ≤ f s → wayN n adj f s t < n ∧ f (wayN n adj f s t) = f s - t := by
  induction t with
  | zero => intro _; exact ⟨hsn, by show f s = f s - ((0 : Nat) : Int); omega⟩
  | succ t ih =>
    intro ht
    obtain ⟨h1, h2⟩ := ih (by omega)
    obtain ⟨h3, h4, _⟩ := h.step hs h1 (by omega)
    exact ⟨h3, by show f (firstP _ n) = _; omega⟩
theorem Far.bank (h : Far n adj g f) (hs : ∀ i k, adj i k → adj k i) {s : Nat} (hsn : s < n) {t : Nat} (ht : ((t + 1 : Nat) : Int) ≤ f s) : adj (wayN n adj f s t) (wayN n adj f s (t + 1)) := by
  obtain ⟨h1, h2⟩ := h.way hs hsn t (by omega)
  exact (h.step hs h1 (by omega)).2.2
theorem firstP_congr {p q : Nat → Bool} (n : Nat) (h : ∀ t, t < n → p t = q t) : firstP p n = firstP q n := by
  induction n with
  | zero => rfl
  | succ n ih =>
    show (if firstP p n < n then firstP p n else if p n then n else n + 1) = (if firstP q n < n then firstP q n else if q n then n else n + 1)
    rw [ih (fun t ht => h t (by omega)), h n (by omega)]
end
/-! ### Ponds -/
def adjM (m : Nat → Pd) (i k : Nat) : Prop := 0 < bankV (m i) (m k)
theorem adjM_comm (m : Nat → Pd) (i k : Nat) (h : adjM m i k) : adjM m k i := by
  unfold adjM at *
  rw [bankV_comm]
  exact h
end Go.Proofs.Ytkgnfmdeimaedaa
