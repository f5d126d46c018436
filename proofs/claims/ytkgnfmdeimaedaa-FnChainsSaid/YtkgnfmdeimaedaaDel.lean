/- slices.Delete of one element of a list of the call's own. -/
import Derived.Test.YtkgnfmdeimaedaaPondS
import Derived.Test.YtkgnfmdeimaedaaStepApp
import Derived.Deep.RegionLaw
import Derived.Shelf.RegionOpenPlain
import Derived.Lib.SliceRun
import Derived.Deep.Cut
namespace Go.Proofs.Ytkgnfmdeimaedaa
open Go.RowKit
set_option linter.unusedVariables false

def layL : List Value → Nat → List Value → List Value
  | xs, _, [] => xs
  | xs, o, v :: r => layL (xs.set o v) (o + 1) r
theorem layL_get (vs : List Value) (xs : List Value) (o t : Nat) (ht : t < xs.length) : (layL xs o vs)[t]? = if o ≤ t ∧ t < o + vs.length then vs[t - o]? else xs[t]? := by
  induction vs generalizing xs o with
  | nil =>
    rw [if_neg (by rw [List.length_nil]; omega)]
    rfl
  | cons v r ih =>
    show (layL (xs.set o v) (o + 1) r)[t]? = _
    rw [ih (xs.set o v) (o + 1) (by rw [List.length_set]; exact ht), List.length_cons]
    by_cases h1 : o + 1 ≤ t ∧ t < o + 1 + r.length
    · rw [if_pos h1, if_pos (by omega), show t - o = (t - (o + 1)) + 1 by omega, List.getElem?_cons_succ]
    · rw [if_neg h1]
      by_cases h2 : t = o
      · rw [if_pos (by omega), h2, Nat.sub_self, List.getElem?_set_self (by omega)]
        rfl
      · rw [if_neg (by omega), List.getElem?_set_ne (fun h => h2 h.symm)]
theorem rowL {base e size n g cap : Nat} (vs : List Value) (xs : List Value) (o : Nat) (w : World) (h : w.ownsRow base e size (.slice (some ⟨g, 0, none⟩) n cap) n xs) :
    (w.setCells g o vs).ownsRow base e size (.slice (some ⟨g, 0, none⟩) n cap) n (layL xs o vs) ∧ w.grownBy (w.setCells g o vs) (some g) := by
  induction vs generalizing xs o w with
  | nil => exact ⟨h, World.grownBy.refl _ _⟩
  | cons v r ih =>
    obtain ⟨h1, h2⟩ := h.stored o v
    obtain ⟨h3, h4⟩ := ih (xs.set o v) (o + 1) (w.setCell ⟨g, o, none⟩ v) h1
    exact ⟨h3, grownBy_trans h2 h4⟩
theorem OwnS.storedL {w : World} {base e size n g cap : Nat} {f : Nat → Nat → Value} (h : OwnS w base e size (.slice (some ⟨g, 0, none⟩) n cap) n f) (o m : Nat) (F : Nat → Nat → Value) :
    OwnS (w.setCells g (o * size) (newsOf F m size)) base e size (.slice (some ⟨g, 0, none⟩) n cap) n (fun i j => if o ≤ i ∧ i < o + m then F (i - o) j else f i j) ∧ w.grownBy (w.setCells g (o * size) (newsOf F m size)) (some g) := by
  obtain ⟨xs, h1, h2⟩ := h
  obtain ⟨h3, h4⟩ := rowL (newsOf F m size) xs (o * size) w h1
  refine ⟨⟨_, h3, fun i j hi hj => ?_⟩, h4⟩
  have hlt : i * size + j < xs.length := (List.getElem?_eq_some_iff.1 (h2 i j hi hj)).1
  show _ = some (if o ≤ i ∧ i < o + m then F (i - o) j else f i j)
  rw [layL_get _ _ _ _ hlt, newsOf_length]
  by_cases hc : o ≤ i ∧ i < o + m
  · have e1 : o * size ≤ i * size := Nat.mul_le_mul_right _ hc.1
    have e2 : i * size + j < o * size + m * size := by
      calc i * size + j < i * size + size := by omega
        _ = (i + 1) * size := by rw [Nat.add_mul, Nat.one_mul]
        _ ≤ (o + m) * size := Nat.mul_le_mul_right _ (by omega)
        _ = o * size + m * size := Nat.add_mul _ _ _
    rw [if_pos ⟨by omega, e2⟩, if_pos hc, show i * size + j - o * size = (i - o) * size + j by rw [Nat.sub_mul]; omega, newsOf_at F (by omega) hj]
  · rw [if_neg hc, if_neg, h2 i j hi hj]
    intro h5
    refine hc ⟨?_, ?_⟩
    · rcases Nat.lt_or_ge i o with h6 | h6
      · have : (i + 1) * size ≤ o * size := Nat.mul_le_mul_right _ h6
        rw [Nat.add_mul, Nat.one_mul] at this
        omega
      · exact h6
    · rcases Nat.lt_or_ge i (o + m) with h6 | h6
      · exact h6
      · have : (o + m) * size ≤ i * size := Nat.mul_le_mul_right _ h6
        rw [Nat.add_mul] at this
        omega
theorem OwnS.cut {w : World} {base e size n g cap : Nat} {f : Nat → Nat → Value} (h : OwnS w base e size (.slice (some ⟨g, 0, none⟩) (n + 1) cap) (n + 1) f) : OwnS w base e size (.slice (some ⟨g, 0, none⟩) n cap) n f := by
  obtain ⟨xs, ⟨h1, h2⟩, h3⟩ := h
  rcases h2 with ⟨h4, _⟩ | ⟨g', cap', cur, hv, hb, hg, hnc, hcm, hcs, ht⟩
  · cases h4
  · injection hv with e1 e2 e3
    injection e1 with e1
    injection e1 with e1 _ _
    subst e1 e3
    have hle : n * size ≤ (n + 1) * size := Nat.mul_le_mul_right _ (by omega)
    refine ⟨xs.take (n * size), ⟨?_, .inr ⟨g, cap, cur, rfl, hb, hg, by omega, hcm, hcs, ?_⟩⟩, fun i j hi hj => ?_⟩
    · rw [List.length_take, h1]; omega
    · rw [← ht, List.take_take, Nat.min_eq_left hle]
    · rw [List.getElem?_take, if_pos, h3 i j (by omega) hj]
      calc i * size + j < i * size + size := by omega
        _ = (i + 1) * size := by rw [Nat.add_mul, Nat.one_mul]
        _ ≤ n * size := Nat.mul_le_mul_right _ hi
theorem run_clear_one {P : Program} (w : World) (t e ty : TypeId) (z : Value) (zs : List Value) (ht : P.underlying t = some (.slice e)) (hv : ∀ w, (zeroValue e).run P w = .ok z w) (hz : (Builtin.zeroCells z.cells 1).toList = zs) (h1 : ∀ v ∈ zs, v.oneCell' = true) (b o c : Nat)
    (hc : ∀ j, j < zs.length → (w.cell? ⟨b, o + j, none⟩).isSome = true) (hf : ∀ j, j < zs.length → w.frozen? ⟨b, o + j, none⟩ = false) :
    (Builtin.clear_ #[t] ty #[.slice (some ⟨b, o, none⟩) 1 c]).run P w = .ok (.tuple #[]) (w.setCells b o zs) := by
  have hst := run_storeCells_cells (P := P) b o zs 0 w (by simpa using hc) (by simpa using hf) h1
  simp only [Nat.add_zero] at hst
  simp [Builtin.clear_, run_underlying ht, hv, hz, hst]
theorem pdF_at2 {m m' : Nat → Pd} {i i' : Nat} (h : m i = m' i') (l : Nat) : pdF m i l = pdF m' i' l := by
  match l with
  | 0 => simp [pdF, h]
  | 1 => simp [pdF, h]
  | 2 => simp [pdF, h]
  | 3 => simp [pdF, h]
  | 4 => simp [pdF, h]
  | _ + 5 => simp [pdF, h]
def delM (m : Nat → Pd) (k : Nat) : Nat → Pd := fun t => if t < k then m t else m (t + 1)
theorem clear_pond (W : World) (ty : TypeId) (g o c : Nat) (h : ∀ j, j < 6 → (W.cell? ⟨g, o + j, none⟩).isSome = true ∧ W.frozen? ⟨g, o + j, none⟩ = false) :
    (Builtin.clear_ #[25] ty #[.slice (some ⟨g, o, none⟩) 1 c]).run Try.prog W = .ok (.tuple #[]) (W.setCells g o (newsOf (fun _ _ => .int .i64 0) 1 6)) :=
  run_clear_one W _ _ ty (.agg #[.int .i64 0, .int .i64 0, .int .i64 0, .int .i64 0, .int .i64 0, .int .i64 0]) (newsOf (fun _ _ => .int .i64 0) 1 6) Try.underlying25 (fun w => Try.zeroValue51 w) (by kernel_rfl) (fun u hu => by
    obtain ⟨q, hq⟩ := List.getElem?_of_mem hu
    obtain ⟨_, _, g3, _⟩ := newsOf_get (by omega) hq
    rw [← g3]
    rfl) g o c (fun j hj => (h j (by rw [newsOf_length] at hj; exact hj)).1) (fun j hj => (h j (by rw [newsOf_length] at hj; exact hj)).2)
set_option maxRecDepth 100000 in
set_option maxHeartbeats 4000000 in
theorem deletePond_any (g n cap k base : Nat) (m : Nat → Pd) (w : World) (hown : OwnS w base 51 6 (.slice (some ⟨g, 0, none⟩) n cap) n (pdF m)) (hk : k < n) (hn : n ≤ 1000) :
    Calls Try.prog 70 #[.slice (some ⟨g, 0, none⟩) n cap, .int .i64 k, .int .i64 ((k : Int) + 1)] w fun e w' =>
      e = .returned (.slice (some ⟨g, 0, none⟩) (n - 1) cap) ∧ OwnS w' base 51 6 (.slice (some ⟨g, 0, none⟩) (n - 1) cap) (n - 1) (pdF (delM m k)) ∧ w.grownBy w' (some g) := by
  obtain ⟨A1, cap1, hv, hncap, hcm, hform⟩ := hown.form
  injection hv with e1 _ e3
  subst e1 e3
  have hcell : Hid (∀ i j, i < n → j < 6 → w.cell? ⟨g, i * 6 + j, none⟩ = some (pdF m i j) ∧ w.frozen? ⟨g, i * 6 + j, none⟩ = false) := by
    obtain ⟨g1, hA, _, _, _, hc⟩ := hform (by omega)
    injection hA with hA
    injection hA with e1 _ _
    subst e1
    exact Lib.hid hc
  clear hform
  obtain ⟨news, hnews⟩ : ∃ news, news = newsOf (fun i j => pdF m (k + 1 + i) j) (n - (k + 1)) 6 := ⟨_, rfl⟩
  have hlen : Hid (news.length = (n - (k + 1)) * 6) := Lib.hid (by rw [hnews, newsOf_length])
  have hone : Hid (∀ u ∈ news, u.oneCell' = true) := Lib.hid (fun u hu => by
    rw [hnews] at hu
    obtain ⟨q, hq⟩ := List.getElem?_of_mem hu
    obtain ⟨_, g2, g3, _⟩ := newsOf_get (by omega) hq
    rw [← g3]
    exact pdF_one m _ _ g2)
  have hsp : Hid (∀ t, t < news.length → (w.drew.cell? ⟨g, 0 + k * 6 + t, none⟩).isSome = true ∧ w.drew.frozen? ⟨g, 0 + k * 6 + t, none⟩ = false) := Lib.hid (fun t ht => by
    rw [hlen.out] at ht
    have h1 := hcell.out (k + t / 6) (t % 6) (by omega) (by omega)
    rw [show (k + t / 6) * 6 + t % 6 = 0 + k * 6 + t by omega] at h1
    exact ⟨by show (w.cell? _).isSome = true; rw [h1.1]; rfl, h1.2⟩)
  have hD := OwnS.ext hown (Ext.drew (Ext.refl w))
  obtain ⟨W1, hW1⟩ : ∃ W1, W1 = w.drew.setCells g (0 + k * 6) news := ⟨_, rfl⟩
  obtain ⟨hO1, hG1⟩ := hD.storedL k (n - (k + 1)) (fun i j => pdF m (k + 1 + i) j)
  rw [← hnews, show k * 6 = 0 + k * 6 by omega, ← hW1] at hO1 hG1
  obtain ⟨hO2, hG2⟩ := hO1.storedL (n - 1) 1 (fun _ _ => .int .i64 0)
  obtain ⟨A1, cap1, hv, _, _, hform⟩ := hO1.form
  injection hv with e1 _ e3
  subst e1 e3
  have hcl : ∀ ty, (Builtin.clear_ #[25] ty #[.slice (some ⟨g, (n - 1) * 6, none⟩) 1 (cap - (n - 1))]).run Try.prog W1 = .ok (.tuple #[]) (W1.setCells g ((n - 1) * 6) (newsOf (fun _ _ => .int .i64 0) 1 6)) := fun ty => clear_pond W1 ty g ((n - 1) * 6) (cap - (n - 1)) (by
    obtain ⟨g1, hA, _, _, _, hc⟩ := hform (by omega)
    injection hA with hA
    injection hA with e1 _ _
    subst e1
    exact fun j hj => ⟨by rw [(hc (n - 1) j (by omega) hj).1]; rfl, (hc (n - 1) j (by omega) hj).2⟩)
  clear hform
  have HR := Lib.hid (show OwnS (W1.setCells g ((n - 1) * 6) (newsOf (fun _ _ => .int .i64 0) 1 6)) base 51 6 (.slice (some ⟨g, 0, none⟩) (n - 1) cap) (n - 1) (pdF (delM m k)) ∧ w.grownBy (W1.setCells g ((n - 1) * 6) (newsOf (fun _ _ => .int .i64 0) 1 6)) (some g) from by
    obtain ⟨l, rfl⟩ : ∃ l, n = l + 1 := ⟨n - 1, by omega⟩
    rw [Nat.add_sub_cancel] at hO2 hG2 ⊢
    refine ⟨hO2.cut.congr (fun i j hi hj => ?_), grownBy_trans (grownBy_trans (grownBy_ext (Ext.drew (Ext.refl w)) _) hG1) hG2⟩
    rw [if_neg (by omega)]
    by_cases h : k ≤ i
    · rw [if_pos ⟨h, by omega⟩, show k + 1 + (i - k) = i + 1 by omega]
      exact pdF_at2 (by unfold delM; rw [if_neg (by omega)]) j
    · rw [if_neg (fun h2 => h h2.1)]
      exact pdF_at2 (by unfold delM; rw [if_pos (by omega)]) j)
  have HW := Lib.hid hW1
  clear hO1 hG1 hO2 hG2 hD hown hW1
  have i0 : (0 : Int) ≤ (k : Int) := by omega
  have i1 : (k : Int) < (n : Int) := by omega
  have i2 : ((k : Int) == (k : Int) + 1) = false := by simp; omega
  have i3 : (k : Int) + 1 ≤ (n : Int) := by omega
  have i4 : (n : Int) ≤ (cap : Int) := by omega
  unfold maxLen at hcm
  obtain ⟨ei, hi0, hz0, hsz0, hby0⟩ := elPond.hi
  have mixed : Try.prog.follows .mixedOrders = true := by kernel_rfl
  have i5 : (k : Int) ≤ (cap : Int) := by omega
  have i6 : k ≤ cap := by omega
  have i7 : k + 1 ≤ cap := by omega
  have i8 : ¬ cap = k := by omega
  have i9 : (0 : Int) ≤ (k : Int) + 1 := by omega
  by_cases hcap : cap = k + 1
  · obtain rfl : n = k + 1 := by omega
    have hl0 : news.length = 0 := by rw [hlen.out]; omega
    have hnil := List.length_eq_zero_iff.1 hl0
    subst hcap
    have hsrc : Hid (∀ t u, news[t]? = some u → w.drew.cell? ((⟨g, 0, none⟩ : Addr).add t) = some u) := Lib.hid (fun t u hu => by
      rw [hnil] at hu
      cases hu)
    clear hcell hnews hl0 hnil
    have j0 : (k : Int) ≤ (k : Int) + 1 := by omega
    rw [show k + 1 - 1 = k by omega, show k + 1 - k = 1 by omega] at hcl
    go_enter Try.func70, Try.ntmps70
    go_wp2_with fail
    go_region_law_o (refine step_append_room rfl (.tmp 22) (.tmp 25) 25 rfl 51 ei 6 Try.underlying25 hi0 hsz0 g 0 k (k + 1) (by simp [Act.eval, Act.put]) ⟨g, 0, none⟩ 0 0 news (by simp [Act.eval, Act.put]) (by rw [hlen.out]; omega) hsrc.out hone.out (by omega) hsp.out ?_; rw [← HW.out])
    rw [Nat.add_sub_cancel] at HR
    go_wp2
    go_ret
    exact ⟨rfl, HR.out⟩
  · have hsrc : Hid (∀ t u, news[t]? = some u → w.drew.cell? ((⟨g, (k + 1) * 6, none⟩ : Addr).add t) = some u) := Lib.hid (fun t u hu => by
      rw [hnews] at hu
      obtain ⟨g1, g2, g3, g4⟩ := newsOf_get (by omega) hu
      have e1 : (⟨g, (k + 1) * 6, none⟩ : Addr).add t = ⟨g, (k + 1) * 6 + t, none⟩ := by unfold Addr.add; split <;> simp_all
      rw [e1, show (k + 1) * 6 + t = (k + 1 + t / 6) * 6 + t % 6 by omega]
      exact (hcell.out _ _ (by omega) g2).1.trans (congrArg some g3))
    have hcl2 : ∀ ty, (Builtin.clear_ #[25] ty #[.slice (some ⟨g, (k + (n - (k + 1))) * 6, none⟩) (n - (k + (n - (k + 1)))) (cap - (k + (n - (k + 1))))]).run Try.prog W1 = .ok (.tuple #[]) (W1.setCells g ((k + (n - (k + 1))) * 6) (newsOf (fun _ _ => .int .i64 0) 1 6)) := fun ty => by
      have h := hcl ty
      rw [show n - 1 = k + (n - (k + 1)) by omega] at h
      rw [show n - (k + (n - (k + 1))) = 1 by omega]
      exact h
    clear hcell hnews hcl
    go_enter Try.func70, Try.ntmps70
    go_wp2_with fail
    go_region_law_o (refine step_append_room rfl (.tmp 22) (.tmp 25) 25 rfl 51 ei 6 Try.underlying25 hi0 hsz0 g 0 k cap (by simp [Act.eval, Act.put]) ⟨g, (k + 1) * 6, none⟩ (n - (k + 1)) (cap - (k + 1)) news (by simp [Act.eval, Act.put]) hlen.out hsrc.out hone.out (by omega) hsp.out ?_; rw [← HW.out])
    rw [show n - 1 = k + (n - (k + 1)) by omega] at HR
    go_wp2
    go_ret
    exact ⟨congrArg (fun q => Ending.returned (.slice (some ⟨g, 0, none⟩) q cap)) (by omega), by rw [show n - 1 = k + (n - (k + 1)) by omega]; exact HR.out⟩
end Go.Proofs.Ytkgnfmdeimaedaa
