/- The walk of the law FnExactSplitBrine. -/
import Derived.Test.YtkbbbplflfigkaaSplit
import Derived.Test.YtkbbbplflfigkaaBrineS
namespace Go.Proofs.Ytkbbbplflfigkaa
open Go.RowKit

theorem OwnS.apart {w w' : World} {b1 b2 e1 e2 s1 s2 n1 n2 : Nat} {v1 v2 : Value} {f1 f2 : Nat → Nat → Value} (h1 : OwnS w b1 e1 s1 v1 n1 f1) (h2 : OwnS w' b2 e2 s2 v2 n2 f2) (hb : w.heap.size ≤ b2) : v1.ownBlock = none ∨ v1.ownBlock ≠ v2.ownBlock := by
  cases hv : v1.ownBlock with
  | none => exact .inl rfl
  | some k =>
    right
    intro h
    have h3 := (h1.block k hv).2
    have h4 := (h2.block k h.symm).1
    omega
theorem OwnS.ext_of {w0 w w' : World} {b e s n : Nat} {v : Value} {f : Nat → Nat → Value} (h : OwnS w b e s v n f) (hx : Ext w0 w) (hb : w0.heap.size ≤ b) (hg : w.grownBy w' v.ownBlock) : Ext w0 w' :=
  hx.grown hg (fun k hk => Nat.le_trans hb (h.block k hk).1)

set_option maxHeartbeats 1000000 in
theorem split_law (a b p : Int) (n : Nat) (f g : Nat → Int) (ok : Bool) (hn : n ≤ 1000000000)
    (hs : Hid (∀ w, Calls Try.prog 39 #[.agg #[.int .i64 a, .int .i64 b], .int .i64 p] w (RetS 26 2 n (mk2 f g) ok w)))
    (hi : Hid (∀ w, Calls Try.prog 40 #[.agg #[.int .i64 a, .int .i64 b], .int .i64 p] w (RetS 26 2 n (mk2 f g) ok w))) (w : World) :
    Calls Try.prog 13 #[.agg #[.int .i64 a, .int .i64 b], .int .i64 p] w fun e w' => e = .returned (.bool true) ∧ Ext w w' := by
  go_enter Try.func13, Try.ntmps13
  go_wp2_with fail
  refine (toBrine_any _ _ _).mono ?_
  rintro e w1 ⟨rfl, hx⟩
  obtain ⟨x, rfl⟩ := hx.to_gw
  clear hx
  go_wp2_with fail
  refine (hs.out _).mono ?_
  rintro e w1 ⟨v0, rfl, h0, hx⟩
  obtain ⟨x1, rfl⟩ := (Ext.flat hx).to_gw
  clear hx
  go_wp2_with fail
  refine (toBrine_any _ _ _).mono ?_
  rintro e w1 ⟨rfl, hx⟩
  replace h0 := h0.ext hx
  obtain ⟨x2, rfl⟩ := (Ext.flat hx).to_gw
  clear hx
  go_wp2_with fail
  refine (hi.out _).mono ?_
  rintro e w1 ⟨v1, rfl, h1, hx⟩
  have hap := h0.apart h1 (Nat.le_refl _)
  have hbase : (w.alloc (Obj.cells #[Value.int IntKind.i64 a, Value.int IntKind.i64 b] 24)).heap.size ≤ (gw (w.alloc (Obj.cells #[Value.int IntKind.i64 a, Value.int IntKind.i64 b] 24)) x2).heap.size := (ext_gw _ _).size_le
  replace h0 := h0.ext hx
  obtain ⟨x3, rfl⟩ := (Ext.flat hx).to_gw
  clear hx
  go_wp2_with fail
  refine (eqBrineS_any _ _ n f g _ h1 h0).mono ?_
  rintro e w1 ⟨rfl, hx⟩
  replace h0 := h0.ext hx
  replace h1 := h1.ext hx
  obtain ⟨x4, rfl⟩ := (Ext.flat hx).to_gw
  clear hx
  go_wp2_with fail
  refine (markBrineS_any _ n _ _ h1 hn).mono ?_
  rintro e w1 ⟨rfl, hm, hg⟩
  replace h0 := h0.kept hg hap
  obtain ⟨x5, rfl⟩ := (h1.ext_of (ext_gw _ _) hbase hg).to_gw
  clear hg h1 hap hbase
  go_wp2_with fail
  refine (heldBrineS_any _ n _ hm hn).mono ?_
  rintro e w1 ⟨rfl, rfl⟩
  go_wp2_with fail
  refine (toBrine_any _ _ _).mono ?_
  rintro e w1 ⟨rfl, hx⟩
  replace h0 := h0.ext hx
  replace hm := hm.ext hx
  obtain ⟨x6, rfl⟩ := (Ext.flat hx).to_gw
  clear hx
  go_wp2_with fail
  refine (hi.out _).mono ?_
  rintro e w1 ⟨v2, rfl, h2, hx⟩
  replace h0 := h0.ext hx
  replace hm := hm.ext hx
  obtain ⟨x7, rfl⟩ := (Ext.flat hx).to_gw
  clear hx
  go_wp2_with fail
  refine (eqBrineS_any _ _ n f g _ h2 h0).mono ?_
  rintro e w1 ⟨rfl, hx⟩
  replace hm := hm.ext hx
  obtain ⟨x8, rfl⟩ := (Ext.flat hx).to_gw
  clear hx h0 h2
  go_wp2_with fail
  refine (heldBrineS_any _ n _ hm hn).mono ?_
  rintro e w1 ⟨rfl, rfl⟩
  go_wp2
  go_ret
  exact ⟨rfl, by repeat (with_reducible first | exact Ext.refl _ | refine Ext.setCell ?_ (by first | (simp; done) | (simp; omega)) _ | refine Ext.alloc ?_ _ | refine Ext.gw ?_ _ | refine Ext.drew ?_)⟩
theorem FnExactSplitBrine_walk (a b p : Int) (w : World) : Calls Try.prog 13 #[.agg #[.int .i64 a, .int .i64 b], .int .i64 p] w fun e w' => e = .returned (.bool true) ∧ Ext w w' := by
  by_cases h : splitP a b p
  · exact split_law a b p p.toNat _ _ true (by have := h.2; omega) (Lib.hid fun w => specSplit_yes a b p w h) (Lib.hid fun w => implSplit_yes a b p w h) w
  · exact split_law a b p 0 _ _ false (by omega) (Lib.hid fun w => specSplit_no a b p w h) (Lib.hid fun w => implSplit_no a b p w h) w
end Go.Proofs.Ytkbbbplflfigkaa
