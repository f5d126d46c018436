/- Chain: the contracts of the reference. -/
import Derived.Test.YtkgnfmdeimaedaaChainS
namespace Go.Proofs.Ytkgnfmdeimaedaa
open Go.RowKit
set_option linter.unusedVariables false

noncomputable def chC (n : Nat) (m : Nat → Pd) (a b : Int) : Bool := pondsB n m && decide (0 ≤ findPond n m a ∧ 0 ≤ findPond n m b)
theorem chC_yes {n : Nat} {m : Nat → Pd} {a b : Int} (hv : pondsB n m = true) (h : 0 ≤ findPond n m a ∧ 0 ≤ findPond n m b) : chC n m a b = true := by unfold chC; rw [hv, decide_eq_true h]; rfl
theorem chC_cases {n : Nat} {m : Nat → Pd} {a b : Int} (h : chC n m a b = false) : pondsB n m = false ∨ pondsB n m = true ∧ (findPond n m a = -1 ∨ (∃ i : Nat, findPond n m a = (i : Int)) ∧ findPond n m b = -1) := by
  cases hv : pondsB n m
  · exact .inl rfl
  · refine .inr ⟨rfl, ?_⟩
    rcases findPond_bd n m a with h1 | ⟨i, h1, _⟩
    · exact .inl h1
    · refine .inr ⟨⟨i, h1⟩, ?_⟩
      rcases findPond_bd n m b with h2 | ⟨k, h2, _⟩
      · exact h2
      · rw [chC_yes hv ⟨by omega, by omega⟩] at h
        cases h
/-- nx is the least from j on that p says yes to; -1 if there is none. -/
def Low (p : Nat → Bool) (n j : Nat) (nx : Int) : Prop := (nx = -1 ∧ ∀ t, j ≤ t → t < n → p t = false) ∨ ∃ z : Nat, nx = (z : Int) ∧ j ≤ z ∧ z < n ∧ p z = true ∧ ∀ t, j ≤ t → t < z → p t = false
theorem Low.start (p : Nat → Bool) (n : Nat) : Low p n n (-1) := .inl ⟨rfl, fun t h1 h2 => by omega⟩
theorem Low.hit {p : Nat → Bool} {n j : Nat} (hj : j < n) (hp : p j = true) : Low p n j (j : Int) := .inr ⟨j, rfl, Nat.le_refl _, hj, hp, fun t h1 h2 => by omega⟩
theorem Low.miss {p : Nat → Bool} {n j : Nat} {nx : Int} (h : Low p n (j + 1) nx) (hp : p j = false) : Low p n j nx := by
  rcases h with ⟨h1, h2⟩ | ⟨z, h1, h2, h3, h4, h5⟩
  · refine .inl ⟨h1, fun t ht htn => ?_⟩
    by_cases he : t = j
    · rw [he]; exact hp
    · exact h2 t (by omega) htn
  · refine .inr ⟨z, h1, by omega, h3, h4, fun t ht htz => ?_⟩
    by_cases he : t = j
    · rw [he]; exact hp
    · exact h5 t (by omega) htz
theorem Low.fin {p : Nat → Bool} {n : Nat} {nx : Int} (h : Low p n 0 nx) (hf : firstP p n < n) : nx = (firstP p n : Int) := by
  rcases h with ⟨_, h2⟩ | ⟨z, h1, _, h3, h4, h5⟩
  · have := firstP_yes p n hf
    rw [h2 _ (Nat.zero_le _) hf] at this
    cases this
  · rw [h1, firstP_is h3 h4 (fun t ht => h5 t (Nat.zero_le _) ht)]
theorem goB_no {adj : Nat → Nat → Prop} {f : Nat → Int} {x j : Nat} (h : ¬ (f j = f x - 1 ∧ adj x j)) : goB adj f x j = false := Bool.eq_false_iff.2 fun hh => h ((goB_iff adj f).1 hh)
theorem own_one {e : TypeId} {f : Nat → Int} (w : World) (a : Int) (b : Nat) (hb : b ≤ w.heap.size) (hf : f 0 = a) : OwnS (w.alloc (.cells #[.int .i64 a] e)) b e 1 (.slice (some ⟨w.heap.size, 0, none⟩) 1 1) 1 (mk1 f) :=
  ⟨_, World.ownsRow_lit w #[.int .i64 a] 1 hb (by unfold maxLen; omega) rfl, fun i j hi hj => by
    obtain rfl : i = 0 := by omega
    obtain rfl : j = 0 := by omega
    simp [mk1, hf]⟩
set_option maxHeartbeats 2000000 in
theorem specChain_no (A : Option Addr) (n c : Nat) (m : Nat → Pd) (a b : Int) (w : World) (hc : c ≤ maxLen) (hnc : n ≤ c) (hr : Rd w A n 6 (pdF m)) (h : chC n m a b = false) : Calls Try.prog 41 #[.slice A n c, .int .i64 a, .int .i64 b] w (RetS 3 1 0 (mkL []) false w) := by
  have HR := Lib.hid hr
  have HC := Lib.hid hc
  have HN := Lib.hid hnc
  unfold maxLen at hc
  have hcase : findPondV n m a = -1 ∨ (∃ i : Nat, findPondV n m a = (i : Int)) ∧ findPondV n m b = -1 := by
    rcases chC_cases h with hv | ⟨hv, h1⟩
    · exact .inl (if_neg (by rw [hv]; simp))
    · rw [show findPondV n m a = findPond n m a from if_pos hv, show findPondV n m b = findPond n m b from if_pos hv]
      exact h1
  rcases hcase with h1 | ⟨⟨i, h1⟩, h2⟩
  · have HJ := Lib.hid h1
    obtain ⟨zb, hzb⟩ : ∃ z, findPondV n m b = z := ⟨_, rfl⟩
    have HK := Lib.hid hzb
    clear hr h h1 hzb
    go_enter Try.func41, Try.ntmps41
    go_wp2_with (first | (go_at_call 63; refine (l3Find_is _ _ _ _ _ _ _ HC.out HN.out (by first | exact HR.out | exact HR.out.ext (ext_gw _ _)) (by first | with_reducible exact HJ.out | with_reducible exact HK.out)).mono ?_; rintro e w1 ⟨rfl, hx⟩; (try replace hx := Ext.flat hx); obtain ⟨x, rfl⟩ := hx.to_gw; clear hx))
    go_ret2
    exact ⟨_, rfl, (own_empty _ _ rfl (by simp)), by repeat (with_reducible first | exact Ext.refl _ | refine Ext.setCell ?_ (by first | (simp; done) | (simp; omega)) _ | refine Ext.alloc ?_ _ | refine Ext.gw ?_ _ | refine Ext.drew ?_)⟩
  · have HJ := Lib.hid h1
    have i0 : (0 : Int) ≤ (i : Int) := by omega
    have HK := Lib.hid h2
    clear hr h h1 h2
    go_enter Try.func41, Try.ntmps41
    go_wp2_with (first | (go_at_call 63; refine (l3Find_is _ _ _ _ _ _ _ HC.out HN.out (by first | exact HR.out | exact HR.out.ext (ext_gw _ _)) (by first | with_reducible exact HJ.out | with_reducible exact HK.out)).mono ?_; rintro e w1 ⟨rfl, hx⟩; (try replace hx := Ext.flat hx); obtain ⟨x, rfl⟩ := hx.to_gw; clear hx))
    go_ret2
    exact ⟨_, rfl, (own_empty _ _ rfl (by simp)), by repeat (with_reducible first | exact Ext.refl _ | refine Ext.setCell ?_ (by first | (simp; done) | (simp; omega)) _ | refine Ext.alloc ?_ _ | refine Ext.gw ?_ _ | refine Ext.drew ?_)⟩
set_option maxHeartbeats 4000000 in
theorem specChain_go (A : Option Addr) (n c : Nat) (m : Nat → Pd) (a b : Int) (w : World) (hc : c ≤ maxLen) (hnc : n ≤ c) (hr : Rd w A n 6 (pdF m)) (hv : pondsB n m = true) (i k : Nat) (hi : findPond n m a = (i : Int)) (hk : findPond n m b = (k : Int)) (hin : i < n) (hkn : k < n) (hid : (m i).id = a)
    (D : Nat → Int) (hD : farV n (adjM m) k = D) (ok : Bool) (N : Nat) (hok : decide (0 ≤ D i) = ok) (hN : N = if ok = true then (D i).toNat + 1 else 0) :
    Calls Try.prog 41 #[.slice A n c, .int .i64 a, .int .i64 b] w (RetS 3 1 N (mk1 fun t => (m (wayN n (adjM m) D i t)).id) ok w) := by
  have HR := Lib.hid hr
  have HC := Lib.hid hc
  have HN := Lib.hid hnc
  have HJ : Hid (findPondV n m a = (i : Int)) := Lib.hid (by rw [show findPondV n m a = findPond n m a from if_pos hv]; exact hi)
  have HK : Hid (findPondV n m b = (k : Int)) := Lib.hid (by rw [show findPondV n m b = findPond n m b from if_pos hv]; exact hk)
  have hvp := pondsB_iff.1 hv
  have HV := Lib.hid hvp
  have HID := Lib.hid hid
  have HDD := Lib.hid hD
  have HNN := Lib.hid hN
  have hn10 := hvp.1
  unfold maxLen at hc
  have i0 : (0 : Int) ≤ (i : Int) := by omega
  have i1 : (i : Int) < (n : Int) := by omega
  have k0 : (0 : Int) ≤ (k : Int) := by omega
  have k1 : (k : Int) < (n : Int) := by omega
  clear hi hk hv hvp hid hD hN
  go_enter Try.func41, Try.ntmps41
  go_wp2_with (first | (go_at_call 63; refine (l3Find_is _ _ _ _ _ _ _ HC.out HN.out (by first | exact HR.out | exact HR.out.ext (ext_gw _ _)) (by first | with_reducible exact HJ.out | with_reducible exact HK.out)).mono ?_; rintro e w1 ⟨rfl, hx⟩; (try replace hx := Ext.flat hx); obtain ⟨x, rfl⟩ := hx.to_gw; clear hx))
  refine (l3Steps_any A n c m k _ HC.out HN.out (HR.out.ext (ext_gw _ _)) HV.out hkn).mono ?_
  rintro e w2 ⟨⟨v, rfl, hown, hx2⟩, hF⟩
  rw [HDD.out] at hown hF
  replace hx2 := Ext.flat hx2
  replace hr := hr.ext hx2
  obtain ⟨A2, cap2, rfl, hnc2, hcap2, hform⟩ := hown.form
  obtain ⟨g2, rfl, _, hg2b, hg2, hcell⟩ := hform (by omega)
  have HCELL : Hid (∀ j, j < n → w2.cell? ⟨g2, j, none⟩ = some (.int .i64 (D j))) := Lib.hid fun j hj => by
    have := (hcell j 0 hj (by omega)).1
    rw [Nat.add_zero, Nat.mul_one] at this
    exact this
  clear hform hcell hown
  unfold maxLen at hcap2
  have e0 := HCELL.out i hin
  have HF := Lib.hid hF
  have hlo := hF.lo i hin
  have hhi := hF.near.lt hin
  have hw2 := hx2.size_le
  clear hF
  dsimp only
  by_cases h0 : 0 ≤ D i
  · obtain ⟨d, hd⟩ : ∃ d : Nat, D i = (d : Int) := ⟨(D i).toNat, by omega⟩
    have HD := Lib.hid hd
    rw [hd] at e0
    have HOK := Lib.hid (show ok = true by rw [← hok]; exact decide_eq_true h0)
    clear hok h0
    have dn : (d : Int) < (n : Int) := by omega
    clear hlo hhi hd
    go_wp2
    clear e0
    go_loopw [8, 11, 12] (fun s8 s11 s12 wr => ∃ (q : Nat) (z : Int), q ≤ d ∧ s12 = .int .i64 z ∧ Hid (z = (d : Int) - 1 - q) ∧ (∃ u : Nat, s8 = .int .i64 u ∧ u < n ∧ Hid (u = wayN n (adjM m) D i q)) ∧ OwnS wr w2.heap.size 3 1 s11 (q + 1) (mk1 fun t => (m (wayN n (adjM m) D i t)).id) ∧ ∃ y, wr = gw w2 y) (fun _ _ s12 _ => (intOf s12 + 1).toNat)
    case atStart => exact ⟨0, _, Nat.zero_le _, rfl, Lib.hid (by omega), ⟨i, rfl, hin, Lib.hid rfl⟩, own_one w2 a _ (Nat.le_refl _) HID.out, ((Ext.refl _).alloc _).to_gw⟩
    case round =>
      obtain ⟨q, z, hq, rfl, hz, ⟨u, rfl, hun, HU⟩, hown, y, rfl⟩ := hrel
      obtain ⟨g, off, rfl, hg, c0, c1, c2, c3, c4, c5⟩ := hr.atPond hun
      have H1 := Lib.hid (small_at HV.out hun)
      have u0 : (0 : Int) ≤ (u : Int) := by omega
      have u1 : (u : Int) < (n : Int) := by omega
      by_cases hqd : q < d
      · have hz0 : 0 ≤ z := by have := hz.out; omega
        have HZ : Hid (D u - 1 = z) := Lib.hid (by
          have h1 := (HF.out.way (adjM_comm m) hin q (by rw [HD.out]; omega)).2
          have h2 := hz.out
          rw [HU.out, h1, HD.out]
          omega)
        have HST := Lib.hid (HF.out.step (adjM_comm m) hun (by have := HZ.out; omega))
        have HNX : Hid (firstP (goB (adjM m) D u) n = wayN n (adjM m) D i (q + 1)) := Lib.hid (by rw [HU.out]; rfl)
        have zh : z < 10 := by have := hz.out; omega
        go_wp2
        go_loopw [13, 14] (fun s13 s14 wr => ∃ (j : Nat) (z2 nx : Int), j ≤ n ∧ s14 = .int .i64 z2 ∧ Hid (z2 = (j : Int) - 1) ∧ s13 = .int .i64 nx ∧ Low (goB (adjM m) D u) n j nx ∧ OwnS wr w2.heap.size 3 1 u11 (q + 1) (mk1 fun t => (m (wayN n (adjM m) D i t)).id) ∧ ∃ y, wr = gw w2 y) (fun _ s14 _ => (intOf s14 + 1).toNat)
        case atStart => exact ⟨n, _, _, Nat.le_refl _, rfl, Lib.hid (by omega), rfl, Low.start _ _, hown, y, rfl⟩
        case round =>
          clear hown
          obtain ⟨j, z2, nx, hj, rfl, hz2, rfl, HL, hown, y3, rfl⟩ := hrel
          match j, hj, hz2, HL with
          | 0, hj, hz2, HL =>
            obtain rfl : z2 = -1 := by have := hz2.out; omega
            have HL2 := Lib.hid (HL.fin HST.out.1)
            obtain ⟨v2, hv2⟩ : ∃ v2, firstP (goB (adjM m) D u) n = v2 := ⟨_, rfl⟩
            have hv2n : v2 < n := by rw [← hv2]; exact HST.out.1
            obtain rfl : nx = (v2 : Int) := by rw [HL2.out, hv2]
            have HV2 := Lib.hid (hv2.symm.trans HNX.out)
            obtain ⟨g', off', hA', _, d0, _, _, _, _, _⟩ := hr.atPond hv2n
            injection hA' with hA'
            injection hA' with e1' e2' _
            subst e1' e2'
            have v0 : (0 : Int) ≤ (v2 : Int) := by omega
            have v1 : (v2 : Int) < (n : Int) := by omega
            have HLAST := Lib.hid (show (m v2).id = (m (wayN n (adjM m) D i (q + 1))).id by rw [HV2.out])
            clear HL hz2 HL2 hv2 HST HNX
            go_wp2_with (at_builtin; refine wpList_append_G w2 w2.heap.size rfl (by repeat (with_reducible first | exact Ext.refl _ | refine Ext.setCell ?_ (by first | (simp; done) | (simp; omega)) _ | refine Ext.alloc ?_ _ | refine Ext.gw ?_ _ | refine Ext.drew ?_)) rfl _ _ elInt rfl rfl hown _ _ rfl rfl (by omega) ?_ ?_ ?_)
            · exact congrArg (Value.int .i64) HLAST.out
            · rfl
            · intro v' z hown3
              clear hown
              go_wp2
              go_roundw
              case rel => exact ⟨q + 1, _, by omega, rfl, Lib.hid (by have := hz.out; omega), ⟨v2, rfl, hv2n, HV2⟩, hown3, z, rfl⟩
              case measure => simp [intOf]; omega
          | j + 1, hj, hz2, HL =>
            obtain rfl : z2 = (j : Int) := by have := hz2.out; omega
            have hjn : j < n := by omega
            have e1 := HCELL.out j hjn
            obtain ⟨g', off', hA', _, d0, d1, d2, d3, d4, d5⟩ := hr.atPond hjn
            injection hA' with hA'
            injection hA' with e1' e2' _
            subst e1' e2'
            have H2 := Lib.hid (small_at HV.out hjn)
            have j0 : (0 : Int) ≤ (j : Int) := by omega
            have j1 : (j : Int) < (n : Int) := by omega
            clear hz2
            by_cases hdj : D j = z
            · rw [hdj] at e1
              by_cases hbk : 0 < bankV (m u) (m j)
              · have HL2 := Lib.hid (show Low (goB (adjM m) D u) n j (j : Int) from Low.hit hjn ((goB_iff _ _).2 ⟨by rw [hdj, HZ.out], hbk⟩))
                clear HL hdj
                go_wp2_with fail
                refine wp_region_grow (by kernel_rfl) (by kernel_rfl) ?_
                repeat (go_big_quiet_step (first | (go_at_call 65; exact grow_of (l3Bank_any (m u) (m j) _ H1.out H2.out))))
                refine wpQuiet_nil ?_
                rintro _ ⟨xq, rfl⟩
                replace hown := hown.ext (show Ext (gw w2 y3) (gw _ xq) from ext_gw _ xq)
                go_wp2
                go_roundw
                case rel => exact ⟨j, _, _, by omega, rfl, Lib.hid rfl, rfl, HL2.out, hown, (((Ext.refl w2).gw _).gw _).to_gw⟩
                case measure => simp [intOf]
              · have HL2 := Lib.hid (HL.miss (goB_no (fun h => hbk h.2)))
                have q3 : bankV (m u) (m j) ≤ 0 := by omega
                clear HL hdj hbk
                go_wp2_with fail
                refine wp_region_grow (by kernel_rfl) (by kernel_rfl) ?_
                repeat (go_big_quiet_step (first | (go_at_call 65; exact grow_of (l3Bank_any (m u) (m j) _ H1.out H2.out))))
                refine wpQuiet_nil ?_
                rintro _ ⟨xq, rfl⟩
                replace hown := hown.ext (show Ext (gw w2 y3) (gw _ xq) from ext_gw _ xq)
                go_wp2
                go_roundw
                case rel => exact ⟨j, _, _, by omega, rfl, Lib.hid rfl, rfl, HL2.out, hown, (((Ext.refl w2).gw _).gw _).to_gw⟩
                case measure => simp [intOf]
            · have HL2 := Lib.hid (HL.miss (goB_no (fun h => hdj (by rw [h.1, HZ.out]))))
              have q4 : (D j == z) = false := beq_eq_false_iff_ne.2 hdj
              clear HL hdj
              go_wp2_with fail
              refine wp_region_grow (by kernel_rfl) (by kernel_rfl) ?_
              repeat (go_big_quiet_step (fail))
              refine wpQuiet_nil ?_
              rintro _ ⟨xq, rfl⟩
              replace hown := hown.ext (show Ext (gw w2 y3) (gw _ xq) from ext_gw _ xq)
              go_wp2
              go_roundw
              case rel => exact ⟨j, _, _, by omega, rfl, Lib.hid rfl, rfl, HL2.out, hown, (((Ext.refl w2).gw _).gw _).to_gw⟩
              case measure => simp [intOf]
      · obtain rfl : q = d := by omega
        obtain rfl : z = -1 := by have := hz.out; omega
        clear hz
        go_wp2
        go_ret2
        have h2 := HNN.out
        rw [HOK.out, if_pos rfl, HD.out, Int.toNat_natCast] at h2
        rw [HOK.out, h2]
        exact ⟨_, rfl, hown.lower hw2, hx2.gw _⟩
  · have HOK := Lib.hid (show ok = false by rw [← hok]; exact decide_eq_false h0)
    have h1 : D i < 0 := by omega
    clear hok h0
    go_wp2
    go_ret2
    have h2 := HNN.out
    rw [HOK.out, if_neg (by simp)] at h2
    rw [HOK.out, h2]
    exact ⟨_, rfl, own_empty _ _ rfl hw2, hx2.alloc _⟩
end Go.Proofs.Ytkgnfmdeimaedaa
