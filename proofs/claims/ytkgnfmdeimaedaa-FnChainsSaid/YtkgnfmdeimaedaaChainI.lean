/- Chain: the contracts of the program. -/
import Derived.Test.YtkgnfmdeimaedaaChainQ
import Derived.Deep.LoopGhost
import Derived.Deep.Cut
import Derived.Deep.CutRange
namespace Go.Proofs.Ytkgnfmdeimaedaa
open Go.RowKit
set_option linter.unusedVariables false

theorem unk_le (f : Nat → Int) (n : Nat) : unk f n ≤ n := by
  induction n with
  | zero => exact Nat.le_refl _
  | succ n ih =>
    show unk f n + (if f n < 0 then 1 else 0) ≤ n + 1
    split <;> omega
theorem QOn.open {w : World} {B : Nat} {v : Value} {x : Int} {l : List Int} (h : QOn w B v (x :: l)) :
    ∃ g o cap L, v = .slice (some ⟨g, o, none⟩) (L + 1) cap ∧ g < w.heap.size ∧ L + 1 ≤ cap ∧ cap ≤ 9223372036854775807 ∧ w.cell? ⟨g, o, none⟩ = some (.int .i64 x) ∧ QOn w B (.slice (some (if cap = 1 then ⟨g, o, none⟩ else ⟨g, o + 1, none⟩)) L (cap - 1)) l := by
  obtain ⟨g, o, cap, hv, hb, hg, hl, hm, hc, hs⟩ := h
  unfold maxLen at hm
  refine ⟨g, o, cap, l.length, by rw [hv, List.length_cons], hg, by rw [List.length_cons] at hl; exact hl, by omega, by have := hc 0 x rfl; rw [Nat.add_zero] at this; exact this, ?_⟩
  refine QOn.tail (x := x) ⟨g, o, cap, by rw [List.length_cons], hb, hg, hl, by unfold maxLen; omega, hc, hs⟩
theorem QOn.none {w : World} {B : Nat} {v : Value} (h : QOn w B v []) : ∃ g o cap, v = .slice (some ⟨g, o, none⟩) 0 cap := by
  obtain ⟨g, o, cap, hv, _⟩ := h
  exact ⟨g, o, cap, hv⟩
theorem wpList_append_Q2 {P : Program} {ops : Array Oper} {rest : List Oper} {o : Oper} {a : Act} {Q : Exit → Act → World → Prop} {w : World} (Z : Nat) (hZ : w.heap.size = Z) (hgd : o.guard = none) (s x : Operand) {t e : TypeId} (hE : ElemOk P t e (.int .i64 0) 1 8)
    (ho : o.op = .call { callee := .builtin .append, args := #[s, x], argTypes := #[t, t] }) {B : Nat} {v : Value} {l : List Int} (hs : a.eval s = v) (hq : QOn w B v l) (y : Int) (t' : TypeId)
    (hx : a.eval x = .slice (some ⟨Z, 0, none⟩) 1 1) (hn : l.length < 1000000)
    (h : ∀ v' w', QOn w' B v' (l ++ [y]) → (∃ g, B ≤ g ∧ w.grownBy w' (some g)) → wpList P ops Q rest (a.put o.dst v') w') :
    wpList P ops Q (o :: rest) a (w.alloc (.cells #[.int .i64 y] t')) := by
  subst hZ
  exact wpList_append_Q hgd s x hE ho hs hq y t' hx hn h
theorem wpList_append_K2 {P : Program} {ops : Array Oper} {rest : List Oper} {o : Oper} {a : Act} {Q : Exit → Act → World → Prop} {w : World} (Z : Nat) (hZ : w.heap.size = Z) (Wb : World) (base : Nat) (hbs : Wb.heap.size = base) (hW : Ext Wb w) (hgd : o.guard = none) (s x : Operand) {t e size bytes : Nat} {z : Value} (hE : ElemOk P t e z size bytes)
    (ho : o.op = .call { callee := .builtin .append, args := #[s, x], argTypes := #[t, t] }) {n : Nat} {v : Value} {f : Nat → Nat → Value} (hs : a.eval s = v) (hown : OwnS w base e size v n f)
    (cs : Array Value) (t' : TypeId) (hx : a.eval x = .slice (some ⟨Z, 0, none⟩) 1 1) (hcs : cs.size = size) (hn : n < 1099511627776) (hcv : ∀ j, j < size → cs[j]? = some (f n j)) (h1 : ∀ j, j < size → (f n j).oneCell' = true)
    (b : Nat) (hb : b < Z) (hne : v.ownBlock ≠ some b)
    (h : ∀ v' y, OwnS (gw Wb y) base e size v' (n + 1) f → Hid (b < (gw Wb y).heap.size ∧ ∀ o, (gw Wb y).cell? ⟨b, o, none⟩ = w.cell? ⟨b, o, none⟩) → wpList P ops Q rest (a.put o.dst v') (gw Wb y)) :
    wpList P ops Q (o :: rest) a (w.alloc (.cells cs t')) := by
  subst hZ
  exact wpList_append_K Wb base hbs hW hgd s x hE ho hs hown cs t' hx hcs hn hcv h1 fun v' y h2 h3 => h v' y h2 (Lib.hid (h3 b hb hne))
theorem ChW.new {w0 W : World} {A : Option Addr} {n c b0 : Nat} (t : TypeId) (hx : Ext w0 W) (hb : b0 < W.heap.size) (h0 : W.cell? ⟨b0, 0, none⟩ = some (.slice A n c)) (hn : n ≤ 100) :
    ChW w0 A n c b0 (W.heap.size + 1) W.heap.size (W.heap.size + 2) (fun _ => -1) ((W.alloc (.cells (madeCells #[.int .i64 0] n) 3)).alloc (.cells #[.slice (some ⟨W.heap.size, 0, none⟩) n n] t)) := by
  have hx1 := Ext.alloc (Ext.refl W) (.cells (madeCells #[.int .i64 0] n) 3)
  have hx2 := hx1.alloc (.cells #[.slice (some ⟨W.heap.size, 0, none⟩) n n] t)
  have hm := own_made (e := 3) (n := n) elInt.hz W (by unfold maxLen; omega)
  rw [Nat.mul_one] at hm
  have hm2 : OwnS ((W.alloc (.cells (madeCells #[.int .i64 0] n) 3)).alloc (.cells #[.slice (some ⟨W.heap.size, 0, none⟩) n n] t)) W.heap.size 3 1 (.slice (some ⟨W.heap.size, 0, none⟩) n n) n (mk1 fun _ => -1 + 1) :=
    (OwnS.ext (show OwnS (W.alloc (.cells (madeCells #[.int .i64 0] n) 3)) W.heap.size 3 1 _ n _ from hm) (Ext.alloc (Ext.refl _) _)).congr (fun i j _ hj => by obtain rfl : j = 0 := (by omega); rfl)
  refine ⟨hx.trans hx2, hx.size_le, by omega, by omega, by omega, by simp, by omega, by omega, (hx2.cell (p := ⟨b0, 0, none⟩) hb).trans h0, ?_, hm2.lower hx.size_le⟩
  simp [go_sem]
set_option maxHeartbeats 4000000 in
theorem implChain_no (A : Option Addr) (n c : Nat) (m : Nat → Pd) (a b : Int) (w : World) (hc : c ≤ maxLen) (hnc : n ≤ c) (hr : Rd w A n 6 (pdF m)) (h : chC n m a b = false) : Calls Try.prog 42 #[.slice A n c, .int .i64 a, .int .i64 b] w (RetS 3 1 0 (mkL []) false w) := by
  have HR1 := Lib.hid (hr.ext (Ext.alloc (Ext.refl w) (.cells #[.slice A n c] 25)))
  have HC := Lib.hid hc
  have HN := Lib.hid hnc
  unfold maxLen at hc
  rcases chC_cases h with hv | ⟨hv, hcase⟩
  · obtain ⟨za, hza⟩ : ∃ z, findPond n m a = z := ⟨_, rfl⟩
    obtain ⟨zb, hzb⟩ : ∃ z, findPond n m b = z := ⟨_, rfl⟩
    have HJ := Lib.hid hza
    have HK := Lib.hid hzb
    clear hr h hza hzb
    go_enter Try.func42, Try.ntmps42
    go_wp2_with fail
    refine wp_region_grow (by kernel_rfl) (by kernel_rfl) ?_
    repeat (go_big_quiet_step (first | (go_at_call 64; exact grow_of (pondAt_is _ _ _ _ _ _ _ HC.out HN.out (HR1.out.ext (ext_gw _ _)) (by first | with_reducible exact HJ.out | with_reducible exact HK.out)))))
    refine wpQuiet_nil ?_
    rintro _ ⟨xq, rfl⟩
    go_wp2_with (go_at_call 18; refine (arePonds_any _ _ _ _ _ HC.out HN.out (HR1.out.ext (ext_gw _ _))).mono ?_; rintro e w1 ⟨rfl, hx⟩; (try replace hx := Ext.flat hx); obtain ⟨x, rfl⟩ := hx.to_gw; clear hx)
    go_ret2
    exact ⟨_, rfl, OwnS.nil, by repeat (with_reducible first | exact Ext.refl _ | refine Ext.setCell ?_ (by first | (simp; done) | (simp; omega)) _ | refine Ext.alloc ?_ _ | refine Ext.gw ?_ _ | refine Ext.drew ?_)⟩
  · rcases hcase with h1 | ⟨⟨i, h1⟩, h2⟩
    · have HJ := Lib.hid h1
      obtain ⟨zb, hzb⟩ : ∃ z, findPond n m b = z := ⟨_, rfl⟩
      have HK := Lib.hid hzb
      clear hr h h1 hzb
      go_enter Try.func42, Try.ntmps42
      go_wp2_with fail
      refine wp_region_grow (by kernel_rfl) (by kernel_rfl) ?_
      repeat (go_big_quiet_step (first | (go_at_call 64; exact grow_of (pondAt_is _ _ _ _ _ _ _ HC.out HN.out (HR1.out.ext (ext_gw _ _)) (by first | with_reducible exact HJ.out | with_reducible exact HK.out)))))
      refine wpQuiet_nil ?_
      rintro _ ⟨xq, rfl⟩
      go_wp2_with (go_at_call 18; refine (arePonds_any _ _ _ _ _ HC.out HN.out (HR1.out.ext (ext_gw _ _))).mono ?_; rintro e w1 ⟨rfl, hx⟩; (try replace hx := Ext.flat hx); obtain ⟨x, rfl⟩ := hx.to_gw; clear hx)
      go_ret2
      exact ⟨_, rfl, OwnS.nil, by repeat (with_reducible first | exact Ext.refl _ | refine Ext.setCell ?_ (by first | (simp; done) | (simp; omega)) _ | refine Ext.alloc ?_ _ | refine Ext.gw ?_ _ | refine Ext.drew ?_)⟩
    · have HJ := Lib.hid h1
      have HK := Lib.hid h2
      have i0 : (0 : Int) ≤ (i : Int) := by omega
      clear hr h h1 h2
      go_enter Try.func42, Try.ntmps42
      go_wp2_with fail
      refine wp_region_grow (by kernel_rfl) (by kernel_rfl) ?_
      repeat (go_big_quiet_step (first | (go_at_call 64; exact grow_of (pondAt_is _ _ _ _ _ _ _ HC.out HN.out (HR1.out.ext (ext_gw _ _)) (by first | with_reducible exact HJ.out | with_reducible exact HK.out)))))
      refine wpQuiet_nil ?_
      rintro _ ⟨xq, rfl⟩
      go_wp2_with (go_at_call 18; refine (arePonds_any _ _ _ _ _ HC.out HN.out (HR1.out.ext (ext_gw _ _))).mono ?_; rintro e w1 ⟨rfl, hx⟩; (try replace hx := Ext.flat hx); obtain ⟨x, rfl⟩ := hx.to_gw; clear hx)
      go_ret2
      exact ⟨_, rfl, OwnS.nil, by repeat (with_reducible first | exact Ext.refl _ | refine Ext.setCell ?_ (by first | (simp; done) | (simp; omega)) _ | refine Ext.alloc ?_ _ | refine Ext.gw ?_ _ | refine Ext.drew ?_)⟩
set_option maxRecDepth 100000 in
set_option maxHeartbeats 8000000 in
theorem implChain_go (A : Option Addr) (n c : Nat) (m : Nat → Pd) (a b : Int) (w : World) (hc : c ≤ maxLen) (hnc : n ≤ c) (hr : Rd w A n 6 (pdF m)) (hv : pondsB n m = true) (i k : Nat) (hi : findPond n m a = (i : Int)) (hk : findPond n m b = (k : Int)) (hin : i < n) (hkn : k < n) (hid : (m i).id = a)
    (D : Nat → Int) (hD : farV n (adjM m) k = D) (ok : Bool) (N : Nat) (hok : decide (0 ≤ D i) = ok) (hN : N = if ok = true then (D i).toNat + 1 else 0) :
    Calls Try.prog 42 #[.slice A n c, .int .i64 a, .int .i64 b] w (RetS 3 1 N (mk1 fun t => (m (wayN n (adjM m) D i t)).id) ok w) := by
  have HR1 := Lib.hid (hr.ext (Ext.alloc (Ext.refl w) (.cells #[.slice A n c] 25)))
  have HR := Lib.hid hr
  have HC := Lib.hid hc
  have HN := Lib.hid hnc
  have HJ := Lib.hid hi
  have HK := Lib.hid hk
  have hvp := pondsB_iff.1 hv
  have HV := Lib.hid hvp
  have HDD := Lib.hid hD
  have HOK := Lib.hid hok
  have HNN := Lib.hid hN
  have hn10 := hvp.1
  unfold maxLen at hc
  have i0 : (0 : Int) ≤ (i : Int) := by omega
  have i1 : (i : Int) < (n : Int) := by omega
  have k0 : (0 : Int) ≤ (k : Int) := by omega
  have k1 : (k : Int) < (n : Int) := by omega
  clear hi hk hvp hid hD hN hok hr
  go_enter Try.func42, Try.ntmps42
  go_wp2_with fail
  refine wp_region_grow (by kernel_rfl) (by kernel_rfl) ?_
  repeat (go_big_quiet_step (first | (go_at_call 64; exact grow_of (pondAt_is _ _ _ _ _ _ _ HC.out HN.out (HR1.out.ext (ext_gw _ _)) (by first | with_reducible exact HJ.out | with_reducible exact HK.out)))))
  refine wpQuiet_nil ?_
  rintro _ ⟨xq, rfl⟩
  go_upto_region 4 with (go_at_call 18; refine (arePonds_any _ _ _ _ _ HC.out HN.out (HR1.out.ext (ext_gw _ _))).mono ?_; rintro e w1 ⟨rfl, hx⟩; (try replace hx := Ext.flat hx); obtain ⟨x, rfl⟩ := hx.to_gw; clear hx)
  clear hv HR1 HJ HK
  go_cut [10] from 34 (fun s10 wx => ∃ b1 G, s10 = .pointer (some ⟨b1, 0, none⟩) ∧ ChW w A n c w.heap.size b1 G wx.heap.size (fun _ => -1) wx)
  case first =>
    have hmk : ∀ W, (Instr.makeSlice 35 (.int .i64 (n : Int)) (.int .i64 (n : Int))).run Try.prog W = .ok (.slice (some ⟨W.heap.size, 0, none⟩) n n) (W.alloc (.cells (madeCells (Value.cells (.int .i64 0)) (n * 1)) 3)) := fun W => run_make_S elInt n (by omega) W
    go_wp2
    go_meet
    case rel =>
      refine ⟨_, (gw (w.alloc (.cells #[.slice A n c] 25)) x).heap.size, rfl, ?_⟩
      have h1 := ChW.new (w0 := w) (W := gw (w.alloc (.cells #[.slice A n c] 25)) x) (A := A) (n := n) (c := c) (b0 := w.heap.size) 35 (by repeat (with_reducible first | exact Ext.refl _ | refine Ext.setCell ?_ (by first | (simp; done) | (simp; omega)) _ | refine Ext.alloc ?_ _ | refine Ext.gw ?_ _ | refine Ext.drew ?_)) (gw_lt _ _ _ (by simp)) ((gw_cell _ _ _ (by simp)).trans (by simp [go_sem])) (by omega)
      simpa using h1
  case rest =>
    obtain ⟨b1, G, rfl, hch⟩ := hcut
    obtain ⟨B, hB⟩ : ∃ B, wc.heap.size = B := ⟨_, rfl⟩
    rw [hB] at hch
    have HB := Lib.hid (Nat.le_of_eq hB.symm)
    clear hB
    have HCH := Lib.hid hch
    obtain ⟨z0, z1, z2, e0, e1⟩ := hch.cells
    obtain ⟨f0, fr0⟩ := hch.at hkn
    clear hch
    go_wp2
    clear e0 e1 f0 fr0 z0 z1 z2
    have hch : ChW w A n c w.heap.size b1 G B (fun t => if t = k then 0 else -1) ((wc.setCell ⟨G, k, none⟩ (.int .i64 1)).alloc (.cells #[.int .i64 (k : Int)] 3)) := (HCH.out.set hkn 0 1 rfl).ext (Ext.alloc (Ext.refl _) _)
    have hq : QOn ((wc.setCell ⟨G, k, none⟩ (.int .i64 1)).alloc (.cells #[.int .i64 (k : Int)] 3)) B (.slice (some ⟨wc.heap.size, 0, none⟩) 1 1) ([k].map fun (x : Nat) => (x : Int)) := by
      have h1 : (wc.setCell ⟨G, k, none⟩ (.int .i64 1)).heap.size = wc.heap.size := by simp
      have h2 := QOn.one (wc.setCell ⟨G, k, none⟩ (.int .i64 1)) (k : Int) 3 B (by rw [h1]; exact HB.out)
      rw [h1] at h2
      exact h2
    have hGB : G < B := HCH.out.2.2.2.2.1
    clear HCH HB
    have hu0 := unk_le (fun t => if t = k then (0 : Int) else -1) n
    have HSM := Lib.hid (show unk (fun t => if t = k then (0 : Int) else -1) n + 1 ≤ 100 by omega)
    clear hu0
    go_loopg [11] (unk (fun t => if t = k then (0 : Int) else -1) n + 1) (fun μ s11 wr => ∃ (f : Nat → Int) (q : List Nat), Hid (μ = unk f n + q.length ∧ μ ≤ 100) ∧ ChW w A n c w.heap.size b1 G B f wr ∧ QOn wr B s11 (q.map fun (x : Nat) => (x : Int)) ∧ Que n (adjM m) k f q)
    case atStart => exact ⟨_, [k], Lib.hid ⟨rfl, HSM.out⟩, hch, hq, Que.start hkn (if_pos rfl) (fun i _ hne => if_neg hne)⟩
    case round =>
      clear hch hq HSM
      obtain ⟨f, q, hμ, hch, hq, hQ⟩ := hrel
      cases q with
      | nil =>
        have hF := hQ.far
        have hfD : ∀ t, t < n → f t = D t := fun t ht => by rw [← HDD.out]; exact hF.eq hF.is t ht
        have hFD : Far n (adjM m) k D := by have := hF.is; rw [HDD.out] at this; exact this
        obtain ⟨gq, oq, cq, rfl⟩ := hq.none
        obtain ⟨z0, z1, z2, e0, e1⟩ := hch.cells
        have e2 := (hch.at hin).1
        rw [hfD i hin] at e2
        have hlo := hFD.lo i hin
        have hhi := hFD.near.lt hin
        have HX := Lib.hid hch.1
        have hsz := hch.1.size_le
        have hr := HR.out.ext hch.1
        have HDB : Hid (∀ t, t < n → -1 ≤ D t ∧ D t < (n : Int)) := Lib.hid fun t ht => ⟨hFD.lo t ht, hFD.near.lt ht⟩
        have HDT : Hid (∀ t, t < n → wr.cell? ⟨G, t, none⟩ = some (.int .i64 (D t + 1))) := Lib.hid fun t ht => by rw [← hfD t ht]; exact (hch.at ht).1
        have HFD := Lib.hid hFD
        clear hF hfD hFD hQ hq hch hμ
        by_cases h0 : 0 ≤ D i
        · obtain ⟨d, hd⟩ : ∃ d : Nat, D i = (d : Int) := ⟨(D i).toNat, by omega⟩
          have HD := Lib.hid hd
          rw [hd] at e2
          have HOK2 := Lib.hid (show ok = true by rw [← HOK.out]; exact decide_eq_true h0)
          have q0 : ((d : Int) + 1 == 0) = false := by rw [beq_eq_false_iff_ne]; omega
          have dn : d < n := by omega
          clear hlo hhi hd h0
          obtain ⟨g, off, rfl, hg, c0, c1, c2, c3, c4, c5⟩ := hr.atPond hin
          go_wp2
          clear c0 c1 c2 c3 c4 c5 e2
          go_loopg [15, 16] d (fun μ s15 s16 wx => ∃ (t u b3 : Nat), s16 = .pointer (some ⟨b3, 0, none⟩) ∧ Hid (μ + t = d) ∧ u < n ∧ Hid (u = wayN n (adjM m) D i t) ∧ wr.heap.size ≤ b3 ∧ b3 < wx.heap.size ∧ wx.cell? ⟨b3, 0, none⟩ = some (.int .i64 u) ∧ wx.frozen? ⟨b3, 0, none⟩ = false ∧ OwnS wx wr.heap.size 3 1 s15 (t + 1) (mk1 fun t => (m (wayN n (adjM m) D i t)).id) ∧ s15.ownBlock ≠ some b3 ∧ ∃ y, wx = gw wr y)
          case atStart =>
            exact ⟨0, i, wr.heap.size + 1, rfl, Lib.hid (by omega), hin, Lib.hid rfl, by omega, by simp, by simp [go_sem], by simp [go_sem], OwnS.ext (own_one wr _ _ (Nat.le_refl _) rfl) ((Ext.refl _).alloc _), by simp [Value.ownBlock], (((Ext.refl _).alloc _).alloc _).to_gw⟩
          case round =>
            obtain ⟨t, u, b3, rfl, hμ, hun, HU, hb3, hb3w, e3, fr3, hown, hne, y, rfl⟩ := hrel
            have htd : t ≤ d := by have := hμ.out; omega
            have HDU : Hid (D u = (d : Int) - t) := Lib.hid (by rw [HU.out, (HFD.out.way (adjM_comm m) hin t (by rw [HD.out]; omega)).2, HD.out])
            have u0 : (0 : Int) ≤ (u : Int) := by omega
            have u1 : (u : Int) < (n : Int) := by omega
            by_cases hlt : t < d
            · have huk : u ≠ k := fun hh => by
                have h1 := (HFD.out.zero u hun).2 hh
                have h2 := HDU.out
                omega
              have q1 : ((u : Int) != (k : Int)) = true := by rw [bne_iff_ne]; omega
              have q2 : (u != k) = true := by rw [bne_iff_ne]; exact huk
              have HST := Lib.hid (HFD.out.step (adjM_comm m) hun (by have := HDU.out; omega))
              obtain ⟨j, hj⟩ : ∃ j, firstP (goB (adjM m) D u) n = j := ⟨_, rfl⟩
              have hjn : j < n := by rw [← hj]; exact HST.out.1
              have HJ := Lib.hid hj
              have HWN : Hid (j = wayN n (adjM m) D i (t + 1)) := Lib.hid (by rw [← hj, HU.out]; rfl)
              have HLAST := Lib.hid (show (m j).id = (m (wayN n (adjM m) D i (t + 1))).id by rw [HWN.out])
              have hway : WayW (some ⟨g, off, none⟩) n c w.heap.size b1 b3 G u m D (gw wr y) :=
                ⟨gw_lt _ _ _ z0, gw_lt _ _ _ z1, hb3w, gw_lt _ _ _ z2, (gw_cell _ _ _ z0).trans e0, (gw_cell _ _ _ z1).trans e1, e3, fun t ht => (gw_cell _ _ ⟨G, t, none⟩ z2).trans (HDT.out t ht), hr.ext (ext_gw _ _)⟩
              have HWAY := Lib.hid hway
              clear hj huk hway
              go_wp2_with fail
              refine (indexFuncWay_any _ n c w.heap.size b1 b3 G u m D _ HC.out HN.out HV.out hun HDB.out HWAY.out j HJ.out hjn).mono ?_
              rintro e w3 ⟨rfl, hx3⟩
              have e4 := (hx3.cell (p := ⟨b3, 0, none⟩) hb3w).trans e3
              have fr4 := (hx3.frozen (p := ⟨b3, 0, none⟩) hb3w).trans fr3
              have hxw : Ext wr w3 := (ext_gw wr y).trans hx3
              have e5 := (hxw.cell (p := ⟨w.heap.size, 0, none⟩) z0).trans e0
              obtain ⟨g', off', hA', hg', d0, _, _, _, _, _⟩ := (hr.ext hxw).atPond hjn
              injection hA' with hA'
              injection hA' with e1' e2' _
              subst e1' e2'
              have hb4 : b3 < w3.heap.size := Nat.lt_of_lt_of_le hb3w hx3.size_le
              have j0 : (0 : Int) ≤ (j : Int) := by omega
              have j1 : (j : Int) < (n : Int) := by omega
              have n0 : w.heap.size ≠ b3 := by omega
              have n1 : g ≠ b3 := by omega
              have n0' : b3 ≠ w.heap.size := by omega
              have n1' : b3 ≠ g := by omega
              have hown4 : OwnS (w3.setCell ⟨b3, 0, none⟩ (.int .i64 (j : Int))) wr.heap.size 3 1 u15 (t + 1) (mk1 fun t => (m (wayN n (adjM m) D i t)).id) := (hown.ext hx3).kept (grownBy_set w3 ⟨b3, 0, none⟩ _) (.inr hne)
              have HE4 : Hid (Ext wr (w3.setCell ⟨b3, 0, none⟩ (.int .i64 (j : Int)))) := Lib.hid (hxw.setCell hb3 _)
              have HC4 : Hid ((w3.setCell ⟨b3, 0, none⟩ (.int .i64 (j : Int))).cell? ⟨b3, 0, none⟩ = some (.int .i64 (j : Int))) := Lib.hid (World.cell?_setCell_same _ _ _ e4)
              clear hown hx3 hxw e3 fr3 HST
              dsimp only
              go_wp2_with (at_builtin; refine wpList_append_K2 w3.heap.size (by simp) wr wr.heap.size rfl HE4.out (by rfl) _ _ elInt (by rfl) (by rfl) hown4 _ _ (by rfl) (by rfl) (by omega) ?_ ?_ b3 hb4 hne ?_)
              · exact congrArg (Value.int .i64) HLAST.out
              · rfl
              · intro v' y' hown5 hkeep
                have e6 := (hkeep.out.2 0).trans HC4.out
                have hb6 := hkeep.out.1
                have fz := Ext.size_le (ext_gw wr y')
                clear hown4 hkeep e4 fr4 e5 d0 hne
                go_wp2
                go_roundg (gk - 1)
                case rel =>
                  exact ⟨t + 1, j, (gw wr y').heap.size, rfl, Lib.hid (by have := hμ.out; omega), hjn, HWN, fz, by simp, by simp [go_sem], by simp [go_sem], hown5.ext ((Ext.refl _).alloc _), fun hh => by have := (hown5.block _ hh).2; omega, ((ext_gw wr y').alloc _).to_gw⟩
                case measure =>
                  have := hμ.out
                  omega
            · obtain rfl : t = d := by omega
              obtain rfl : u = k := (HFD.out.zero u hun).1 (by have := HDU.out; omega)
              clear hne fr3
              go_wp2
              go_ret2
              have h2 := HNN.out
              rw [HOK2.out, if_pos rfl, HD.out, Int.toNat_natCast] at h2
              rw [HOK2.out, h2]
              exact ⟨_, rfl, hown.lower hsz, HX.out.gw _⟩
        · have h1 : D i = -1 := by omega
          have HOK2 := Lib.hid (show ok = false by rw [← HOK.out]; exact decide_eq_false h0)
          rw [show D i + 1 = 0 by omega] at e2
          clear hlo hhi h0 h1
          go_wp2
          go_ret2
          have h2 := HNN.out
          rw [HOK2.out, if_neg (by simp)] at h2
          rw [HOK2.out, h2]
          exact ⟨_, rfl, OwnS.nil, HX.out⟩
      | cons x r =>
        have hQ1 := hQ.take
        obtain ⟨gq, oq, cq, L, rfl, hgq, hLc, hcm, hcell, hqt⟩ := hq.open
        have HQT := Lib.hid hqt
        have HCH := Lib.hid hch
        clear hqt hq hQ
        have L0 : (0 : Int) < (L : Int) + 1 := by omega
        have L1 : (1 : Int) ≤ (L : Int) + 1 := by omega
        go_upto_region 9 with fail
        go_cut [11] from 42 to 83 (fun s11 wx => ChW w A n c w.heap.size b1 G B f wx ∧ QOn wx B s11 (r.map fun (x : Nat) => (x : Int)))
        case first =>
          by_cases hc1 : cq = 1
          · subst hc1
            go_wp2
            go_meet
            case rel =>
              have h1 := HQT.out
              first | rw [if_pos rfl] at h1 | rw [if_pos trivial] at h1
              obtain rfl : L = 0 := by omega
              exact ⟨HCH.out, h1⟩
          · go_wp2
            go_meet
            case rel =>
              have h1 := HQT.out
              rw [if_neg hc1] at h1
              exact ⟨HCH.out, h1⟩
        case rest =>
          clear hch HCH HQT hcell hgq hLc hcm L0 L1
          obtain ⟨hch, hq⟩ := hcut
          obtain ⟨z0, z1, z2, e0, e1⟩ := hch.cells
          obtain ⟨M, hM⟩ : ∃ M, unk f n + r.length = M := ⟨_, rfl⟩
          have HM1 := Lib.hid (show M < gk ∧ M ≤ 100 by have := hμ.out; rw [List.length_cons] at this; omega)
          have HM := Lib.hid hM
          clear hM hμ
          go_wp2
          go_loopw [11, 52] (fun s11 s52 wr => ∃ (p : Nat) (f : Nat → Int) (q : List Nat), s52 = .int .i64 p ∧ p ≤ n ∧ Hid (unk f n + q.length = M) ∧ ChW w A n c w.heap.size b1 G B f wr ∧ QOn wr B s11 (q.map fun (x : Nat) => (x : Int)) ∧ Qin n (adjM m) k x p f q) (fun _ s52 _ => n - (intOf s52).toNat)
          case atStart => exact ⟨0, f, r, rfl, Nat.zero_le _, HM, hch, hq, hQ1⟩
          case round =>
            clear hch hq hQ1 z0 z1 z2 e0 e1 HM
            obtain ⟨p, f, q, rfl, hpn, HM, hch, hq, hQ⟩ := hrel
            by_cases hlt : p < n
            · obtain ⟨z0, z1, z2, e0, e1⟩ := hch.cells
              obtain ⟨f0, fr0⟩ := hch.at hlt
              obtain ⟨f1, _⟩ := hch.at hQ.an
              have hxn := hQ.an
              have hr := HR.out.ext hch.1
              obtain ⟨g, off, rfl, hg, c0, c1, c2, c3, c4, c5⟩ := hr.atPond hlt
              obtain ⟨g', off', hA', hg', d0, d1, d2, d3, d4, d5⟩ := hr.atPond hxn
              injection hA' with hA'
              injection hA' with e1' e2' _
              subst e1' e2'
              have H1 := Lib.hid (small_at HV.out hlt)
              have H2 := Lib.hid (small_at HV.out hxn)
              have p0 : (0 : Int) ≤ (p : Int) := by omega
              have p1 : (p : Int) < (n : Int) := by omega
              have x0 : (0 : Int) ≤ (x : Int) := by omega
              have x1 : (x : Int) < (n : Int) := by omega
              have a0 := hQ.a0
              have a1 := hQ.near.lt hxn
              have HQL := Lib.hid (show (q.map fun (x : Nat) => (x : Int)).length < 1000000 by have := HM.out; have := HM1.out; rw [List.length_map]; omega)
              have HCH := Lib.hid hch
              have HQN := Lib.hid hq
              by_cases hfi : f p < 0
              · have hf1 : f p = -1 := by have := hQ.lo p hlt; omega
                rw [show f p + 1 = 0 by omega] at f0
                by_cases hbk : 0 < bankV (m p) (m x)
                · have HQ2 := Lib.hid (hQ.mark hlt hfi (adjM_comm m p x hbk))
                  have HU := Lib.hid (unk_mark f n p (f x + 1) hlt hfi (by omega))
                  clear hch hq hQ hr hf1 hfi
                  go_wp2_with fail
                  refine wp_region_grow (by kernel_rfl) (by kernel_rfl) ?_
                  repeat (go_big_quiet_step (first | (go_at_call 66; exact grow_of (bank_any (m p) (m x) _ H1.out H2.out))))
                  refine wpQuiet_nil ?_
                  rintro _ ⟨xp, rfl⟩
                  go_wp2_with fail
                  refine wp_region_grow_tail 8 (by kernel_rfl) (by kernel_rfl) ?_
                  simp only [List.take_succ_cons, List.take_zero, List.drop_succ_cons, List.drop_zero]
                  repeat (go_big_quiet_step (fail))
                  refine wpQuiet_nil ?_
                  rintro _ ⟨xq, rfl⟩
                  have hx3 : Ext wr (gw (gw (wr.alloc (.cells #[.int .i64 (m p).id, .int .i64 (m p).left, .int .i64 (m p).top, .int .i64 (m p).wide, .int .i64 (m p).high, .int .i64 (m p).depth] 51)) xp) xq) := (((Ext.refl wr).alloc _).gw _).gw _
                  have hq3 := (HQN.out.ext hx3).far (i := p) hGB (.int .i64 (f x + 1 + 1))
                  have HC3 := Lib.hid ((HCH.out.ext hx3).set hlt (f x + 1) (f x + 1 + 1) rfl)
                  clear hx3
                  go_wp2_with (at_builtin; refine wpList_append_Q2 (gw (gw (wr.alloc (.cells #[.int .i64 (m p).id, .int .i64 (m p).left, .int .i64 (m p).top, .int .i64 (m p).wide, .int .i64 (m p).high, .int .i64 (m p).depth] 51)) xp) xq).heap.size (by simp) rfl _ _ elInt rfl rfl hq3 _ _ rfl HQL.out ?_)
                  intro v' w' hq4 gg hg4a hg4b
                  clear hq3
                  go_wp2
                  go_roundw
                  case rel => exact ⟨p + 1, _, q ++ [p], by go_num, by omega, Lib.hid (by have := HM.out; have := HU.out; rw [List.length_append, List.length_singleton]; omega), HC3.out.grow ⟨gg, hg4a, hg4b⟩, by rw [List.map_append]; exact hq4, HQ2.out⟩
                  case measure => simp [intOf]; omega
                · have HQ2 := Lib.hid (hQ.keep (.inr (fun h => hbk (adjM_comm m x p h))))
                  have q3 : bankV (m p) (m x) ≤ 0 := by omega
                  clear hch hq hQ hr hf1 hfi hbk
                  go_wp2_with fail
                  refine wp_region_grow (by kernel_rfl) (by kernel_rfl) ?_
                  repeat (go_big_quiet_step (first | (go_at_call 66; exact grow_of (bank_any (m p) (m x) _ H1.out H2.out))))
                  refine wpQuiet_nil ?_
                  rintro _ ⟨xq, rfl⟩
                  have hx3 : Ext wr (gw (wr.alloc (.cells #[.int .i64 (m p).id, .int .i64 (m p).left, .int .i64 (m p).top, .int .i64 (m p).wide, .int .i64 (m p).high, .int .i64 (m p).depth] 51)) xq) := ((Ext.refl wr).alloc _).gw _
                  go_wp2
                  go_roundw
                  case rel => exact ⟨p + 1, f, q, by go_num, by omega, HM, HCH.out.ext hx3, HQN.out.ext hx3, HQ2.out⟩
                  case measure => simp [intOf]; omega
              · have HQ2 := Lib.hid (hQ.keep (.inl (show 0 ≤ f p by omega)))
                have q3 : (f p + 1 == 0) = false := by rw [beq_eq_false_iff_ne]; omega
                clear hch hq hQ hr hfi
                go_wp2_with fail
                refine wp_region_grow (by kernel_rfl) (by kernel_rfl) ?_
                repeat (go_big_quiet_step (fail))
                refine wpQuiet_nil ?_
                rintro _ ⟨xq, rfl⟩
                have hx3 : Ext wr (gw (wr.alloc (.cells #[.int .i64 (m p).id, .int .i64 (m p).left, .int .i64 (m p).top, .int .i64 (m p).wide, .int .i64 (m p).high, .int .i64 (m p).depth] 51)) xq) := ((Ext.refl wr).alloc _).gw _
                go_wp2
                go_roundw
                case rel => exact ⟨p + 1, f, q, by go_num, by omega, HM, HCH.out.ext hx3, HQN.out.ext hx3, HQ2.out⟩
                case measure => simp [intOf]; omega
            · obtain rfl : p = n := by omega
              have HCH := Lib.hid hch
              have HQN := Lib.hid hq
              have HQ2 := Lib.hid hQ.shut
              clear hch hq hQ
              go_wp2
              go_roundg M
              case rel => exact ⟨f, q, Lib.hid ⟨HM.out.symm, HM1.out.2⟩, HCH.out, HQN.out, HQ2.out⟩
              case measure => exact HM1.out.1
end Go.Proofs.Ytkgnfmdeimaedaa
