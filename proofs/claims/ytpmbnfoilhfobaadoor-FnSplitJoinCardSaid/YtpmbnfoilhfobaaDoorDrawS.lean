/- Drawings of texts and of lists of texts. -/
import Derived.Test.YtpmbnfoilhfobaaDoorCur
import Derived.Test.YtpmbnfoilhfobaaDoorPieces
import Derived.Test.YtpmbnfoilhfobaaDoorNum
import Derived.Laws.IdiomStrings
namespace Go.Proofs.YtpmbnfoilhfobaaDoor
open Go.RowKit
set_option linter.unusedVariables false

/-- A call of one of the cursor's methods: a text of at most k bytes; the cursor goes on. -/
def CurRetT (w0 w : World) (b m k : Nat) (e : Ending) (w' : World) : Prop :=
  ∃ x : ByteArray, e = .returned (.string x) ∧ x.size ≤ k ∧ Cur w0 w' b m ∧ w.grownBy w' (some b)
set_option maxHeartbeats 1000000 in
theorem of_any (w0 w : World) (b m : Nat) (l : List ByteArray) (k : Nat) (g : Nat) (n c : Nat) (h : Cur w0 w b m) (hm : m ≤ 100000000000) (hn : n = l.length) (h0 : 0 < n) (h1 : n ≤ 1000000) (hl : ∀ x, x ∈ l → x.size ≤ k) (hg : g < w.heap.size) (hgb : g ≠ b)
    (hc : ∀ (i : Nat) x, l[i]? = some x → w.cell? ⟨g, i, none⟩ = some (.string x)) :
    Calls Tryd.prog 59 #[.pointer (some ⟨b, 0, none⟩), .slice (some ⟨g, 0, none⟩) n c] w (CurRetT w0 w b (m + 2) k) := by
  have HL := Lib.hid hl
  have HC := Lib.hid hc
  have HN := Lib.hid hn
  clear hl hc hn
  go_enter Tryd.func59, Tryd.ntmps59
  go_wp2_with fail
  refine (pick_any w0 _ b m (n : Int) h hm (by omega) (by omega)).mono ?_
  rintro e w1 ⟨y, rfl, y0, y1, hcu, hgr⟩
  obtain ⟨i, rfl⟩ : ∃ i : Nat, y = (i : Int) := ⟨y.toNat, by omega⟩
  have hi : i < l.length := by have := HN.out; omega
  have d0 := hgr.cell (HC.out i _ (List.getElem?_eq_getElem hi)) (fun h => hgb (Option.some.inj h))
  have HB := Lib.hid (HL.out _ (List.getElem_mem hi))
  generalize l[i] = x at *
  have i1 : (i : Int) < (n : Int) := by omega
  have hgw := Nat.lt_of_lt_of_le hg hgr.size
  go_wp2_with fail
  go_ret
  exact ⟨x, rfl, HB.out, hcu, hgr⟩
theorem of_lit (w0 w : World) (b m : Nat) (l : List ByteArray) (k : Nat) {t : TypeId} {g n c : Nat} {cs : Array Value} (h : Cur w0 w b m) (hg : g = w.heap.size) (hcs : (l.map Value.string).toArray = cs) (hn : n = l.length) (hm : m ≤ 100000000000) (h0 : 0 < n) (h1 : n ≤ 1000000) (hl : (l.all fun x => decide (x.size ≤ k)) = true) :
    Calls Tryd.prog 59 #[.pointer (some ⟨b, 0, none⟩), .slice (some ⟨g, 0, none⟩) n c] (w.alloc (.cells cs t)) (CurRetT w0 w b (m + 2) k) := by
  subst hg hcs
  have hx := Ext.alloc (Ext.refl w) (Obj.cells (l.map Value.string).toArray t)
  refine (of_any w0 _ b m l k w.heap.size n c (h.ext hx) hm hn h0 h1 (fun x hx => of_decide_eq_true (List.all_eq_true.1 hl x hx)) (by simp) (by have := h.lt.2; omega) (fun i x hi => by
    simp [go_sem, hi])).mono ?_
  rintro e w' ⟨x, r1, r2, r3, r4⟩
  exact ⟨x, r1, r2, r3, grownBy_trans (grownBy_ext hx _) r4⟩
theorem any1_any (w0 w : World) (b m : Nat) (h : Cur w0 w b m) (hm : m ≤ 100000000000) : Calls Tryd.prog 60 #[.pointer (some ⟨b, 0, none⟩)] w (CurRetT w0 w b (m + 2) 10) := by
  go_enter Tryd.func60, Tryd.ntmps60
  go_wp2_with fail
  refine (of_lit w0 _ b m [⟨#[]⟩, ⟨#[97]⟩, ⟨#[97, 44, 98]⟩, ⟨#[115, 111, 109, 101, 32, 119, 111, 114, 100, 115]⟩, ⟨#[120, 35, 121]⟩, ⟨#[45, 49, 50]⟩, ⟨#[0, 255]⟩, ⟨#[44, 44]⟩, ⟨#[48]⟩] 10 h rfl rfl rfl hm (by decide) (by decide) (by decide)).mono ?_
  rintro e w1 ⟨x, rfl, hs, hcu, hg⟩
  go_wp2_with fail
  go_ret
  exact ⟨x, rfl, hs, hcu, hg⟩
theorem elByte : ElemOk Tryd.prog 30 5 (.int .u8 0) 1 1 := ⟨Tryd.underlying30, info_parts (by kernel_rfl), rfl, by decide, by decide⟩
/-- 'string(make([]byte, N))': a text of N bytes, laid as two equations. -/
theorem zero_text (N : Nat) (hN : N ≤ 1000000) : ∃ (Z : Array Value) (x : ByteArray), x.size = N ∧
    (∀ W : World, (Instr.makeSlice 30 (.int .i64 (N : Int)) (.int .i64 (N : Int))).run Tryd.prog W = .ok (.slice (some ⟨W.heap.size, 0, none⟩) N N) (W.alloc (.cells Z 5))) ∧
    (∀ W : World, (convert 30 9 (.slice (some ⟨W.heap.size, 0, none⟩) N N)).run Tryd.prog (W.alloc (.cells Z 5)) = .ok (.string x) (W.alloc (.cells Z 5))) := by
  refine ⟨madeCells (Value.cells (.int .u8 0)) (N * 1), ⟨(List.replicate N (0 : UInt8)).toArray⟩, ?_, fun W => run_make_S elByte N (by omega) W, fun W => ?_⟩
  · show (List.replicate N (0 : UInt8)).toArray.size = N
    simp
  · have hl : (List.replicate N (0 : UInt8)).length = N := List.length_replicate
    have h := run_convert_bytes_back (P := Tryd.prog) (W.alloc (.cells (madeCells (Value.cells (.int .u8 0)) (N * 1)) 5)) 30 9 5 ⟨W.heap.size, 0, none⟩ N (List.replicate N (0 : UInt8)) Tryd.underlying30 Tryd.underlying5 Tryd.underlying9 (fun j hj => by
      rw [hl] at hj
      have e1 : (⟨W.heap.size, 0, none⟩ : Addr).add j = ⟨W.heap.size, j, none⟩ := by unfold Addr.add; split <;> simp_all
      rw [e1, World.cell?_alloc_new, List.getElem_replicate]
      simp only [madeCells, Array.getElem?_map, Array.getElem?_range, Nat.mul_one, hj, if_true, Option.map_some]
      simp [Value.cells, Nat.mod_one])
    rw [hl] at h
    exact h
def DrawnSS (w : World) (e : Ending) (w' : World) : Prop := ∃ s p : ByteArray, e = .returned (.tuple #[.string s, .string p]) ∧ s.size ≤ 10 ∧ p.size ≤ 10 ∧ Ext w w'
def DrawnT (w : World) (k : Nat) (e : Ending) (w' : World) : Prop := ∃ s : ByteArray, e = .returned (.string s) ∧ s.size ≤ k ∧ Ext w w'
def DrawnI (w : World) (lo hi : Int) (e : Ending) (w' : World) : Prop := ∃ x : Int, e = .returned (.int .i64 x) ∧ lo ≤ x ∧ x ≤ hi ∧ Ext w w'
theorem drawSplit_any (w : World) (A : Option Addr) (n c : Nat) (h : Code w A n) : Calls Tryd.prog 36 #[.slice A n c] w (DrawnSS w) := by
  have HC := Lib.hid h
  clear h
  go_enter Tryd.func36, Tryd.ntmps36
  go_wp2_with fail
  refine (any1_any w _ w.heap.size 0 (cur_new HC.out (Ext.refl w) c _ rfl) (by omega)).mono ?_
  rintro e w1 ⟨s, rfl, hs, hcu, hg⟩
  go_wp2_with fail
  refine (of_lit w _ w.heap.size (0 + 2) [⟨#[44]⟩, ⟨#[44]⟩, ⟨#[32]⟩, ⟨#[]⟩, ⟨#[44, 44]⟩] 2 hcu rfl rfl rfl (by omega) (by decide) (by decide) (by decide)).mono ?_
  rintro e w2 ⟨p, rfl, hp, hcu2, hg2⟩
  go_wp2_with fail
  go_ret2
  exact ⟨s, p, rfl, hs, by omega, hcu2.base⟩
theorem drawLess_any (w : World) (A : Option Addr) (n c : Nat) (h : Code w A n) : Calls Tryd.prog 40 #[.slice A n c] w (DrawnSS w) := by
  have HC := Lib.hid h
  clear h
  go_enter Tryd.func40, Tryd.ntmps40
  go_wp2_with fail
  refine (any1_any w _ w.heap.size 0 (cur_new HC.out (Ext.refl w) c _ rfl) (by omega)).mono ?_
  rintro e w1 ⟨s, rfl, hs, hcu, hg⟩
  go_wp2_with fail
  refine (any1_any w _ w.heap.size (0 + 2) hcu (by omega)).mono ?_
  rintro e w2 ⟨p, rfl, hp, hcu2, hg2⟩
  go_wp2_with fail
  go_ret2
  exact ⟨s, p, rfl, hs, hp, hcu2.base⟩
theorem drawFormat_any (w : World) (A : Option Addr) (n c : Nat) (h : Code w A n) : Calls Tryd.prog 18 #[.slice A n c] w (DrawnI w (-1000000) 1000000) := by
  have HC := Lib.hid h
  clear h
  go_enter Tryd.func18, Tryd.ntmps18
  go_wp2_with fail
  refine (pick_any w _ w.heap.size 0 1000 (cur_new HC.out (Ext.refl w) c _ rfl) (by omega) (by omega) (by omega)).mono ?_
  rintro e w1 ⟨y, rfl, y0, y1, hcu, hg⟩
  go_wp2_with fail
  refine (among_lit w _ w.heap.size (0 + 2) [0, 1, -1, 10, 999999, -999999, 1000000, -1000000, y - 500] (-1000000) 1000000 hcu rfl rfl rfl (by omega) (by simp) (by simp) (by intro x hx; simp only [List.mem_cons, List.not_mem_nil, or_false] at hx; omega)).mono ?_
  rintro e w2 ⟨x, rfl, x0, x1, hcu2, hg2⟩
  go_wp2_with fail
  go_ret
  exact ⟨x, rfl, x0, x1, hcu2.base⟩
theorem drawParse_any (w : World) (A : Option Addr) (n c : Nat) (h : Code w A n) : Calls Tryd.prog 21 #[.slice A n c] w (DrawnT w 25) := by
  have HC := Lib.hid h
  clear h
  go_enter Tryd.func21, Tryd.ntmps21
  go_wp2_with fail
  refine (one_any w _ w.heap.size 0 2 (cur_new HC.out (Ext.refl w) c _ rfl) (by omega) (by omega) (by omega)).mono ?_
  rintro e w1 ⟨y, rfl, hcu, hg⟩
  dsimp only
  cases y
  · go_wp2_with fail
    refine (pick_any w _ w.heap.size (0 + 2) 2000 hcu (by omega) (by omega) (by omega)).mono ?_
    rintro e w2 ⟨x, rfl, x0, x1, hcu2, hg2⟩
    go_wp2_with fail
    refine (l1Num_any (x - 1000) _ (by omega) (by omega)).mono ?_
    rintro e w3 ⟨rfl, hx3⟩
    have hz := iB_size (n := x - 1000) (by omega) (by omega)
    go_wp2_with fail
    go_ret
    exact ⟨_, rfl, by omega, hcu2.base.trans hx3⟩
  · go_wp2_with fail
    refine (of_lit w _ w.heap.size (0 + 2) [⟨#[]⟩, ⟨#[45]⟩, ⟨#[45, 48]⟩, ⟨#[48, 48]⟩, ⟨#[48, 49]⟩, ⟨#[45, 45, 49]⟩, ⟨#[49, 120]⟩, ⟨#[57, 57, 57, 57, 57, 57]⟩, ⟨#[49, 48, 48, 48, 48, 48, 48]⟩, ⟨#[45, 57, 57, 57, 57, 57, 57]⟩, ⟨#[49, 56, 52, 52, 54, 55, 52, 52, 48, 55, 51, 55, 48, 57, 53, 53, 49, 54, 49, 55]⟩] 20 hcu rfl rfl rfl (by omega) (by decide) (by decide) (by decide)).mono ?_
    rintro e w2 ⟨p, rfl, hp, hcu2, hg2⟩
    go_wp2_with fail
    go_ret
    exact ⟨p, rfl, by omega, hcu2.base⟩
theorem drawApp_any (w : World) (A : Option Addr) (n c : Nat) (h : Code w A n) : Calls Tryd.prog 22 #[.slice A n c] w (DrawnT w 4000) := by
  have HC := Lib.hid h
  clear h
  go_enter Tryd.func22, Tryd.ntmps22
  go_wp2_with fail
  refine (one_any w _ w.heap.size 0 20 (cur_new HC.out (Ext.refl w) c _ rfl) (by omega) (by omega) (by omega)).mono ?_
  rintro e w1 ⟨y, rfl, hcu, hg⟩
  dsimp only
  cases y
  · go_wp2_with fail
    refine (any1_any w _ w.heap.size (0 + 2) hcu (by omega)).mono ?_
    rintro e w2 ⟨p, rfl, hp, hcu2, hg2⟩
    go_wp2_with fail
    go_ret
    exact ⟨p, rfl, by omega, hcu2.base⟩
  · go_wp2_with fail
    refine (pick_any w _ w.heap.size (0 + 2) 10 hcu (by omega) (by omega) (by omega)).mono ?_
    rintro e w2 ⟨x, rfl, x0, x1, hcu2, hg2⟩
    obtain ⟨N, hN⟩ : ∃ N : Nat, 3990 + x = (N : Int) := ⟨(3990 + x).toNat, by omega⟩
    obtain ⟨Z, q, hq, hmk, hcv⟩ := zero_text N (by omega)
    have hN2 : N ≤ 4000 := by omega
    have HQ := Lib.hid hq
    clear hq
    go_wp2_with fail
    go_ret
    exact ⟨q, rfl, by rw [HQ.out]; exact hN2, hcu2.base.alloc _⟩
end Go.Proofs.YtpmbnfoilhfobaaDoor
