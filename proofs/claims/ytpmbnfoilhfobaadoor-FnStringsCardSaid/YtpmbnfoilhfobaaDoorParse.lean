/- ParseInt: the program's contract and the walk of the law. -/
import Derived.Test.YtpmbnfoilhfobaaDoorRead
import Derived.Test.YtpmbnfoilhfobaaDoorTab
import Derived.Test.YtpmbnfoilhfobaaDoorShAtoi
import Derived.Lib.AtoiErrMem
import Derived.Lib.AtoiAllCases
namespace Go.Proofs.YtpmbnfoilhfobaaDoor
open Go.RowKit
set_option linter.unusedVariables false

/-- The variable holds an error. -/
def ErrW (n : String) (w : World) : Prop := ∃ tp p, w.var? Tryd.prog n = some #[.iface tp p]
theorem ErrW.ext {n : String} {w w' : World} (h : ErrW n w) (hx : Ext w w') : ErrW n w' := by
  obtain ⟨tp, p, h⟩ := h
  exact ⟨tp, p, var_ext h hx⟩
theorem atoi_ok (s : ByteArray) (v : Int) (w : World) (hm : s.size ≤ 1048576) (h : Lib.atoiAll s.data.toList = .ok v) :
    Calls Tryd.prog 44 #[.string s] w fun e w' => e = .returned (.tuple #[.int .i64 v, .nilIface]) ∧ Ext w w' :=
  (Tryd.strconv_Atoi_ok s (by omega) v h w).mono fun e w' ⟨he, hw⟩ => ⟨he, by
    rcases hw with rfl | ⟨t, rfl⟩
    · exact Ext.refl _
    · exact Lib.bytesWorld_below _ _ _⟩
/-- What it hands back where it fails: some number, and an error. -/
def BadRet (z : Int) (w : World) (e : Ending) (w' : World) : Prop := ∃ N, e = .returned (.tuple #[.int .i64 z, .iface 92 (.pointer (some ⟨N, 0, none⟩))]) ∧ Ext w w'
theorem atoi_bad (s : ByteArray) (w : World) (hm : s.size ≤ 1048576) (h1 : ErrW "strconv.ErrSyntax" w) (h2 : ErrW "strconv.ErrRange" w) (h : ∀ v, Lib.atoiAll s.data.toList ≠ .ok v) :
    ∃ z, Calls Tryd.prog 44 #[.string s] w (BadRet z w) := by
  obtain ⟨t1, p1, h1⟩ := h1
  obtain ⟨t2, p2, h2⟩ := h2
  by_cases ha : Lib.atoiAll s.data.toList = .range
  · exact ⟨_, (Tryd.strconv_Atoi_range_var s (by omega) ha t2 p2 w h2).mono fun e w' ⟨N, he, _, _, hb⟩ => ⟨N, he, hb⟩⟩
  · exact ⟨_, (Tryd.strconv_Atoi_syntax_var s (by omega) ⟨h, ha⟩ t1 p1 w h1).mono fun e w' ⟨N, he, _, _, hb⟩ => ⟨N, he, hb⟩⟩
set_option maxHeartbeats 1000000 in
theorem implParse_any (s : ByteArray) (w : World) (hs : s.size ≤ 1048576) (ht : TabW w) (h1 : ErrW "strconv.ErrSyntax" w) (h2 : ErrW "strconv.ErrRange" w) :
    Calls Tryd.prog 13 #[.string s] w fun e w' => e = .returned (.tuple #[.int .i64 (rdV s), .bool (rdC s)]) ∧ Ext w w' := by
  have HT := Lib.hid ht
  clear ht
  by_cases hr : ∃ n, saysN s n
  · obtain ⟨n, hn⟩ := hr
    have HX := Lib.hid (rd_yes hn)
    have HA := Lib.hid (says_atoi hn)
    have HS := Lib.hid hs
    obtain ⟨⟨n0, n1⟩, he⟩ := hn
    have q := bs_eq he
    have hin : inB n (-999999) 999999 = true := inB_pos n0 n1
    clear he h1 h2
    go_enter Tryd.func13, Tryd.ntmps13
    go_wp2_with (first | (go_at_call 44; refine (atoi_ok _ n _ HS.out HA.out).mono ?_; rintro e w1 ⟨rfl, hx⟩; obtain ⟨x, rfl⟩ := hx.to_gw; clear hx) | (go_at_call 45; refine (within_any _ _ _ _).mono ?_; rintro e w1 ⟨rfl, rfl⟩) | (go_at_call 46; refine (decimal_any n _ (by omega) (by omega) (HT.out.ext (by repeat (with_reducible first | exact Ext.refl _ | refine Ext.setCell ?_ (by first | (simp; done) | (simp; omega)) _ | refine Ext.alloc ?_ _ | refine Ext.gw ?_ _ | refine Ext.drew ?_) : Ext w _))).mono ?_; rintro e w1 ⟨rfl, hx⟩; (try replace hx := Ext.flat hx); obtain ⟨x2, rfl⟩ := hx.to_gw; clear hx))
    go_ret2
    exact ⟨by rw [HX.out.1, HX.out.2]; first | done | rfl, by repeat (with_reducible first | exact Ext.refl _ | refine Ext.setCell ?_ (by first | (simp; done) | (simp; omega)) _ | refine Ext.alloc ?_ _ | refine Ext.gw ?_ _ | refine Ext.drew ?_)⟩
  · have HX := Lib.hid (rd_no hr)
    have HS := Lib.hid hs
    by_cases ho : ∃ v, Lib.atoiAll s.data.toList = .ok v
    · obtain ⟨v, hv⟩ := ho
      have hb := Lib.atoiAll_bounds hv
      have HA := Lib.hid hv
      clear hv h1 h2
      cases hin : inB v (-999999) 999999
      · clear hr hb
        go_enter Tryd.func13, Tryd.ntmps13
        go_wp2_with (first | (go_at_call 44; refine (atoi_ok _ v _ HS.out HA.out).mono ?_; rintro e w1 ⟨rfl, hx⟩; obtain ⟨x, rfl⟩ := hx.to_gw; clear hx) | (go_at_call 45; refine (within_any _ _ _ _).mono ?_; rintro e w1 ⟨rfl, rfl⟩))
        go_ret2
        exact ⟨by rw [HX.out.1, HX.out.2]; first | done | rfl, by repeat (with_reducible first | exact Ext.refl _ | refine Ext.setCell ?_ (by first | (simp; done) | (simp; omega)) _ | refine Ext.alloc ?_ _ | refine Ext.gw ?_ _ | refine Ext.drew ?_)⟩
      · obtain ⟨n0, n1⟩ := inB_iff.1 hin
        have q := bs_ne (a := iB v) (b := s) (fun he => hr ⟨v, ⟨n0, n1⟩, he⟩)
        clear hr hb
        go_enter Tryd.func13, Tryd.ntmps13
        go_wp2_with (first | (go_at_call 44; refine (atoi_ok _ v _ HS.out HA.out).mono ?_; rintro e w1 ⟨rfl, hx⟩; obtain ⟨x, rfl⟩ := hx.to_gw; clear hx) | (go_at_call 45; refine (within_any _ _ _ _).mono ?_; rintro e w1 ⟨rfl, rfl⟩) | (go_at_call 46; refine (decimal_any v _ (by omega) (by omega) (HT.out.ext (by repeat (with_reducible first | exact Ext.refl _ | refine Ext.setCell ?_ (by first | (simp; done) | (simp; omega)) _ | refine Ext.alloc ?_ _ | refine Ext.gw ?_ _ | refine Ext.drew ?_) : Ext w _))).mono ?_; rintro e w1 ⟨rfl, hx⟩; (try replace hx := Ext.flat hx); obtain ⟨x2, rfl⟩ := hx.to_gw; clear hx))
        go_ret2
        exact ⟨by rw [HX.out.1, HX.out.2]; first | done | rfl, by repeat (with_reducible first | exact Ext.refl _ | refine Ext.setCell ?_ (by first | (simp; done) | (simp; omega)) _ | refine Ext.alloc ?_ _ | refine Ext.gw ?_ _ | refine Ext.drew ?_)⟩
    · obtain ⟨z, hz⟩ := atoi_bad s w hs h1 h2 (fun v hv => ho ⟨v, hv⟩)
      have HZ := Lib.hid hz
      clear hz ho hr h1 h2
      go_enter Tryd.func13, Tryd.ntmps13
      go_wp2_with (go_at_call 44; refine HZ.out.mono ?_; rintro e w1 ⟨N, rfl, hx⟩; obtain ⟨x, rfl⟩ := hx.to_gw; clear hx)
      go_ret2
      exact ⟨by rw [HX.out.1, HX.out.2]; first | done | rfl, by repeat (with_reducible first | exact Ext.refl _ | refine Ext.setCell ?_ (by first | (simp; done) | (simp; omega)) _ | refine Ext.alloc ?_ _ | refine Ext.gw ?_ _ | refine Ext.drew ?_)⟩
theorem FnExactParseInt_walk (s : ByteArray) (hm : s.size ≤ maxLen) (w : World) (ht : TabW w) (h1 : ErrW "strconv.ErrSyntax" w) (h2 : ErrW "strconv.ErrRange" w) : Calls Tryd.prog 3 #[.string s] w fun e w' => e = .returned (.bool true) ∧ Ext w w' := by
  have HT := Lib.hid ht
  have H1 := Lib.hid h1
  have H2 := Lib.hid h2
  clear ht h1 h2
  unfold maxLen at hm
  by_cases hs : s.size ≤ 1048576
  · have HS := Lib.hid hs
    go_enter Tryd.func3, Tryd.ntmps3
    go_wp2_with (first | (go_at_call 12; refine (specParse_any _ _ HS.out).mono ?_; rintro e w1 ⟨rfl, hx⟩; (try replace hx := Ext.flat hx); obtain ⟨x, rfl⟩ := hx.to_gw; clear hx) | (go_at_call 13; refine (implParse_any _ _ HS.out (HT.out.ext (by repeat (with_reducible first | exact Ext.refl _ | refine Ext.setCell ?_ (by first | (simp; done) | (simp; omega)) _ | refine Ext.alloc ?_ _ | refine Ext.gw ?_ _ | refine Ext.drew ?_) : Ext w _)) (H1.out.ext (by repeat (with_reducible first | exact Ext.refl _ | refine Ext.setCell ?_ (by first | (simp; done) | (simp; omega)) _ | refine Ext.alloc ?_ _ | refine Ext.gw ?_ _ | refine Ext.drew ?_) : Ext w _)) (H2.out.ext (by repeat (with_reducible first | exact Ext.refl _ | refine Ext.setCell ?_ (by first | (simp; done) | (simp; omega)) _ | refine Ext.alloc ?_ _ | refine Ext.gw ?_ _ | refine Ext.drew ?_) : Ext w _))).mono ?_; rintro e w1 ⟨rfl, hx⟩; (try replace hx := Ext.flat hx); obtain ⟨x, rfl⟩ := hx.to_gw; clear hx))
    go_ret
    exact ⟨rfl, by repeat (with_reducible first | exact Ext.refl _ | refine Ext.setCell ?_ (by first | (simp; done) | (simp; omega)) _ | refine Ext.alloc ?_ _ | refine Ext.gw ?_ _ | refine Ext.drew ?_)⟩
  · have hs2 : 1048576 < s.size := by omega
    clear hs
    go_enter Tryd.func3, Tryd.ntmps3
    go_wp2
    go_ret
    exact ⟨rfl, by repeat (with_reducible first | exact Ext.refl _ | refine Ext.setCell ?_ (by first | (simp; done) | (simp; omega)) _ | refine Ext.alloc ?_ _ | refine Ext.gw ?_ _ | refine Ext.drew ?_)⟩
theorem err_laid {W : World} {n : String} {text : List UInt8} {r : List (String × DataW Unit)} {g : Nat} (h : laidMet Tryd.prog ((n, .iface "*errors.errorString" (.ptr (.agg [.lit (.string text)]))) :: r) W)
    (hg : Tryd.prog.globalNamed n = some g) (ht : (Tryd.prog.globals[g]?).map (·.type) = some 55) : ErrW n W := by
  obtain ⟨a, s, hv, _⟩ := laid_sentinel (ti := 55) (tp := 120) (te := 122) (ts := 9) h hg ht Tryd.underlying55 (fun u hu => typeName_ptr_named (nm := "errors.errorString") (by rw [show ("*" ++ "errors.errorString") = "*errors.errorString" by decide]; kernel_rfl) (by kernel_rfl) (by decide) u (by rw [show ("*" ++ "errors.errorString") = "*errors.errorString" by decide]; exact hu)) Tryd.underlying120 Tryd.underlying122 rfl rfl Tryd.underlying9 (by kernel_rfl) (by kernel_rfl)
  exact ⟨_, _, hv⟩
end Go.Proofs.YtpmbnfoilhfobaaDoor
