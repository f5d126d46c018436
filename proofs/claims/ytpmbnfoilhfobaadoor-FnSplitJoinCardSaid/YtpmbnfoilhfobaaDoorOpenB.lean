/- Slices of bytes that came in, opened. -/
import Derived.Test.YtpmbnfoilhfobaaDoorOwn
import Derived.Test.YtpmbnfoilhfobaaDoorRows
import Derived.ChangeSlices
namespace Go.Proofs.YtpmbnfoilhfobaaDoor
open Go.ChangeShapes Go.WideShapes Go.RowKit

section
variable {H : Type} {enc : TypeId × Value → H} {P : Program} {w : World} {base : Nat} {spare : Nat → Bool} {held : Bool}
theorem add_plain {x : Addr} (h : x = ⟨x.block, x.off, none⟩) (i : Nat) : x.add i = ⟨x.block, x.off + i, none⟩ := by
  rw [h]
  unfold Addr.add
  split
  · rename_i h0; rw [h0]; rfl
  · rfl
theorem open_bytesR {t e : TypeId} {a : Option Addr} {len cap : Nat} {d : DataW H} {p : List MemPlace} (hts : P.underlying t = some (.slice e)) (he : P.underlying e = some (.int .u8)) (hc : P.cellsOf e = 1)
    (h : DataW.Trod enc P w base spare held t (.slice a len cap) d p) : len ≤ maxLen ∧ ∃ z : Nat → Int, Rd w a len 1 (fun i _ => .int .u8 (z i)) ∧ ∀ i, i < len → 0 ≤ z i ∧ z i ≤ 255 := by
  obtain ⟨fuel, hf⟩ := h
  rcases open_ints hts he hc hf with ⟨hcs, _⟩ | ⟨x, l, c, zs, hcs, _, hl, hm, hzl, _, hi, hw⟩
  · simp [Value.cells] at hcs
    obtain ⟨rfl, rfl, rfl⟩ := hcs
    exact ⟨Nat.zero_le _, fun _ => 0, fun h => absurd h (by omega), fun i hi => absurd hi (by omega)⟩
  · simp [Value.cells] at hcs
    obtain ⟨rfl, rfl, rfl⟩ := hcs
    have hml : len ≤ zs.length := by rw [hzl]; split <;> omega
    refine ⟨by omega, fun i => zs.getD i 0, fun hn => ?_, fun i hi => ?_⟩
    · have h0 := hi 0 (by omega)
      have hx0 : x = ⟨x.block, x.off, none⟩ := by
        have : x.add 0 = x := by simp [Addr.add]
        rw [this] at h0
        exact spot_none h0
      refine ⟨x.block, x.off, by rw [← hx0], ?_, fun i j hil hj => ?_⟩
      · have hb := World.block_lt_of_cell? w _ h0
        rwa [add_block] at hb
      · obtain rfl : j = 0 := by omega
        have h1 := hi i (by omega)
        rw [add_plain hx0] at h1
        rw [Nat.mul_one, Nat.add_zero, h1]
    · have h2 := hw (zs.getD i 0) (by
        rw [List.getD_eq_getElem?_getD, List.getElem?_eq_getElem (by omega)]
        exact List.getElem_mem _)
      simpa [Lit.wf, IntKind.min, IntKind.max, IntKind.signed, IntKind.bits] using h2
end
end Go.Proofs.YtpmbnfoilhfobaaDoor
