/- What the laws share: their sizes, and what a slice of bytes that came in may be. -/
import Derived.Test.YtpcbmckknafdgaaSlotL
import Derived.Test.YtpcbmckknafdgaaSlotO
namespace Go.Proofs.Ytpcbmckknafdgaa
open Go.RowKit Go.Shelf
set_option linter.unusedVariables false
set_option linter.unusedSimpArgs false
set_option maxRecDepth 100000
namespace Slot

theorem sizes_any (a b : Int) (ha : 0 ≤ a) (ha' : a ≤ 255) (hb : 0 ≤ b) (hb' : b ≤ 255) (w : World) :
    Calls Try.prog 15 #[.int .u8 a, .int .u8 b] w fun e w' => e = .returned (.tuple #[.int .i64 (a % 41), .int .i64 (1 + b % 6)]) ∧ w = w' := by
  go_enter Try.func15, Try.ntmps15
  go_wp2
  go_ret2
  exact ⟨rfl, rfl⟩

/-- What a slice of bytes that came in may be. -/
theorem row_cases {w : World} {a : Option Addr} {len cap : Nat} {z : List Int} (h : IsRow .u8 w a len cap z) :
    (a = none ∧ len = 0 ∧ cap = 0) ∨ (∃ x, a = some x ∧ len = 0 ∧ cap ≤ maxLen) ∨
    ∃ b off, a = some ⟨b, off, none⟩ ∧ 1 ≤ len ∧ len ≤ cap ∧ cap ≤ maxLen ∧ (∀ i (w' : World), Below w.heap.size w w' → i < len → w'.cell? ⟨b, off + i, none⟩ = some (.int .u8 (z.getD i 0))) ∧ ∀ i, i < len → 0 ≤ z.getD i 0 ∧ z.getD i 0 < 256 := by
  rcases h with ⟨h1, h2, h3, _⟩ | ⟨x, rfl, hl, hm, hz, hcell, hwz⟩
  · exact .inl ⟨h1, h2, h3⟩
  · by_cases h0 : len = 0
    · exact .inr (.inl ⟨x, rfl, h0, hm⟩)
    · obtain ⟨b, off, spot⟩ := x
      have hc := hcell 0 (by omega)
      have hspot : spot = none := by simpa [Addr.add] using World.cell?_spot hc
      subst hspot
      refine .inr (.inr ⟨b, off, rfl, by omega, hl, hm, fun i w' hb hi => ?_, fun i hi => ?_⟩)
      · have h1 : w.cell? ⟨b, off + i, none⟩ = some (.int .u8 (z.getD i 0)) := by
          have := hcell i (by omega)
          rcases i with _ | i
          · simpa [Addr.add] using this
          · simpa [Addr.add] using this
        exact (hb.cell (p := ⟨b, off + i, none⟩) (World.block_lt_of_cell? w _ h1)).trans h1
      · have hi' : i < z.length := by omega
        have h2 := hwz (z.getD i 0) (by rw [List.getD_eq_getElem?_getD, List.getElem?_eq_getElem hi']; exact List.getElem_mem hi')
        obtain ⟨h3, h4⟩ := bounds_u8 h2
        omega

end Slot
end Go.Proofs.Ytpcbmckknafdgaa
