/- Slots: slices.Equal on references. -/
import Derived.Test.YtpcbmckknafdgaaSlotJ
namespace Go.Proofs.Ytpcbmckknafdgaa
open Go.RowKit Go.Shelf
set_option linter.unusedVariables false
set_option linter.unusedSimpArgs false
set_option maxRecDepth 100000
namespace Slot

theorem take_eq_stepR {xs ys : List R} {k : Nat} (h : xs.take k = ys.take k) (hx : k < xs.length) (hy : k < ys.length) (he : xs[k] = ys[k]) : xs.take (k + 1) = ys.take (k + 1) := by
  rw [List.take_succ_eq_append_getElem hx, List.take_succ_eq_append_getElem hy, h]
  rw [he]

theorem EqualRefs_any (z : Nat) (v1 v2 : Value) (xs ys : List R) (w : World) (h1 : ReadsRefs z w v1 xs) (h2 : ReadsRefs z w v2 ys) (hxl : xs.length ≤ 4096) :
    Calls Try.prog 25 #[v1, v2] w fun e w' => e = .returned (.bool (decide (xs = ys))) ∧ ∃ n, w' = w.drewN n := by
  by_cases hl : xs.length = ys.length
  · by_cases h0 : xs.length = 0
    · have hx : xs = [] := List.length_eq_zero_iff.1 h0
      have hy : ys = [] := List.length_eq_zero_iff.1 (by omega)
      subst hx hy
      have hv : ∀ {v : Value}, ReadsRefs z w v [] → ∃ a c, v = .slice a 0 c := by
        rintro v (⟨a, c, h, -⟩ | ⟨b, c, h, -⟩)
        · exact ⟨_, _, h⟩
        · exact ⟨_, _, h⟩
      obtain ⟨a1, c1, rfl⟩ := hv h1
      obtain ⟨a2, c2, rfl⟩ := hv h2
      clear hv h1 h2 hl h0
      go_enter Try.func25, Try.ntmps25
      go_wp2
      go_loop [13, 5] (fun i _ => i = .int .i64 0) (fun _ _ => 0)
      case atStart => rfl
      case round =>
        subst hrel
        go_wp2
        go_ret
        exact ⟨rfl, 0, rfl⟩
    · rcases h1 with ⟨a1, d1, rfl, rfl⟩ | ⟨b1, c1, rfl, hb1, hlt1, hc1⟩
      · simp at h0
      rcases h2 with ⟨a2, d2, rfl, rfl⟩ | ⟨b2, c2, rfl, hb2, hlt2, hc2⟩
      · simp at hl; exact absurd (by simp [hl]) h0
      have hne : ((xs.length : Int) != (ys.length : Int)) = false := by simp [hl]
      have hle : ys.length ≤ xs.length := by omega
      have HL := Lib.hid hl
      clear hb1 hb2 hlt1 hlt2
      clear hl
      go_enter Try.func25, Try.ntmps25
      go_wp2
      go_loopw [13, 5] (fun i _ wr => ∃ k : Nat, k ≤ xs.length ∧ i = .int .i64 k ∧ Hid (xs.take k = ys.take k) ∧ ∃ m, wr = w.drewN m) (fun i _ _ => xs.length - (intOf i).toNat)
      case atStart => exact ⟨0, Nat.zero_le _, rfl, rfl, 0, rfl⟩
      case round =>
        obtain ⟨k, hk, rfl, HT, m, rfl⟩ := hrel
        by_cases hlt : k < xs.length
        · have hlt2 : k < ys.length := by have := HL.out; omega
          obtain ⟨e1, e1'⟩ := hc1 k hlt
          obtain ⟨e2, e2'⟩ := hc2 k hlt2
          rw [List.getElem?_eq_getElem hlt, Option.getD_some] at e1 e1'
          rw [List.getElem?_eq_getElem hlt2, Option.getD_some] at e2 e2'
          by_cases heq : xs[k] = ys[k]
          · have HE := Lib.hid (take_eq_stepR HT.out hlt hlt2 heq)
            rw [heq] at e1 e1'
            clear heq hc1 hc2
            generalize ys[k] = y at *
            go_wp2
            go_quiet (fail)
            go_wp2
            exact ⟨⟨k + 1, by omega, by simp, HE.out, _, rfl⟩, by simp [intOf]; omega⟩
          · have HE : Hid (decide (xs = ys) = false) := by
              rw [Hid, decide_eq_false_iff_not]; rintro rfl; exact heq rfl
            by_cases hq1 : xs[k].1 = ys[k].1
            · have hq2 : ¬ xs[k].2 = ys[k].2 := fun h => heq (Prod.ext hq1 h)
              rw [hq1] at e1
              have hq3 : (xs[k].2 == ys[k].2) = false := by simpa using hq2
              clear heq hc1 hc2 hq1 hq2
              generalize xs[k].2 = x at *
              generalize ys[k] = y at *
              go_wp2
              go_quiet (fail)
              go_wp2
              go_ret
              exact ⟨by rw [HE.out]; rfl, m + nq, by simp⟩
            · have hq3 : (xs[k].1 == ys[k].1) = false := by simpa using hq1
              clear heq hc1 hc2 hq1
              generalize xs[k] = x at *
              generalize ys[k] = y at *
              go_wp2
              go_quiet (fail)
              go_wp2
              go_ret
              exact ⟨by rw [HE.out]; rfl, m + nq, by simp⟩
        · obtain rfl : k = xs.length := by omega
          have HE : Hid (decide (xs = ys) = true) := by
            rw [Hid, decide_eq_true_eq]
            have := HT.out
            rwa [List.take_of_length_le (Nat.le_refl _), List.take_of_length_le (by have := HL.out; omega)] at this
          go_wp2
          go_ret
          exact ⟨by rw [HE.out]; rfl, _, rfl⟩
  · have hv : ∀ {v : Value} {zs : List R}, ReadsRefs z w v zs → ∃ a c, v = .slice a zs.length c := by
      rintro v zs (⟨a, c, h, rfl⟩ | ⟨b, c, h, -⟩)
      · exact ⟨_, _, h⟩
      · exact ⟨_, _, h⟩
    obtain ⟨a1, c1, rfl⟩ := hv h1
    obtain ⟨a2, c2, rfl⟩ := hv h2
    have hne : ((xs.length : Int) != (ys.length : Int)) = true := by simp; omega
    have HE : Hid (decide (xs = ys) = false) := by
      rw [Hid, decide_eq_false_iff_not]; rintro rfl; exact hl rfl
    clear hv h1 h2 hl
    go_enter Try.func25, Try.ntmps25
    go_wp2
    go_ret
    exact ⟨by rw [HE.out]; rfl, 0, rfl⟩
end Slot
end Go.Proofs.Ytpcbmckknafdgaa
