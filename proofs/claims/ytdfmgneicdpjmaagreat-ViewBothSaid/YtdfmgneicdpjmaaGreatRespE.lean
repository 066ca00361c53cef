/- response.right: no number below nought. -/
import Derived.Test.YtdfmgneicdpjmaaGreatRespD
namespace Go.Proofs.YtdfmgneicdpjmaaGreat
open Go.RowKit Go.Shelf
set_option linter.unusedVariables false
set_option linter.unusedSimpArgs false
set_option maxRecDepth 100000
namespace Resp

theorem right1_any (z : Int) (w : World) : Calls Tryz.prog 268 #[.int .i64 z] w fun e w' => e = .returned (.bool (decide (z < 0))) ∧ w = w' := by
  go_enter Tryz.func268, Tryz.ntmps268
  go_wp2
  go_ret
  exact ⟨rfl, rfl⟩

theorem IndexFunc_none (v : Value) (zs : List Int) (w : World) (h : Reads .i64 w v zs) (hl : zs.length ≤ 1048576) (h0 : ∀ z ∈ zs, 0 ≤ z) :
    Calls Tryz.prog 324 #[v, .func (.func 268) #[] #[]] w fun e w' => e = .returned (.int .i64 (-1)) ∧ w = w' := by
  obtain ⟨a, c, e⟩ := Reads.form_ h
  subst e
  go_enter Tryz.func324, Tryz.ntmps324
  have HR := Lib.hid h
  have hlI : (zs.length : Int) ≤ 1048576 := by omega
  have H0 := Lib.hid h0
  clear h h0
  go_wp2_with fail
  go_loopw [8] (fun i wr => ∃ k : Nat, k ≤ zs.length ∧ i = .int .i64 k ∧ wr = w) (fun i _ => zs.length - (intOf i).toNat)
  case atStart => exact ⟨0, Nat.zero_le _, rfl, rfl⟩
  case round =>
    obtain ⟨k, hk, rfl, rfl⟩ := hrel
    by_cases hlt : k < zs.length
    · have hltI : (k : Int) < zs.length := by omega
      have hz := H0.out zs[k] (List.getElem_mem hlt)
      rcases HR.out with ⟨a2, c2, e2, e3⟩ | ⟨b, o, c2, e2, hl2, hc⟩
      · rw [e3] at hlt; simp at hlt
      · cases e2
        have hcell := hc k hlt
        rw [List.getElem?_eq_getElem hlt, Option.getD_some] at hcell
        clear hc
        generalize zs[k] = z at *
        have hzd : decide (z < 0) = false := by simp; omega
        go_wp2_with fail
        refine (right1_any z _).mono ?_; rintro e w' ⟨rfl, rfl⟩; rw [hzd]
        go_wp2_with fail
        exact ⟨⟨k + 1, by omega, by simp, by first | rfl | trivial⟩, by simp [intOf]; omega⟩
    · go_wp2_with fail
      go_ret
      exact ⟨rfl, rfl⟩
theorem right_yes (v : Value) (zs : List Int) (w : World) (h : Reads .i64 w v zs) (hl : zs.length ≤ 1048576) (h0 : ∀ z ∈ zs, 0 ≤ z) :
    Calls Tryz.prog 216 #[v] w fun e w' => e = .returned (.bool true) ∧ w = w' := by
  have hc : Calls Tryz.prog 267 #[v, .func (.func 268) #[] #[]] w fun e w' => e = .returned (.bool false) ∧ w = w' := by
    go_enter Tryz.func267, Tryz.ntmps267
    go_wp2_with fail
    refine (IndexFunc_none v zs _ h hl h0).mono ?_; rintro e w' ⟨rfl, rfl⟩
    go_wp2_with fail
    go_ret
    exact ⟨rfl, rfl⟩
  go_enter Tryz.func216, Tryz.ntmps216
  go_wp2_with fail
  refine hc.mono ?_; rintro e w' ⟨rfl, rfl⟩
  go_wp2_with fail
  go_ret
  exact ⟨rfl, rfl⟩
end Resp
end Go.Proofs.YtdfmgneicdpjmaaGreat
