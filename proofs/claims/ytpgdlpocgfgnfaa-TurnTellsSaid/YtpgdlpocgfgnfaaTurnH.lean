/- The law TurnTells returns true. -/
import Derived.Test.YtpgdlpocgfgnfaaTurnG
namespace Go.Proofs.Ytpgdlpocgfgnfaa
open Go.RowKit Go.Shelf
set_option linter.unusedVariables false
set_option maxRecDepth 100000
namespace Turn

theorem lawTells (a0 : Int) (w0 : (Lit.int .i64 a0).wf = true) (a1 : Int) (w1 : (Lit.int .i64 a1).wf = true) (a2 : Int) (w2 : (Lit.int .i64 a2).wf = true) (a3 : Int) (w3 : (Lit.int .i64 a3).wf = true) (a4 : Int) (w4 : (Lit.int .i64 a4).wf = true) (w : World) :
    Calls Try.prog 3 #[.int .i64 a0, .int .i64 a1, .int .i64 a2, .int .i64 a3, .int .i64 a4] w fun e w' => e = .returned (.bool true) ∧ Below w.heap.size w w' := by
  have h4 := (bounds_i64 w4).2
  clear w0 w1 w2 w3 w4
  go_enter Try.func3, Try.ntmps3
  go_wp2_with (first | (go_at_call 11; refine (tells_any _ _ _ _ _ h4 _).mono ?_; rintro e w1 ⟨rfl, hb1⟩) | (go_at_call 12; refine (awake_any _).mono ?_; rintro e w2 ⟨rfl, hb2⟩))
  go_ret
  exact ⟨rfl, hb1.trans (hb2.mono hb1.size)⟩
end Turn
end Go.Proofs.Ytpgdlpocgfgnfaa
