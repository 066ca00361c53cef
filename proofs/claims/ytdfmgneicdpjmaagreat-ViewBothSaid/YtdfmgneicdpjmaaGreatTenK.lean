/- model.Need over moves of which at most one is a frame. -/
import Derived.Test.YtdfmgneicdpjmaaGreatTenJ
namespace Go.Proofs.YtdfmgneicdpjmaaGreat
open Go.RowKit Go.Shelf
set_option linter.unusedVariables false
set_option linter.unusedSimpArgs false
set_option maxRecDepth 100000
namespace Resp
attribute [-go_sem] Instr.storeAt
attribute [local go_sem] st_open_ st_new_
set_option maxHeartbeats 2000000 in
theorem Need_any (v : Value) (ms : List Bool) (W : World) (h : MovesAt W v ms) (hms : ms.length ≤ 100) (hf : framesN ms ≤ 1) :
    Calls Tryz.prog 44 #[v] W fun e w' => e = .returned (.tuple #[.int .i64 0, .int .i64 0]) ∧ Below W.heap.size W w' := by
  obtain ⟨a, c, e⟩ := MovesAt.form h
  subst e
  have HMV := Lib.hid h
  have HRUN := Lib.hid (Run_any _ ms W h hms hf)
  have HFR := Lib.hid (fun W' (h' : MovesAt W' (.slice a ms.length c) ms) => Frames_any _ ms W' h' hms)
  have HTU := Lib.hid (fun W' (h' : MovesAt W' (.slice a ms.length c) ms) => Turns_any _ ms W' h' hms)
  have hfl := framesN_le ms
  have hw1 : IntKind.i64.wrap (((ms.length : Int) - (framesN ms : Int)) - ((ms.length : Int) - (framesN ms : Int))) = 0 := by rw [IntKind.wrap_i64]; omega
  clear h
  generalize hff : framesN ms = f at *
  have HF := Lib.hid hff
  clear hff
  generalize hLL : ms.length = L at *
  have HL := Lib.hid hLL
  clear hLL
  go_enter Tryz.func44, Tryz.ntmps44
  go_wp2_with fail
  refine HRUN.out.mono ?_; rintro e W1 ⟨vo, rfl, -, hb1⟩
  have HB1 := Lib.hid hb1
  have HMV1 := Lib.hid (HMV.out.below hb1)
  clear hb1
  go_upto_region 2 with fail
  have hbz : Below W1.heap.size W1 (W1.alloc (.cells #[.bool false, .bool false, .int .i64 (f : Int), .int .i64 1, .int .i64 0, .int .i64 0, .int .i64 0, .int .i64 0, .int .i64 0, .int .i64 0, .int .i64 0, .int .u64 0, .int .i64 0, .int .i64 0, .int .i64 0, .int .i64 0, .int .i64 0, .int .i64 0, .slice none 0 0, .int .i64 0, .slice none 0 0, .slice none 0 0, .slice none 0 0, .slice none 0 0] 89)) := (Below.refl _ _).alloc (Nat.le_refl _) _
  have HMV2 := Lib.hid (HMV1.out.below hbz)
  have HB2 := Lib.hid (HB1.out.trans (hbz.mono HB1.out.size))
  clear hbz HMV1 HB1
  generalize W1.alloc (.cells #[.bool false, .bool false, .int .i64 (f : Int), .int .i64 1, .int .i64 0, .int .i64 0, .int .i64 0, .int .i64 0, .int .i64 0, .int .i64 0, .int .i64 0, .int .u64 0, .int .i64 0, .int .i64 0, .int .i64 0, .int .i64 0, .int .i64 0, .int .i64 0, .slice none 0 0, .int .i64 0, .slice none 0 0, .slice none 0 0, .slice none 0 0, .slice none 0 0] 89) = W2 at *
  generalize W1.heap.size = P at *
  go_wp2_with fail
  refine (HFR.out W2 HMV2.out).mono ?_; rintro e W3 ⟨vo2, rfl, ho3, hb3⟩
  have HB3 := Lib.hid (HB2.out.trans (hb3.mono HB2.out.size))
  have HMV3 := Lib.hid (HMV2.out.below hb3)
  have HF3 := Lib.hid ho3.frames
  clear ho3 hb3
  obtain ⟨fa, fc, e⟩ := Frames1.form HF3.out
  subst e
  go_wp2_with fail
  refine (Answers_short _ f W3 HF3.out (by omega)).mono ?_; rintro e W4 ⟨vo4, vt, rfl, -, ht4, hb4⟩
  obtain ⟨ta, tc, e⟩ := ownsRow_form ht4
  subst e
  have HB4 := Lib.hid (HB3.out.trans (hb4.mono HB3.out.size))
  have HMV4 := Lib.hid (HMV3.out.below hb4)
  have HT4 := Lib.hid ht4
  clear ht4 hb4
  go_wp2_with fail
  refine (HTU.out W4 HMV4.out).mono ?_; rintro e W5 ⟨rfl, hb5⟩
  have HB5 := Lib.hid (HB4.out.trans (hb5.mono HB4.out.size))
  have HT5 : Hid (Reads .i64 W5 (.slice ta f tc) (List.replicate f 0)) := Reads.of_owns (zs := List.replicate f 0) (by rw [List.map_replicate]; exact owns_up HT4.out hb5)
  clear hb5
  go_wp2_with fail
  go_loopw [11, 38] (fun d i wr => ∃ k : Nat, k ≤ f ∧ i = .int .i64 k ∧ d = .int .i64 0 ∧ wr = W5) (fun _ i _ => f - (intOf i).toNat)
  case atStart => exact ⟨0, Nat.zero_le _, rfl, rfl, rfl⟩
  case round =>
    obtain ⟨k, hk, rfl, rfl, rfl⟩ := hrel
    by_cases hlt : k < f
    · have hltI : (k : Int) < f := by omega
      rcases HT5.out with ⟨a2, c2, e2, e3⟩ | ⟨b, o, c2, e2, hl2, hc⟩
      · have := congrArg List.length e3; simp at this; omega
      · rw [List.length_replicate] at e2
        cases e2
        have hcell := hc k (by simpa using hlt)
        rw [List.getElem?_eq_getElem (by simpa using hlt), Option.getD_some, List.getElem_replicate] at hcell
        clear hc
        go_wp2_with fail
        exact ⟨⟨k + 1, by omega, by simp, by first | rfl | simp, by first | rfl | trivial⟩, by simp [intOf]; omega⟩
    · go_wp2_with fail
      go_returns
      exact ⟨rfl, HB5.out⟩
end Resp
end Go.Proofs.YtdfmgneicdpjmaaGreat