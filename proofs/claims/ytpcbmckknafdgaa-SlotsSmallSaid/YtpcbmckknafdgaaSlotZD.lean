/- tells, whatever it is given; the law SlotsTells: the walk. -/
import Derived.Test.YtpcbmckknafdgaaSlotZC
import Derived.Deep.SlicePairs
namespace Go.Proofs.Ytpcbmckknafdgaa
open Go.RowKit Go.Shelf Go.ChangeShapes Go.WideShapes
set_option linter.unusedVariables false
set_option linter.unusedSimpArgs false
set_option maxRecDepth 100000
namespace Slot

theorem Tells_any (hNew : NewOk) (x k : Int) (a : Option Addr) (len cap : Nat) (l : List ActV) (w : World) (hl : ActsAt w.heap.size w a len l) (hlc : len ≤ cap) (hcm : cap ≤ maxLen) :
    Calls Try.prog 11 #[.int .i64 x, .int .i64 k, .slice a len cap] w fun e w' => e = .returned (.bool true) ∧ Below w.heap.size w w' := by
  by_cases h : 0 ≤ x ∧ x ≤ 1024 ∧ 1 ≤ k ∧ k ≤ 4294967296
  · obtain ⟨h0, h1, h2⟩ := h
    obtain ⟨n, rfl⟩ : ∃ n : Nat, x = n := ⟨x.toNat, by omega⟩
    exact Tells_yes hNew n k a len cap l w (by omega) h2 hl hlc hcm
  · refine (Tells_no x k _ w h).mono ?_
    rintro e w' ⟨rfl, rfl⟩
    exact ⟨rfl, Below.refl _ _⟩

theorem act_cells {H : Type} {enc : TypeId × Value → H} {w : World} {base n : Nat} {spare : Nat → Bool} {held : Bool} {cs : List Value} {d : DataW H × List MemPlace}
    (h : DataW.trod enc Try.prog w base spare held n 28 cs = some d) : ∃ x : ActV, x.Wf ∧ cs = [.int .u8 x.kind, .int .i64 x.at_, .int .i64 x.ra, .int .i64 x.rb] := by
  obtain ⟨xs, n', _, _, hlen, hxl, hf⟩ := DataW.trod_struct Try.underlying28 h
  have e4 : Try.prog.cellsOf 28 = 4 := by kernel_rfl
  have c5 : Try.prog.cellsOf 5 = 1 := by kernel_rfl
  have c3 : Try.prog.cellsOf 3 = 1 := by kernel_rfl
  have c26 : Try.prog.cellsOf 26 = 2 := by kernel_rfl
  rw [e4] at hlen
  match xs, hxl, cs, hlen with
  | [y0, y1, y2], _, [v0, v1, v2, v3], _ =>
    have g0 := hf 0 _ rfl
    have g1 := hf 1 _ rfl
    have g2 := hf 2 _ rfl
    simp [c5, c3, c26] at g0 g1 g2
    obtain ⟨k0, e0, _, f0⟩ := DataW.trod_int Try.underlying5 g0
    obtain ⟨k1, e1, _, f1⟩ := DataW.trod_int Try.underlying3 g1
    obtain ⟨zs, n2, _, _, _, hzl, hg⟩ := DataW.trod_struct Try.underlying26 g2
    match zs, hzl with
    | [z0, z1], _ =>
      have g3 := hg 0 _ rfl
      have g4 := hg 1 _ rfl
      simp [c3] at g3 g4
      obtain ⟨k2, e2, _, f2⟩ := DataW.trod_int Try.underlying3 g3
      obtain ⟨k3, e3, _, f3⟩ := DataW.trod_int Try.underlying3 g4
      simp at e0 e1 e2 e3
      subst e0 e1 e2 e3
      obtain ⟨a0, a1⟩ := bounds_u8 f0
      obtain ⟨b0, b1⟩ := bounds_i64 f1
      exact ⟨⟨k0, k1, k2, k3⟩, ⟨a0, a1, b0, b1⟩, rfl⟩

theorem open_acts {H : Type} {enc : TypeId × Value → H} {w : World} {base n : Nat} {spare : Nat → Bool} {held : Bool} {a : Option Addr} {len cap : Nat} {d : DataW H × List MemPlace}
    (h : DataW.trod enc Try.prog w base spare held n 22 [.slice a len cap] = some d) : ∃ l, ActsAt w.heap.size w a len l ∧ len ≤ cap ∧ cap ≤ maxLen := by
  rcases Go.Deep.open_slice Try.underlying22 h with ⟨hcs, _⟩ | ⟨x, len', cap', m, n', D, Pl, hcs, _, hl, hm, hmm, _, hcell⟩
  · simp at hcs
    obtain ⟨rfl, rfl, rfl⟩ := hcs
    exact ⟨[], ⟨rfl, by simp, fun h => by omega⟩, Nat.le_refl _, by unfold maxLen; omega⟩
  · simp at hcs
    obtain ⟨rfl, rfl, rfl⟩ := hcs
    have hlm : len ≤ m := by rw [hmm]; split <;> omega
    have e4 : Try.prog.cellsOf 28 = 4 := by kernel_rfl
    have each : ∀ i, i < len → ∃ x' : ActV, x'.Wf ∧ w.cell? (x.add (i * 4)) = some (.int .u8 x'.kind) ∧ w.cell? (x.add (i * 4 + 1)) = some (.int .i64 x'.at_) ∧ w.cell? (x.add (i * 4 + 2)) = some (.int .i64 x'.ra) ∧ w.cell? (x.add (i * 4 + 3)) = some (.int .i64 x'.rb) := by
      intro i hi
      obtain ⟨cs', h1, h2⟩ := hcell i (by omega)
      rw [e4] at h1
      obtain ⟨_, _, hc⟩ := World.cells?_some h1
      obtain ⟨y, hy, rfl⟩ := act_cells h2
      have c0 := hc 0 (by omega)
      have c1 := hc 1 (by omega)
      have c2 := hc 2 (by omega)
      have c3 := hc 3 (by omega)
      rw [Go.Deep.add_add] at c0 c1 c2 c3
      exact ⟨y, hy, by simpa using c0, by simpa using c1, by simpa using c2, by simpa using c3⟩
    haveI : Inhabited ActV := ⟨⟨0, 0, 0, 0⟩⟩
    obtain ⟨f, hf⟩ := Go.Deep.choose_lt each
    refine ⟨(List.range len).map f, ⟨by simp, ?_, ?_⟩, hl, hm⟩
    · intro y hy
      simp only [List.mem_map, List.mem_range] at hy
      obtain ⟨i, hi, rfl⟩ := hy
      exact (hf i hi).1
    · intro hpos
      obtain ⟨b, off, spot⟩ := x
      have hspot : spot = none := by simpa [Addr.add] using World.cell?_spot (hf 0 hpos).2.1
      subst hspot
      refine ⟨b, off, rfl, by simpa [Addr.add] using World.block_lt_of_cell? w _ (hf 0 hpos).2.1, fun i hi => ?_⟩
      have hi' : i < len := by simpa using hi
      obtain ⟨_, c0, c1, c2, c3⟩ := hf i hi'
      simp only [List.getElem_map, List.getElem_range]
      refine ⟨?_, ?_, ?_, ?_⟩
      · rcases i with _ | i
        · simpa [Addr.add] using c0
        · simpa [Addr.add] using c0
      · simpa [Addr.add, Nat.add_assoc] using c1
      · simpa [Addr.add, Nat.add_assoc] using c2
      · simpa [Addr.add, Nat.add_assoc] using c3

set_option maxHeartbeats 4000000 in
theorem SlotsTells_any (hNew : NewOk) (x : Int) (hx : (Lit.int .i64 x).wf = true) (k : Int) (hk : (Lit.int .i64 k).wf = true) (a : Option Addr) (len cap : Nat) (l : List ActV) (w : World) (h : ActsAt w.heap.size w a len l ∧ len ≤ cap ∧ cap ≤ maxLen) :
    Calls Try.prog 3 #[.int .i64 x, .int .i64 k, .slice a len cap] w fun e w' => e = .returned (.bool true) ∧ Below w.heap.size w w' := by
  obtain ⟨hl, hlc, hcm⟩ := h
  have hlen : (len : Int) ≤ 9223372036854775807 := by unfold maxLen at hcm; omega
  have C := Lib.hid (Tells_any hNew x k a len cap l w hl hlc hcm)
  clear hl hNew
  by_cases h1 : 60 < x ∧ x ≤ 1024
  · obtain ⟨h1, h2⟩ := h1
    go_enter Try.func3, Try.ntmps3
    go_wp2_with fail
    refine (awake_any _).mono ?_; rintro e wa ⟨rfl, hba⟩
    go_wp2_with fail
    go_ret
    exact ⟨rfl, hba⟩
  · by_cases h2 : 200 < (len : Int)
    · have h3 : 200 < len := by omega
      by_cases h4 : 60 < x
      · have h5 : ¬ x ≤ 1024 := by omega
        go_enter Try.func3, Try.ntmps3
        go_wp2_with fail
        refine (awake_any _).mono ?_; rintro e wa ⟨rfl, hba⟩
        go_wp2_with fail
        go_ret
        exact ⟨rfl, hba⟩
      · go_enter Try.func3, Try.ntmps3
        go_wp2_with fail
        refine (awake_any _).mono ?_; rintro e wa ⟨rfl, hba⟩
        go_wp2_with fail
        go_ret
        exact ⟨rfl, hba⟩
    · have h3 : ¬ 200 < len := by omega
      by_cases h4 : 60 < x
      · have h5 : ¬ x ≤ 1024 := by omega
        go_enter Try.func3, Try.ntmps3
        go_wp2_with fail
        refine C.out.mono ?_; rintro e wt ⟨rfl, hbt⟩
        go_wp2_with fail
        refine (awake_any _).mono ?_; rintro e wa ⟨rfl, hba⟩
        go_wp2_with fail
        go_ret
        exact ⟨rfl, hbt.trans (hba.mono hbt.size)⟩
      · go_enter Try.func3, Try.ntmps3
        go_wp2_with fail
        refine C.out.mono ?_; rintro e wt ⟨rfl, hbt⟩
        go_wp2_with fail
        refine (awake_any _).mono ?_; rintro e wa ⟨rfl, hba⟩
        go_wp2_with fail
        go_ret
        exact ⟨rfl, hbt.trans (hba.mono hbt.size)⟩
end Slot
end Go.Proofs.Ytpcbmckknafdgaa
