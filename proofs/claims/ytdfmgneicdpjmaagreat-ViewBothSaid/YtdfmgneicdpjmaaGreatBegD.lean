/- The law ModelBegins. -/
import Derived.Test.YtdfmgneicdpjmaaGreatBegB
import Derived.Test.YtdfmgneicdpjmaaGreatBegC
namespace Go.Proofs.YtdfmgneicdpjmaaGreat
open Go.RowKit Go.Shelf
set_option linter.unusedVariables false
set_option linter.unusedSimpArgs false
set_option maxRecDepth 100000
namespace Resp

set_option maxHeartbeats 4000000 in
theorem lawBegins (a1 a2 : Option Addr) (n m c1 c2 : Nat) (xs ys : List ByteArray) (W : World) (h1 : RowsAt W a1 n xs) (h2 : RowsAt W a2 m ys) (hn : n ≤ maxLen) (hm : m ≤ maxLen) (hmc : m ≤ c2) (hcm : c2 ≤ maxLen) :
    Calls Tryz.prog 3 #[.slice a1 n c1, .slice a2 m c2] W fun e w' => e = .returned (.bool true) ∧ Below W.heap.size W w' := by
  have hn' := hn
  have hm' := hm
  unfold maxLen at hn' hm'
  have hnI : (n : Int) ≤ 9223372036854775807 := by omega
  have hmI : (m : Int) ≤ 9223372036854775807 := by omega
  have H1 := Lib.hid h1
  have H2 := Lib.hid h2
  have HAW := Lib.hid awake38
  clear h1 h2 hn' hm'
  by_cases hn30 : n ≤ 30
  · by_cases hm30 : m ≤ 30
    · have e1 : (n : Int) ≤ 30 := by omega
      have e2 : (m : Int) ≤ 30 := by omega
      have HLB := Lib.hid (Begins_any a1 a2 n m c1 c2 xs ys)
      have HLR := Lib.hid (BeginsR_any a1 a2 n m c1 c2 xs ys)
      go_enter Tryz.func3, Tryz.ntmps3
      go_wp2_with fail
      have hz := World.alloc_heap_new W (.cells #[.slice a1 n c1, .slice a2 m c2] 22)
      have hma : Mod (fun _ => False) W (W.alloc (.cells #[.slice a1 n c1, .slice a2 m c2] 22)) := (Mod.refl _ _).alloc _
      obtain ⟨z0, z1, -, -⟩ := pair_cells_ hz
      refine (Concat_two W.heap.size 2 a1 a2 n m c1 c2 xs ys _ z0 z1 (H1.out.mod hma (by simp)) (H2.out.mod hma (by simp)) (by omega) (by omega)).mono ?_; rintro e W1 ⟨a3, c3, rfl, h3, hb1⟩
      have HM1 := Lib.hid (hma.trans (Mod.of_same hb1))
      have H3 := Lib.hid h3
      clear hz hma z0 z1 h3 hb1
      generalize hp : n + m = p at *
      have hpI : (p : Int) ≤ 60 := by omega
      have HP := Lib.hid hp
      clear hp
      go_wp2_with fail
      go_loopw [21, 6] (fun i _ wr => ∃ k : Nat, k ≤ p ∧ i = .int .i64 k ∧ Hid (Mod (fun _ => False) W1 wr)) (fun i _ _ => p - (intOf i).toNat)
      case atStart => exact ⟨0, Nat.zero_le _, rfl, Mod.refl _ _⟩
      case round =>
        obtain ⟨k, hk, rfl, HMR⟩ := hrel
        by_cases hlt : k < p
        · have hltI : (k : Int) < p := by omega
          have hks : k < (xs ++ ys).length := by rw [H3.out.1]; exact hlt
          obtain ⟨b, o, v, e, hc, hs⟩ := H3.out.2 k _ (List.getElem?_eq_getElem hks)
          subst e
          obtain ⟨av, cv, e⟩ := hs.form
          subst e
          have hc' := HMR.out.cell (by simp) hc
          clear hc hs
          generalize ((xs ++ ys)[k]).size = z at *
          by_cases hz : (z : Int) > 200
          · have hz' : (200 : Int) < z := hz
            go_wp2_with fail
            refine (HAW.out wr).mono ?_; rintro e w2 ⟨rfl, hb⟩
            have HM2 := Lib.hid ((HM1.out.trans HMR.out).trans (Mod.of_same hb))
            clear hb
            go_wp2_with fail
            go_ret
            exact ⟨rfl, HM2.out.below (Nat.le_refl _) (by simp)⟩
          · have hz' : ¬ (200 : Int) < z := hz
            go_wp2_with fail
            exact ⟨⟨k + 1, by omega, by simp, HMR.out⟩, by simp [intOf]; omega⟩
        · obtain rfl : k = p := by omega
          have HMW := Lib.hid (HM1.out.trans HMR.out)
          have hlb := HLB.out wr (H1.out.mod HMW.out (by simp)) (H2.out.mod HMW.out (by simp)) (by omega) (by omega) hmc hcm
          have HLR' := Lib.hid (fun w2 (hb : Mod (fun _ => False) W w2) => HLR.out w2 (H1.out.mod hb (by simp)) (H2.out.mod hb (by simp)) (by omega) (by omega))
          generalize begB xs ys = r at *
          clear HLB HLR
          go_wp2_with fail
          refine hlb.mono ?_; rintro e w2 ⟨rfl, hb2⟩
          have HM2 := Lib.hid (HMW.out.trans (Mod.of_same hb2))
          clear hlb hb2
          go_wp2_with fail
          refine (HLR'.out w2 HM2.out).mono ?_; rintro e w3 ⟨rfl, hb3⟩
          have HM3 := Lib.hid (HM2.out.trans (Mod.of_same hb3))
          clear hb3
          have hrr : (r == r) = true := by simp
          go_wp2_with fail
          refine (HAW.out w3).mono ?_; rintro e w4 ⟨rfl, hb4⟩
          have HM4 := Lib.hid (HM3.out.trans (Mod.of_same hb4))
          clear hb4
          go_wp2_with fail
          go_ret
          exact ⟨by simp, HM4.out.below (Nat.le_refl _) (by simp)⟩
    · have e1 : (n : Int) ≤ 30 := by omega
      have e2 : ¬ (m : Int) ≤ 30 := by omega
      go_enter Tryz.func3, Tryz.ntmps3
      go_wp2_with fail
      refine (HAW.out W).mono ?_; rintro e w2 ⟨rfl, hb⟩
      have HB := Lib.hid hb
      clear hb
      go_wp2_with fail
      go_ret
      exact ⟨rfl, HB.out⟩
  · have e1 : ¬ (n : Int) ≤ 30 := by omega
    go_enter Tryz.func3, Tryz.ntmps3
    go_wp2_with fail
    refine (HAW.out W).mono ?_; rintro e w2 ⟨rfl, hb⟩
    have HB := Lib.hid hb
    clear hb
    go_wp2_with fail
    go_ret
    exact ⟨rfl, HB.out⟩
end Resp
end Go.Proofs.YtdfmgneicdpjmaaGreat
