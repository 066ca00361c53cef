import Derived.Test.YtdfmgneicdpjmaaGreatM13
import Derived.Test.YtdfmgneicdpjmaaGreatM16
import Derived.Test.YtdfmgneicdpjmaaGreatM05
import Derived.Lib.AppendZeros
import Derived.Deep.AppendLies
import Derived.Deep.AppendSrc
import Derived.Test.YtdfmgneicdpjmaaGreatM09
/- slices.Grow of nil, slices.Concat of two lists of lists of bytes. -/
namespace Go.Proofs.YtdfmgneicdpjmaaGreat
open Go.RowKit Go.Shelf
set_option linter.unusedVariables false
set_option linter.unusedSimpArgs false
set_option maxRecDepth 100000
namespace Resp

theorem owns_grown_ {base : Nat} {e : TypeId} (W : World) (g cap : Nat) (cs : Array Value) (h : W.heap[g]? = some (.cells cs e)) (hb : base ≤ g) (hc : cap ≤ maxLen) (hs : cs.size = cap) : W.ownsRow base e 1 (.slice (some ⟨g, 0, none⟩) 0 cap) 0 [] :=
  ⟨by simp, .inr ⟨g, cap, cs, rfl, hb, h, Nat.zero_le _, hc, by omega, by simp⟩⟩
set_option maxHeartbeats 1000000 in
theorem Grow_nil (k : Nat) (hk : k ≤ 4096) (W : World) :
    Calls Tryz.prog 45 #[.slice none 0 0, .int .i64 (k : Int)] W fun e w' => ∃ a c, e = .returned (.slice a 0 c) ∧ w'.ownsRow W.heap.size 25 1 (.slice a 0 c) 0 [] ∧ Below W.heap.size W w' := by
  obtain ⟨i1, hi, hz0, hz1, hz2⟩ := info_parts infoBytes
  have hkI : (k : Int) ≤ 4096 := by omega
  by_cases h0 : k = 0
  · subst h0
    go_enter Tryz.func45, Tryz.ntmps45
    go_wp2_with fail
    go_ret
    exact ⟨_, _, rfl, owns_nil _ _ _ _, Below.refl _ _⟩
  · have hk0 : 0 < (k : Int) := by omega
    have hkz : ¬ (k : Int) = 0 := by omega
    have hr := Lib.run_append_nil_zeros (P := Tryz.prog) W 22 3 22 25 i1 (.slice none 0 0) .i64 .i64 Tryz.underlying22 Tryz.underlying3 hi hz0 k (by omega) (by omega) (by omega) (by rw [hz2]; omega)
    have hge := grownCap_ge W k 0 25
    have hle := grownCap_le_maxLen W k 0 25 (by unfold maxLen; omega)
    have hsz : (Builtin.zeroCells (Value.cells (.slice none 0 0)) k ++ Builtin.zeroCells (Value.cells (.slice none 0 0)) (grownCap W k 0 25 - k)).size = grownCap W k 0 25 := by
      rw [Array.size_append, size_zeroCells, size_zeroCells]
      simp [Value.cells]
      omega
    go_enter Tryz.func45, Tryz.ntmps45
    go_wp2_with (at_builtin; refine Lib.wpList_append_run _ rfl _ _ _ _ rfl _ _ rfl rfl _ _ hr ?_)
    go_ret
    have hW1 : (W.alloc (.cells (Builtin.zeroCells (Value.cells (.slice none 0 0)) k ++ Builtin.zeroCells (Value.cells (.slice none 0 0)) (grownCap W k 0 25 - k)) 25)).heap[W.heap.size]? = _ := World.alloc_heap_new _ _
    exact ⟨_, _, rfl, owns_grown_ _ _ _ _ hW1 (Nat.le_refl _) hle hsz, ((Below.refl _ W).alloc (Nat.le_refl _) _).drew⟩
def rowVal (W : World) (a : Option Addr) (i : Nat) : Value := match a with
  | some A => (W.cell? ⟨A.block, A.off + i, none⟩).getD undef
  | none => undef
def rowVals (W : World) (a : Option Addr) (n : Nat) : List Value := (List.range n).map (rowVal W a)
theorem StrAt.one {W : World} {v : Value} {s : ByteArray} (h : StrAt W v s) : v.oneCell' = true := by
  obtain ⟨a, c, rfl⟩ := h.form
  rfl
theorem RowsAt.val {W : World} {a : Option Addr} {n : Nat} {ss : List ByteArray} (h : RowsAt W a n ss) {j : Nat} {z : Value} (hz : (rowVals W a n)[j]? = some z) : ∃ b o u, a = some ⟨b, o, none⟩ ∧ W.cell? ⟨b, o + j, none⟩ = some z ∧ ss[j]? = some u ∧ StrAt W z u := by
  have hj : j < n := by
    have := (List.getElem?_eq_some_iff.1 hz).1
    simpa [rowVals] using this
  rw [rowVals, List.getElem?_map, List.getElem?_range hj] at hz
  injection hz with hz
  have hjs : j < ss.length := by rw [h.1]; exact hj
  obtain ⟨b, o, v, e, hc, hs⟩ := h.2 j _ (List.getElem?_eq_getElem hjs)
  subst e
  have : rowVal W (some ⟨b, o, none⟩) j = v := by simp [rowVal, hc]
  rw [this] at hz
  subst hz
  exact ⟨b, o, _, rfl, hc, List.getElem?_eq_getElem hjs, hs⟩
theorem RowsAt.of_owns {W W' : World} {base : Nat} {a b : Option Addr} {n m c : Nat} {xs ys : List ByteArray} {a2 : Option Addr} (h1 : RowsAt W a n xs) (h2 : RowsAt W a2 m ys) (hm : Mod (fun _ => False) W W') (ho : W'.ownsRow base 25 1 (.slice b (n + m) c) (n + m) (rowVals W a n ++ rowVals W a2 m)) : RowsAt W' b (n + m) (xs ++ ys) := by
  refine ⟨by rw [List.length_append, h1.1, h2.1], fun i u hu => ?_⟩
  have hi : i < n + m := by
    have := (List.getElem?_eq_some_iff.1 hu).1
    rw [List.length_append, h1.1, h2.1] at this
    exact this
  obtain ⟨g, c', e, -, -, hc⟩ := owns_cells_pos_ ho (by omega)
  cases e
  have hl1 : (rowVals W a n).length = n := by simp [rowVals]
  have hl2 : (rowVals W a2 m).length = m := by simp [rowVals]
  have hl : i < (rowVals W a n ++ rowVals W a2 m).length := by rw [List.length_append, hl1, hl2]; exact hi
  have hz := List.getElem?_eq_getElem hl
  refine ⟨g, 0, _, rfl, by rw [Nat.zero_add]; exact hc i _ hz, ?_⟩
  generalize (rowVals W a n ++ rowVals W a2 m)[i] = z at hz
  by_cases hin : i < n
  · rw [List.getElem?_append_left (by rw [hl1]; exact hin)] at hz
    rw [List.getElem?_append_left (by rw [h1.1]; exact hin)] at hu
    obtain ⟨_, _, u', _, _, hu', hs⟩ := h1.val hz
    rw [hu] at hu'
    cases hu'
    exact hs.mod hm (by simp)
  · rw [List.getElem?_append_right (by rw [hl1]; omega), hl1] at hz
    rw [List.getElem?_append_right (by rw [h1.1]; omega), h1.1] at hu
    obtain ⟨_, _, u', _, _, hu', hs⟩ := h2.val hz
    rw [hu] at hu'
    cases hu'
    exact hs.mod hm (by simp)
theorem run_append_rowsB (w : World) (base : Nat) (v : Value) (n m c : Nat) (a : Option Addr) (xs ys : List Value) (hown : w.ownsRow base 25 1 v n xs) (hl : ys.length = m) (hsrc : ∀ j z, ys[j]? = some z → ∃ b o, a = some ⟨b, o, none⟩ ∧ w.cell? ⟨b, o + j, none⟩ = some z) (h1 : ∀ z ∈ ys, z.oneCell' = true)
    (h63 : n + m ≤ 4096) (hbase : base ≤ w.heap.size) :
    ∃ v' w', (Builtin.append_ #[22, 22] 22 #[v, .slice a m c]).run Tryz.prog w = .ok v' w' ∧ w'.ownsRow base 25 1 v' (n + m) (xs ++ ys) ∧ w.grownBy w' v.ownBlock := by
  obtain ⟨i1, hi, hz0, hz1, hz2⟩ := info_parts infoBytes
  cases a with
  | none =>
    have hy : ys = [] := by
      cases ys with
      | nil => rfl
      | cons z ys => obtain ⟨b, o, e, -⟩ := hsrc 0 z rfl; cases e
    subst hy
    obtain rfl : m = 0 := by simpa using hl.symm
    rw [List.append_nil]
    rcases hown.2 with ⟨rfl, rfl⟩ | ⟨g, cap, cur, rfl, hb, hg, h2, h3, h4, h5⟩
    · refine ⟨.slice none 0 0, w, ?_, hown, ⟨rfl, rfl, rfl, Nat.le_refl _, fun _ _ _ => rfl⟩⟩
      have hs := Src.ofNil (P := Tryz.prog) (w := w) (size := i1.size) Tryz.underlying22 c
      simp [Builtin.append_, run_underlying Tryz.underlying22, sizeOf, typeInfo, hi, hs.len, hs.cells]
    · have hs := Src.ofNil (P := Tryz.prog) (w := w) (size := i1.size) Tryz.underlying22 c
      have := run_append_room_src (w := w) 22 22 22 25 i1 Tryz.underlying22 hi g 0 n cap _ 0 [] hs (by omega) (by simp) (by simp)
      exact ⟨_, _, this, by simpa [World.setCells] using hown, by rw [World.setCells]; exact ⟨rfl, rfl, rfl, Nat.le_refl _, fun _ _ _ => rfl⟩⟩
  | some A =>
    obtain ⟨v', w', hr, h6, h7, _⟩ := run_append_own_at (P := Tryz.prog) w base 22 22 25 i1 (.slice none 0 0) 1 24 Tryz.underlying22 hi hz0 hz1 hz2 rfl (by decide) v n xs hown A m c ys (by omega) (fun j z hj => by
      obtain ⟨b, o, e, hc⟩ := hsrc j z hj
      cases e
      have : (⟨b, o, none⟩ : Addr).add j = ⟨b, o + j, none⟩ := by unfold Addr.add; split <;> simp_all
      rw [this]
      exact hc) h1 (by unfold maxLen; omega) (by omega) hbase
    exact ⟨v', w', hr, h6, h7⟩
set_option maxHeartbeats 2000000 in
theorem Concat_two (g c0 : Nat) (a1 a2 : Option Addr) (n m c1 c2 : Nat) (xs ys : List ByteArray) (W : World) (k0 : W.cell? ⟨g, 0, none⟩ = some (.slice a1 n c1)) (k1 : W.cell? ⟨g, 1, none⟩ = some (.slice a2 m c2)) (h1 : RowsAt W a1 n xs) (h2 : RowsAt W a2 m ys) (hn : n ≤ 1000) (hm : m ≤ 1000) :
    Calls Tryz.prog 12 #[.slice (some ⟨g, 0, none⟩) 2 c0] W fun e w' => ∃ a c, e = .returned (.slice a (n + m) c) ∧ RowsAt w' a (n + m) (xs ++ ys) ∧ Below W.heap.size W w' := by
  have hnI : (n : Int) ≤ 1000 := by omega
  have hmI : (m : Int) ≤ 1000 := by omega
  have H1 := Lib.hid h1
  have H2 := Lib.hid h2
  clear h1 h2
  go_enter Tryz.func12, Tryz.ntmps12
  go_wp2_with fail
  refine wp_loop_rounds 3 ?_
  rw [rounds_succ]
  go_wp2_with fail
  rw [rounds_succ]
  go_wp2_with fail
  rw [rounds_succ]
  go_wp2_with fail
  have hg := Grow_nil (n + m) (by omega) W
  rw [Int.natCast_add] at hg
  refine hg.mono ?_; rintro e W1 ⟨a0, d0, rfl, ho1, hb1⟩
  have HO1 := Lib.hid ho1
  have hm1 : Mod (fun _ => False) W W1 := Mod.of_same hb1
  have HM1 := Lib.hid hm1
  have k0' := hm1.cell (by simp) k0
  have k1' := hm1.cell (by simp) k1
  have hs1 : W.heap.size ≤ W1.heap.size := hb1.size
  have K1 := Lib.hid k1
  clear hg ho1 hb1 hm1 k0 k1
  obtain ⟨v2, W2, hr2, ho2, hg2⟩ := run_append_rowsB W1 W.heap.size (.slice a0 0 d0) 0 n c1 a1 [] (rowVals W a1 n) HO1.out (by simp [rowVals]) (fun j z hj => by
    obtain ⟨b, o, u, e, hc, -, -⟩ := H1.out.val hj
    exact ⟨b, o, e, HM1.out.cell (by simp) hc⟩) (fun z hz => by
    obtain ⟨j, hj, rfl⟩ := List.mem_iff_getElem.1 hz
    obtain ⟨_, _, _, _, _, _, hs⟩ := H1.out.val (List.getElem?_eq_getElem hj)
    exact hs.one) (by omega) hs1
  obtain ⟨a2', d2, e⟩ := ownsRow_form ho2
  subst e
  have hm2 : Mod (fun _ => False) W W2 := mod_trans_up_ HM1.out (Mod.of_grownBy hg2) (fun k hk e => by
    have := ownBlock_ge_ HO1.out e.symm
    omega)
  have HM2 := Lib.hid hm2
  have k1'' := hm2.cell (by simp) K1.out
  have hs2 : W.heap.size ≤ W2.heap.size := hm2.size
  have HO2 := Lib.hid ho2
  obtain ⟨v3, W3, hr3, ho3, hg3⟩ := run_append_rowsB W2 W.heap.size (.slice a2' (0 + n) d2) (0 + n) m c2 a2 _ (rowVals W a2 m) HO2.out (by simp [rowVals]) (fun j z hj => by
    obtain ⟨b, o, u, e, hc, -, -⟩ := H2.out.val hj
    exact ⟨b, o, e, HM2.out.cell (by simp) hc⟩) (fun z hz => by
    obtain ⟨j, hj, rfl⟩ := List.mem_iff_getElem.1 hz
    obtain ⟨_, _, _, _, _, _, hs⟩ := H2.out.val (List.getElem?_eq_getElem hj)
    exact hs.one) (by omega) hs2
  obtain ⟨a3, d3, e⟩ := ownsRow_form ho3
  subst e
  have hm3 : Mod (fun _ => False) W W3 := mod_trans_up_ HM2.out (Mod.of_grownBy hg3) (fun k hk e => by
    have := ownBlock_ge_ HO2.out e.symm
    omega)
  rw [Nat.zero_add, List.nil_append] at ho3
  rw [Nat.zero_add] at hr3 hr2
  have HR3 := Lib.hid (RowsAt.of_owns H1.out H2.out hm3 ho3)
  have HM3 := Lib.hid hm3
  clear ho2 hg2 hm2 ho3 hg3 hm3 HO1 HO2 HM1 HM2 H1 H2 K1
  go_wp2_with fail
  refine wp_loop_rounds 3 ?_
  rw [rounds_succ]
  go_wp2_with (at_builtin; refine Lib.wpList_append_run _ rfl _ _ _ _ rfl _ _ rfl rfl _ _ hr2 ?_)
  rw [rounds_succ]
  go_wp2_with (at_builtin; refine Lib.wpList_append_run _ rfl _ _ _ _ rfl _ _ rfl rfl _ _ hr3 ?_)
  rw [rounds_succ]
  go_wp2_with fail
  go_ret
  exact ⟨_, _, rfl, HR3.out, HM3.out.below (Nat.le_refl _) (by simp)⟩
end Resp
end Go.Proofs.YtdfmgneicdpjmaaGreat

/- The law ModelBegins. -/
namespace Go.Proofs.YtdfmgneicdpjmaaGreat
open Go.RowKit Go.Shelf
set_option linter.unusedVariables false
set_option linter.unusedSimpArgs false
set_option maxRecDepth 100000
namespace Resp

set_option maxHeartbeats 4000000 in
theorem lawBegins (a1 a2 : Option Addr) (n m c1 c2 : Nat) (xs ys : List ByteArray) (W : World) (h1 : RowsAt W a1 n xs) (h2 : RowsAt W a2 m ys) (hn : n ≤ maxLen) (hm : m ≤ maxLen) (hmc : m ≤ c2) (hcm : c2 ≤ maxLen) :
    Calls Tryz.prog 3 #[.slice a1 n c1, .slice a2 m c2] W fun e w' => e = .returned (.bool true) ∧ Below W.heap.size W w' := by
  have hn' := hn
  have hm' := hm
  unfold maxLen at hn' hm'
  have hnI : (n : Int) ≤ 9223372036854775807 := by omega
  have hmI : (m : Int) ≤ 9223372036854775807 := by omega
  have H1 := Lib.hid h1
  have H2 := Lib.hid h2
  have HAW := Lib.hid awake38
  clear h1 h2 hn' hm'
  by_cases hn30 : n ≤ 30
  · by_cases hm30 : m ≤ 30
    · have e1 : (n : Int) ≤ 30 := by omega
      have e2 : (m : Int) ≤ 30 := by omega
      have HLB := Lib.hid (Begins_any a1 a2 n m c1 c2 xs ys)
      have HLR := Lib.hid (BeginsR_any a1 a2 n m c1 c2 xs ys)
      go_enter Tryz.func3, Tryz.ntmps3
      go_wp2_with fail
      have hz := World.alloc_heap_new W (.cells #[.slice a1 n c1, .slice a2 m c2] 22)
      have hma : Mod (fun _ => False) W (W.alloc (.cells #[.slice a1 n c1, .slice a2 m c2] 22)) := (Mod.refl _ _).alloc _
      obtain ⟨z0, z1, -, -⟩ := pair_cells_ hz
      refine (Concat_two W.heap.size 2 a1 a2 n m c1 c2 xs ys _ z0 z1 (H1.out.mod hma (by simp)) (H2.out.mod hma (by simp)) (by omega) (by omega)).mono ?_; rintro e W1 ⟨a3, c3, rfl, h3, hb1⟩
      have HM1 := Lib.hid (hma.trans (Mod.of_same hb1))
      have H3 := Lib.hid h3
      clear hz hma z0 z1 h3 hb1
      generalize hp : n + m = p at *
      have hpI : (p : Int) ≤ 60 := by omega
      have HP := Lib.hid hp
      clear hp
      go_wp2_with fail
      go_loopw [21, 6] (fun i _ wr => ∃ k : Nat, k ≤ p ∧ i = .int .i64 k ∧ Hid (Mod (fun _ => False) W1 wr)) (fun i _ _ => p - (intOf i).toNat)
      case atStart => exact ⟨0, Nat.zero_le _, rfl, Mod.refl _ _⟩
      case round =>
        obtain ⟨k, hk, rfl, HMR⟩ := hrel
        by_cases hlt : k < p
        · have hltI : (k : Int) < p := by omega
          have hks : k < (xs ++ ys).length := by rw [H3.out.1]; exact hlt
          obtain ⟨b, o, v, e, hc, hs⟩ := H3.out.2 k _ (List.getElem?_eq_getElem hks)
          subst e
          obtain ⟨av, cv, e⟩ := hs.form
          subst e
          have hc' := HMR.out.cell (by simp) hc
          clear hc hs
          generalize ((xs ++ ys)[k]).size = z at *
          by_cases hz : (z : Int) > 200
          · have hz' : (200 : Int) < z := hz
            go_wp2_with fail
            refine (HAW.out wr).mono ?_; rintro e w2 ⟨rfl, hb⟩
            have HM2 := Lib.hid ((HM1.out.trans HMR.out).trans (Mod.of_same hb))
            clear hb
            go_wp2_with fail
            go_ret
            exact ⟨rfl, HM2.out.below (Nat.le_refl _) (by simp)⟩
          · have hz' : ¬ (200 : Int) < z := hz
            go_wp2_with fail
            exact ⟨⟨k + 1, by omega, by simp, HMR.out⟩, by simp [intOf]; omega⟩
        · obtain rfl : k = p := by omega
          have HMW := Lib.hid (HM1.out.trans HMR.out)
          have hlb := HLB.out wr (H1.out.mod HMW.out (by simp)) (H2.out.mod HMW.out (by simp)) (by omega) (by omega) hmc hcm
          have HLR' := Lib.hid (fun w2 (hb : Mod (fun _ => False) W w2) => HLR.out w2 (H1.out.mod hb (by simp)) (H2.out.mod hb (by simp)) (by omega) (by omega))
          generalize begB xs ys = r at *
          clear HLB HLR
          go_wp2_with fail
          refine hlb.mono ?_; rintro e w2 ⟨rfl, hb2⟩
          have HM2 := Lib.hid (HMW.out.trans (Mod.of_same hb2))
          clear hlb hb2
          go_wp2_with fail
          refine (HLR'.out w2 HM2.out).mono ?_; rintro e w3 ⟨rfl, hb3⟩
          have HM3 := Lib.hid (HM2.out.trans (Mod.of_same hb3))
          clear hb3
          have hrr : (r == r) = true := by simp
          go_wp2_with fail
          refine (HAW.out w3).mono ?_; rintro e w4 ⟨rfl, hb4⟩
          have HM4 := Lib.hid (HM3.out.trans (Mod.of_same hb4))
          clear hb4
          go_wp2_with fail
          go_ret
          exact ⟨by simp, HM4.out.below (Nat.le_refl _) (by simp)⟩
    · have e1 : (n : Int) ≤ 30 := by omega
      have e2 : ¬ (m : Int) ≤ 30 := by omega
      go_enter Tryz.func3, Tryz.ntmps3
      go_wp2_with fail
      refine (HAW.out W).mono ?_; rintro e w2 ⟨rfl, hb⟩
      have HB := Lib.hid hb
      clear hb
      go_wp2_with fail
      go_ret
      exact ⟨rfl, HB.out⟩
  · have e1 : ¬ (n : Int) ≤ 30 := by omega
    go_enter Tryz.func3, Tryz.ntmps3
    go_wp2_with fail
    refine (HAW.out W).mono ?_; rintro e w2 ⟨rfl, hb⟩
    have HB := Lib.hid hb
    clear hb
    go_wp2_with fail
    go_ret
    exact ⟨rfl, HB.out⟩
end Resp
end Go.Proofs.YtdfmgneicdpjmaaGreat

/- Entries of a script: what they are in memory; script.within, Same, Clean. -/
namespace Go.Proofs.YtdfmgneicdpjmaaGreat
open Go.RowKit Go.Shelf
set_option linter.unusedVariables false
set_option linter.unusedSimpArgs false
set_option maxRecDepth 100000
namespace View
open Resp

/-- An entry. -/
structure Ent where
  kind : Int
  slot : Int
  n : Int
  bytes : ByteArray
deriving DecidableEq

def EntAt (W : World) (b o : Nat) (e : Ent) : Prop := ∃ v, W.cell? ⟨b, o, none⟩ = some (.int .u8 e.kind) ∧ W.cell? ⟨b, o + 1, none⟩ = some (.int .i64 e.slot) ∧ W.cell? ⟨b, o + 2, none⟩ = some (.int .i64 e.n) ∧ W.cell? ⟨b, o + 3, none⟩ = some v ∧ StrAt W v e.bytes
def entV (e : Ent) (v : Value) : Value := .agg #[.int .u8 e.kind, .int .i64 e.slot, .int .i64 e.n, v]
theorem EntAt.mod {S : Nat → Prop} {W W' : World} {b o : Nat} {e : Ent} (h : EntAt W b o e) (hm : Mod S W W') (hS : ∀ g, ¬ S g) : EntAt W' b o e := by
  obtain ⟨v, h0, h1, h2, h3, h4⟩ := h
  exact ⟨v, hm.cell (hS _) h0, hm.cell (hS _) h1, hm.cell (hS _) h2, hm.cell (hS _) h3, h4.mod hm hS⟩
/-- The slice (a, n) holds the entries es. -/
def ScrAt (W : World) (a : Option Addr) (n : Nat) (es : List Ent) : Prop := es.length = n ∧ ∀ i e, es[i]? = some e → ∃ b o, a = some ⟨b, o, none⟩ ∧ EntAt W b (o + i * 4) e
theorem ScrAt.mod {S : Nat → Prop} {W W' : World} {a : Option Addr} {n : Nat} {es : List Ent} (h : ScrAt W a n es) (hm : Mod S W W') (hS : ∀ g, ¬ S g) : ScrAt W' a n es :=
  ⟨h.1, fun i e he => by
    obtain ⟨b, o, e1, h1⟩ := h.2 i e he
    exact ⟨b, o, e1, h1.mod hm hS⟩⟩
theorem ScrAt.below {W W' : World} {a : Option Addr} {n : Nat} {es : List Ent} (h : ScrAt W a n es) (hb : Below W.heap.size W W') : ScrAt W' a n es := h.mod (S := fun _ => False) (Mod.of_same hb) (by simp)
theorem StrAt.below {W W' : World} {v : Value} {s : ByteArray} (h : StrAt W v s) (hb : Below W.heap.size W W') : StrAt W' v s := h.mod (S := fun _ => False) (Mod.of_same hb) (by simp)
theorem StrAt.nil (W : World) : StrAt W (.slice none 0 0) ByteArray.empty := ⟨[], .inl ⟨none, 0, rfl, rfl⟩, rfl⟩

def withinB (n : Int) : Bool := decide (0 ≤ n ∧ n ≤ 4294967295)
theorem within_any (n : Int) (w : World) : Calls Tryz.prog 118 #[.int .i64 n] w fun e w' => e = .returned (.bool (withinB n)) ∧ w = w' := by
  by_cases h1 : 0 ≤ n
  · by_cases h2 : n ≤ 4294967295
    · have HE : Hid (withinB n = true) := by unfold withinB; exact decide_eq_true ⟨h1, h2⟩
      go_enter Tryz.func118, Tryz.ntmps118
      go_wp2_with fail
      go_ret
      exact ⟨by rw [HE.out]; simp, rfl⟩
    · have HE : Hid (withinB n = false) := by unfold withinB; exact decide_eq_false (by omega)
      go_enter Tryz.func118, Tryz.ntmps118
      go_wp2_with fail
      go_ret
      exact ⟨by rw [HE.out]; simp, rfl⟩
  · have HE : Hid (withinB n = false) := by unfold withinB; exact decide_eq_false (by omega)
    go_enter Tryz.func118, Tryz.ntmps118
    go_wp2_with fail
    go_ret
    exact ⟨by rw [HE.out]; rfl, rfl⟩

def sameB (a b : Ent) : Bool := a.kind == b.kind && a.slot == b.slot && a.n == b.n && decide (a.bytes = b.bytes)
set_option maxHeartbeats 1000000 in
theorem Same_any (k1 s1 n1 k2 s2 n2 : Int) (v1 v2 : Value) (b1 b2 : ByteArray) (w : World) (h1 : StrAt w v1 b1) (h2 : StrAt w v2 b2) :
    Calls Tryz.prog 22 #[.agg #[.int .u8 k1, .int .i64 s1, .int .i64 n1, v1], .agg #[.int .u8 k2, .int .i64 s2, .int .i64 n2, v2]] w fun e w' => e = .returned (.bool (sameB ⟨k1, s1, n1, b1⟩ ⟨k2, s2, n2, b2⟩)) ∧ Below w.heap.size w w' := by
  obtain ⟨a1, c1, rfl⟩ := h1.form
  obtain ⟨a2, c2, rfl⟩ := h2.form
  have H1 := Lib.hid h1
  have H2 := Lib.hid h2
  clear h1 h2
  have hb2 : Below w.heap.size w ((w.alloc (.cells #[.int .u8 k1, .int .i64 s1, .int .i64 n1, .slice a1 b1.size c1] 38)).alloc (.cells #[.int .u8 k2, .int .i64 s2, .int .i64 n2, .slice a2 b2.size c2] 38)) := ((Below.refl _ _).alloc (Nat.le_refl _) _).alloc (by simp) _
  have HB := Lib.hid hb2
  clear hb2
  by_cases hk : k1 = k2
  · by_cases hs : s1 = s2
    · by_cases hn : n1 = n2
      · subst hk hs hn
        have HE : Hid (sameB ⟨k1, s1, n1, b1⟩ ⟨k1, s1, n1, b2⟩ = decide (b1 = b2)) := by simp [Hid, sameB]
        go_enter Tryz.func22, Tryz.ntmps22
        go_wp2_with fail
        refine (EqualB_any _ _ b1 b2 _ (StrAt.below H1.out HB.out) (StrAt.below H2.out HB.out)).mono ?_; rintro e w' ⟨rfl, rfl⟩
        go_wp2_with fail
        go_ret
        exact ⟨by rw [HE.out]; rfl, HB.out⟩
      · have hn' : (n1 == n2) = false := by simpa using hn
        have HE : Hid (sameB ⟨k1, s1, n1, b1⟩ ⟨k2, s2, n2, b2⟩ = false) := by simp [Hid, sameB, hn]
        subst hk hs
        clear hn
        go_enter Tryz.func22, Tryz.ntmps22
        go_wp2_with fail
        go_ret
        exact ⟨by rw [HE.out]; rfl, HB.out⟩
    · have hs' : (s1 == s2) = false := by simpa using hs
      have HE : Hid (sameB ⟨k1, s1, n1, b1⟩ ⟨k2, s2, n2, b2⟩ = false) := by simp [Hid, sameB, hs]
      subst hk
      clear hs
      go_enter Tryz.func22, Tryz.ntmps22
      go_wp2_with fail
      go_ret
      exact ⟨by rw [HE.out]; rfl, HB.out⟩
  · have hk' : (k1 == k2) = false := by simpa using hk
    have HE : Hid (sameB ⟨k1, s1, n1, b1⟩ ⟨k2, s2, n2, b2⟩ = false) := by simp [Hid, sameB, hk]
    clear hk
    go_enter Tryz.func22, Tryz.ntmps22
    go_wp2_with fail
    go_ret
    exact ⟨by rw [HE.out]; rfl, HB.out⟩

def cleanB (e : Ent) : Bool :=
  if e.kind = 1 then withinB e.slot && (e.n == 0 && decide (e.bytes.size ≤ 16384))
  else if e.kind = 2 then sameB e ⟨2, 0, 0, ByteArray.empty⟩
  else if e.kind = 3 then withinB e.n && sameB e ⟨3, 0, e.n, ByteArray.empty⟩
  else false
set_option maxHeartbeats 1000000 in
theorem Clean_any (k s n : Int) (v : Value) (b : ByteArray) (w : World) (h : StrAt w v b) :
    Calls Tryz.prog 83 #[.agg #[.int .u8 k, .int .i64 s, .int .i64 n, v]] w fun e w' => e = .returned (.bool (cleanB ⟨k, s, n, b⟩)) ∧ Below w.heap.size w w' := by
  obtain ⟨a, c, rfl⟩ := h.form
  have hb : Below w.heap.size w (w.alloc (.cells #[.int .u8 k, .int .i64 s, .int .i64 n, .slice a b.size c] 38)) := (Below.refl _ _).alloc (Nat.le_refl _) _
  have HB := Lib.hid hb
  have H := Lib.hid (StrAt.below h hb)
  clear hb h
  by_cases h1 : k = 1
  · subst h1
    by_cases hs : withinB s = true
    · by_cases hn : n = 0
      · subst hn
        by_cases hl : (b.size : Int) ≤ 16384
        · have HE : Hid (cleanB ⟨1, s, 0, b⟩ = true) := by simp [Hid, cleanB, hs]; omega
          go_enter Tryz.func83, Tryz.ntmps83
          go_wp2_with fail
          refine (within_any _ _).mono ?_; rintro e w' ⟨rfl, rfl⟩
          go_wp2_with fail
          go_ret
          exact ⟨by rw [HE.out]; simp, HB.out⟩
        · have HE : Hid (cleanB ⟨1, s, 0, b⟩ = false) := by simp [Hid, cleanB, hs]; omega
          go_enter Tryz.func83, Tryz.ntmps83
          go_wp2_with fail
          refine (within_any _ _).mono ?_; rintro e w' ⟨rfl, rfl⟩
          go_wp2_with fail
          go_ret
          exact ⟨by rw [HE.out]; simp; omega, HB.out⟩
      · have hn' : (n == 0) = false := by simpa using hn
        have HE : Hid (cleanB ⟨1, s, n, b⟩ = false) := by simp [Hid, cleanB, hn]
        clear hn
        go_enter Tryz.func83, Tryz.ntmps83
        go_wp2_with fail
        refine (within_any _ _).mono ?_; rintro e w' ⟨rfl, rfl⟩
        go_wp2_with fail
        go_ret
        exact ⟨by rw [HE.out]; simp, HB.out⟩
    · have hs' : withinB s = false := by simpa using hs
      have HE : Hid (cleanB ⟨1, s, n, b⟩ = false) := by simp [Hid, cleanB, hs']
      clear hs
      go_enter Tryz.func83, Tryz.ntmps83
      go_wp2_with fail
      refine (within_any _ _).mono ?_; rintro e w' ⟨rfl, rfl⟩
      go_wp2_with fail
      go_ret
      exact ⟨by rw [HE.out]; simp, HB.out⟩
  · by_cases h2 : k = 2
    · subst h2
      have HE : Hid (cleanB ⟨2, s, n, b⟩ = sameB ⟨2, s, n, b⟩ ⟨2, 0, 0, ByteArray.empty⟩) := by simp [Hid, cleanB]
      clear h1
      go_enter Tryz.func83, Tryz.ntmps83
      go_wp2_with fail
      refine (Same_any 2 s n 2 0 0 _ _ b ByteArray.empty _ H.out (StrAt.nil _)).mono ?_; rintro e w' ⟨rfl, hb2⟩
      have HB2 := Lib.hid (below_step_ HB.out hb2)
      clear hb2
      go_wp2_with fail
      go_ret
      exact ⟨by rw [HE.out]; rfl, HB2.out⟩
    · by_cases h3 : k = 3
      · subst h3
        clear h1 h2
        by_cases hn : withinB n = true
        · have HE : Hid (cleanB ⟨3, s, n, b⟩ = sameB ⟨3, s, n, b⟩ ⟨3, 0, n, ByteArray.empty⟩) := by simp [Hid, cleanB, hn]
          go_enter Tryz.func83, Tryz.ntmps83
          go_wp2_with fail
          refine (within_any _ _).mono ?_; rintro e w' ⟨rfl, rfl⟩
          go_wp2_with fail
          refine (Same_any 3 s n 3 0 n _ _ b ByteArray.empty _ H.out (StrAt.nil _)).mono ?_; rintro e w' ⟨rfl, hb2⟩
          have HB2 := Lib.hid (below_step_ HB.out hb2)
          clear hb2
          go_wp2_with fail
          go_ret
          exact ⟨by rw [HE.out]; rfl, HB2.out⟩
        · have hn' : withinB n = false := by simpa using hn
          have HE : Hid (cleanB ⟨3, s, n, b⟩ = false) := by simp [Hid, cleanB, hn']
          clear hn
          go_enter Tryz.func83, Tryz.ntmps83
          go_wp2_with fail
          refine (within_any _ _).mono ?_; rintro e w' ⟨rfl, rfl⟩
          go_wp2_with fail
          go_ret
          exact ⟨by rw [HE.out]; rfl, HB.out⟩
      · have h1' : (k == 1) = false := by simpa using h1
        have h2' : (k == 2) = false := by simpa using h2
        have h3' : (k == 3) = false := by simpa using h3
        have HE : Hid (cleanB ⟨k, s, n, b⟩ = false) := by simp [Hid, cleanB, h1, h2, h3]
        clear h1 h2 h3
        go_enter Tryz.func83, Tryz.ntmps83
        go_wp2_with fail
        go_ret
        exact ⟨by rw [HE.out]; rfl, HB.out⟩

theorem ScrAt.at_ {W : World} {a : Option Addr} {n : Nat} {es : List Ent} (h : ScrAt W a n es) {i : Nat} (hi : i < es.length) : ∃ b o v sa sc, a = some ⟨b, o, none⟩ ∧ b < W.heap.size ∧ W.cell? ⟨b, o + i * 4, none⟩ = some (.int .u8 es[i].kind) ∧ W.cell? ⟨b, o + i * 4 + 1, none⟩ = some (.int .i64 es[i].slot) ∧ W.cell? ⟨b, o + i * 4 + 2, none⟩ = some (.int .i64 es[i].n) ∧ W.cell? ⟨b, o + i * 4 + 3, none⟩ = some v ∧ StrAt W v es[i].bytes ∧ v = .slice sa es[i].bytes.size sc := by
  obtain ⟨b, o, e, v, h0, h1, h2, h3, h4⟩ := h.2 i _ (List.getElem?_eq_getElem hi)
  obtain ⟨sa, sc, e2⟩ := h4.form
  exact ⟨b, o, v, sa, sc, e, World.block_lt_of_cell? W _ h0, h0, h1, h2, h3, h4, e2⟩
def badAt (es : List Ent) : Nat := es.findIdx (fun e => !cleanB e)
theorem badAt_le (es : List Ent) : badAt es ≤ es.length := List.findIdx_le_length
def chkI (es : List Ent) : Int := if 4000 < es.length then -1 else if badAt es < es.length then (badAt es : Int) else -1
def chkE (es : List Ent) : Int := if 4000 < es.length then 5 else if badAt es < es.length then 410 else 0
set_option maxHeartbeats 1000000 in
theorem Check_any (a : Option Addr) (n c : Nat) (es : List Ent) (W : World) (h : ScrAt W a n es) (hn : n ≤ maxLen) :
    Calls Tryz.prog 38 #[.slice a n c] W fun e w' => e = .returned (.tuple #[.int .i64 (chkI es), .int .i64 (chkE es)]) ∧ Below W.heap.size W w' := by
  have hl := h.1
  unfold maxLen at hn
  by_cases hm : 4000 < n
  · have hmI : (4000 : Int) < n := by omega
    have HI : Hid (chkI es = -1) := by simp [Hid, chkI, hl, hm]
    have HE : Hid (chkE es = 5) := by simp [Hid, chkE, hl, hm]
    clear hl h
    go_enter Tryz.func38, Tryz.ntmps38
    go_wp2_with fail
    go_step3
    go_wp2_with fail
    rw [Exit.noGoto_ret]
    go_ret2
    exact ⟨by rw [HI.out, HE.out]; rfl, Below.refl _ _⟩
  · have hmI : ¬ (4000 : Int) < n := by omega
    have HI : Hid (chkI es = if badAt es < es.length then (badAt es : Int) else -1) := by simp [Hid, chkI, hl, hm]
    have HE : Hid (chkE es = if badAt es < es.length then 410 else 0) := by simp [Hid, chkE, hl, hm]
    have H := Lib.hid h
    have HL := Lib.hid hl
    clear hl h
    go_enter Tryz.func38, Tryz.ntmps38
    go_wp2_with fail
    go_step3
    go_wp2_with fail
    go_step3
    go_wp2_with fail
    go_loopw [12, 5, 6, 4, 14, 15, 16] (fun i _ _ a4 _ _ _ wr => ∃ k : Nat, k ≤ n ∧ i = .int .i64 k ∧ a4 = .int .i64 (-1) ∧ Hid (k ≤ badAt es) ∧ Hid (Below W.heap.size W wr)) (fun i _ _ _ _ _ _ _ => n - (intOf i).toNat)
    case atStart => exact ⟨0, Nat.zero_le _, rfl, rfl, Nat.zero_le _, Below.refl _ _⟩
    case round =>
      obtain ⟨k, hk, rfl, rfl, HKB, HB⟩ := hrel
      by_cases hlt : k < n
      · have hltI : (k : Int) < n := by omega
        have hk2 : k < es.length := by have := HL.out; omega
        obtain ⟨b, o, v, sa, sc, rfl, hbl, c0, c1, c2, c3, hst, rfl⟩ := (H.out.below HB.out).at_ hk2
        have hb2 : Below wr.heap.size wr (wr.alloc (.cells #[.int .u8 es[k].kind, .int .i64 es[k].slot, .int .i64 es[k].n, .slice sa es[k].bytes.size sc] 38)) := (Below.refl _ _).alloc (Nat.le_refl _) _
        have HB2 := Lib.hid (below_step_ HB.out hb2)
        have HST := Lib.hid (StrAt.below hst hb2)
        clear hst hb2 hbl
        by_cases hcl : cleanB es[k] = true
        · have HN : Hid (k + 1 ≤ badAt es) := by
            have h1 := HKB.out
            rcases Nat.lt_or_ge k (badAt es) with h2 | h2
            · exact h2
            · exfalso
              have h3 : badAt es = k := by omega
              have h4 : badAt es < es.length := by omega
              have := List.findIdx_getElem (p := fun e => !cleanB e) (w := h4)
              have h5 : es[badAt es]'h4 = es[k] := by congr 1
              unfold badAt at h4 h5
              rw [h5] at this
              simp [hcl] at this
          have HC := Lib.hid (Clean_any es[k].kind es[k].slot es[k].n (.slice sa es[k].bytes.size sc) es[k].bytes _ HST.out)
          generalize hz : es[k] = z at *
          have HCL := Lib.hid hcl
          clear hz hcl hk2
          go_wp2_with fail
          refine HC.out.mono ?_; rintro e w' ⟨rfl, hb3⟩
          have HB3 := Lib.hid (below_step_ HB2.out hb3)
          rw [show (⟨z.kind, z.slot, z.n, z.bytes⟩ : Ent) = z from rfl, HCL.out]
          clear hb3
          go_wp2_with fail
          exact ⟨⟨k + 1, by omega, by simp, rfl, HN.out, HB3.out⟩, by simp [intOf]; omega⟩
        · have HN : Hid (badAt es = k) := by
            have h1 := HKB.out
            rcases Nat.lt_or_ge k (badAt es) with h2 | h2
            · exfalso
              have := List.not_of_lt_findIdx (p := fun e => !cleanB e) h2
              simp at this
              exact hcl this
            · show badAt es = k
              omega
          have hcl' : cleanB es[k] = false := by simpa using hcl
          have HC := Lib.hid (Clean_any es[k].kind es[k].slot es[k].n (.slice sa es[k].bytes.size sc) es[k].bytes _ HST.out)
          generalize hz : es[k] = z at *
          have HCL := Lib.hid hcl'
          have hkI : ¬ (k : Int) < 0 := by omega
          have hkJ : (0 : Int) ≤ k := by omega
          clear hz hcl hcl'
          have HK2 := Lib.hid hk2
          clear hk2
          go_wp2_with fail
          refine HC.out.mono ?_; rintro e w' ⟨rfl, hb3⟩
          have HB3 := Lib.hid (below_step_ HB2.out hb3)
          rw [show (⟨z.kind, z.slot, z.n, z.bytes⟩ : Ent) = z from rfl, HCL.out]
          clear hb3
          go_wp2_with fail
          rw [Exit.noGoto_ret]
          go_ret2
          refine ⟨?_, HB3.out⟩
          rw [HI.out, HE.out, HN.out, if_pos HK2.out, if_pos HK2.out]
          rfl
      · obtain rfl : k = n := by omega
        have HN : Hid (¬ badAt es < es.length) := by
          have h1 := HKB.out
          have h2 := HL.out
          show ¬ badAt es < es.length
          omega
        go_wp2_with fail
        rw [Exit.noGoto_ret]
        go_ret2
        refine ⟨?_, HB.out⟩
        rw [HI.out, HE.out, if_neg HN.out, if_neg HN.out]
        rfl
end View
end Go.Proofs.YtdfmgneicdpjmaaGreat
