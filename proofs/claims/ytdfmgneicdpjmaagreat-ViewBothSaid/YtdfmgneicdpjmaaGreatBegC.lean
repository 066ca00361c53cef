/- slices.Grow of nil, slices.Concat of two lists of lists of bytes. -/
import Derived.Test.YtdfmgneicdpjmaaGreatBegA
import Derived.Test.YtdfmgneicdpjmaaGreatReadE
import Derived.Test.YtdfmgneicdpjmaaGreatTenB
import Derived.Lib.AppendZeros
import Derived.Deep.AppendLies
import Derived.Deep.AppendSrc
namespace Go.Proofs.YtdfmgneicdpjmaaGreat
open Go.RowKit Go.Shelf
set_option linter.unusedVariables false
set_option linter.unusedSimpArgs false
set_option maxRecDepth 100000
namespace Resp

theorem owns_grown_ {base : Nat} {e : TypeId} (W : World) (g cap : Nat) (cs : Array Value) (h : W.heap[g]? = some (.cells cs e)) (hb : base ≤ g) (hc : cap ≤ maxLen) (hs : cs.size = cap) : W.ownsRow base e 1 (.slice (some ⟨g, 0, none⟩) 0 cap) 0 [] :=
  ⟨by simp, .inr ⟨g, cap, cs, rfl, hb, h, Nat.zero_le _, hc, by omega, by simp⟩⟩
set_option maxHeartbeats 1000000 in
theorem Grow_nil (k : Nat) (hk : k ≤ 4096) (W : World) :
    Calls Tryz.prog 45 #[.slice none 0 0, .int .i64 (k : Int)] W fun e w' => ∃ a c, e = .returned (.slice a 0 c) ∧ w'.ownsRow W.heap.size 25 1 (.slice a 0 c) 0 [] ∧ Below W.heap.size W w' := by
  obtain ⟨i1, hi, hz0, hz1, hz2⟩ := info_parts infoBytes
  have hkI : (k : Int) ≤ 4096 := by omega
  by_cases h0 : k = 0
  · subst h0
    go_enter Tryz.func45, Tryz.ntmps45
    go_wp2_with fail
    go_ret
    exact ⟨_, _, rfl, owns_nil _ _ _ _, Below.refl _ _⟩
  · have hk0 : 0 < (k : Int) := by omega
    have hkz : ¬ (k : Int) = 0 := by omega
    have hr := Lib.run_append_nil_zeros (P := Tryz.prog) W 22 3 22 25 i1 (.slice none 0 0) .i64 .i64 Tryz.underlying22 Tryz.underlying3 hi hz0 k (by omega) (by omega) (by omega) (by rw [hz2]; omega)
    have hge := grownCap_ge W k 0 25
    have hle := grownCap_le_maxLen W k 0 25 (by unfold maxLen; omega)
    have hsz : (Builtin.zeroCells (Value.cells (.slice none 0 0)) k ++ Builtin.zeroCells (Value.cells (.slice none 0 0)) (grownCap W k 0 25 - k)).size = grownCap W k 0 25 := by
      rw [Array.size_append, size_zeroCells, size_zeroCells]
      simp [Value.cells]
      omega
    go_enter Tryz.func45, Tryz.ntmps45
    go_wp2_with (at_builtin; refine Lib.wpList_append_run _ rfl _ _ _ _ rfl _ _ rfl rfl _ _ hr ?_)
    go_ret
    have hW1 : (W.alloc (.cells (Builtin.zeroCells (Value.cells (.slice none 0 0)) k ++ Builtin.zeroCells (Value.cells (.slice none 0 0)) (grownCap W k 0 25 - k)) 25)).heap[W.heap.size]? = _ := World.alloc_heap_new _ _
    exact ⟨_, _, rfl, owns_grown_ _ _ _ _ hW1 (Nat.le_refl _) hle hsz, ((Below.refl _ W).alloc (Nat.le_refl _) _).drew⟩
def rowVal (W : World) (a : Option Addr) (i : Nat) : Value := match a with
  | some A => (W.cell? ⟨A.block, A.off + i, none⟩).getD undef
  | none => undef
def rowVals (W : World) (a : Option Addr) (n : Nat) : List Value := (List.range n).map (rowVal W a)
theorem StrAt.one {W : World} {v : Value} {s : ByteArray} (h : StrAt W v s) : v.oneCell' = true := by
  obtain ⟨a, c, rfl⟩ := h.form
  rfl
theorem RowsAt.val {W : World} {a : Option Addr} {n : Nat} {ss : List ByteArray} (h : RowsAt W a n ss) {j : Nat} {z : Value} (hz : (rowVals W a n)[j]? = some z) : ∃ b o u, a = some ⟨b, o, none⟩ ∧ W.cell? ⟨b, o + j, none⟩ = some z ∧ ss[j]? = some u ∧ StrAt W z u := by
  have hj : j < n := by
    have := (List.getElem?_eq_some_iff.1 hz).1
    simpa [rowVals] using this
  rw [rowVals, List.getElem?_map, List.getElem?_range hj] at hz
  injection hz with hz
  have hjs : j < ss.length := by rw [h.1]; exact hj
  obtain ⟨b, o, v, e, hc, hs⟩ := h.2 j _ (List.getElem?_eq_getElem hjs)
  subst e
  have : rowVal W (some ⟨b, o, none⟩) j = v := by simp [rowVal, hc]
  rw [this] at hz
  subst hz
  exact ⟨b, o, _, rfl, hc, List.getElem?_eq_getElem hjs, hs⟩
theorem RowsAt.of_owns {W W' : World} {base : Nat} {a b : Option Addr} {n m c : Nat} {xs ys : List ByteArray} {a2 : Option Addr} (h1 : RowsAt W a n xs) (h2 : RowsAt W a2 m ys) (hm : Mod (fun _ => False) W W') (ho : W'.ownsRow base 25 1 (.slice b (n + m) c) (n + m) (rowVals W a n ++ rowVals W a2 m)) : RowsAt W' b (n + m) (xs ++ ys) := by
  refine ⟨by rw [List.length_append, h1.1, h2.1], fun i u hu => ?_⟩
  have hi : i < n + m := by
    have := (List.getElem?_eq_some_iff.1 hu).1
    rw [List.length_append, h1.1, h2.1] at this
    exact this
  obtain ⟨g, c', e, -, -, hc⟩ := owns_cells_pos_ ho (by omega)
  cases e
  have hl1 : (rowVals W a n).length = n := by simp [rowVals]
  have hl2 : (rowVals W a2 m).length = m := by simp [rowVals]
  have hl : i < (rowVals W a n ++ rowVals W a2 m).length := by rw [List.length_append, hl1, hl2]; exact hi
  have hz := List.getElem?_eq_getElem hl
  refine ⟨g, 0, _, rfl, by rw [Nat.zero_add]; exact hc i _ hz, ?_⟩
  generalize (rowVals W a n ++ rowVals W a2 m)[i] = z at hz
  by_cases hin : i < n
  · rw [List.getElem?_append_left (by rw [hl1]; exact hin)] at hz
    rw [List.getElem?_append_left (by rw [h1.1]; exact hin)] at hu
    obtain ⟨_, _, u', _, _, hu', hs⟩ := h1.val hz
    rw [hu] at hu'
    cases hu'
    exact hs.mod hm (by simp)
  · rw [List.getElem?_append_right (by rw [hl1]; omega), hl1] at hz
    rw [List.getElem?_append_right (by rw [h1.1]; omega), h1.1] at hu
    obtain ⟨_, _, u', _, _, hu', hs⟩ := h2.val hz
    rw [hu] at hu'
    cases hu'
    exact hs.mod hm (by simp)
theorem run_append_rowsB (w : World) (base : Nat) (v : Value) (n m c : Nat) (a : Option Addr) (xs ys : List Value) (hown : w.ownsRow base 25 1 v n xs) (hl : ys.length = m) (hsrc : ∀ j z, ys[j]? = some z → ∃ b o, a = some ⟨b, o, none⟩ ∧ w.cell? ⟨b, o + j, none⟩ = some z) (h1 : ∀ z ∈ ys, z.oneCell' = true)
    (h63 : n + m ≤ 4096) (hbase : base ≤ w.heap.size) :
    ∃ v' w', (Builtin.append_ #[22, 22] 22 #[v, .slice a m c]).run Tryz.prog w = .ok v' w' ∧ w'.ownsRow base 25 1 v' (n + m) (xs ++ ys) ∧ w.grownBy w' v.ownBlock := by
  obtain ⟨i1, hi, hz0, hz1, hz2⟩ := info_parts infoBytes
  cases a with
  | none =>
    have hy : ys = [] := by
      cases ys with
      | nil => rfl
      | cons z ys => obtain ⟨b, o, e, -⟩ := hsrc 0 z rfl; cases e
    subst hy
    obtain rfl : m = 0 := by simpa using hl.symm
    rw [List.append_nil]
    rcases hown.2 with ⟨rfl, rfl⟩ | ⟨g, cap, cur, rfl, hb, hg, h2, h3, h4, h5⟩
    · refine ⟨.slice none 0 0, w, ?_, hown, ⟨rfl, rfl, rfl, Nat.le_refl _, fun _ _ _ => rfl⟩⟩
      have hs := Src.ofNil (P := Tryz.prog) (w := w) (size := i1.size) Tryz.underlying22 c
      simp [Builtin.append_, run_underlying Tryz.underlying22, sizeOf, typeInfo, hi, hs.len, hs.cells]
    · have hs := Src.ofNil (P := Tryz.prog) (w := w) (size := i1.size) Tryz.underlying22 c
      have := run_append_room_src (w := w) 22 22 22 25 i1 Tryz.underlying22 hi g 0 n cap _ 0 [] hs (by omega) (by simp) (by simp)
      exact ⟨_, _, this, by simpa [World.setCells] using hown, by rw [World.setCells]; exact ⟨rfl, rfl, rfl, Nat.le_refl _, fun _ _ _ => rfl⟩⟩
  | some A =>
    obtain ⟨v', w', hr, h6, h7, _⟩ := run_append_own_at (P := Tryz.prog) w base 22 22 25 i1 (.slice none 0 0) 1 24 Tryz.underlying22 hi hz0 hz1 hz2 rfl (by decide) v n xs hown A m c ys (by omega) (fun j z hj => by
      obtain ⟨b, o, e, hc⟩ := hsrc j z hj
      cases e
      have : (⟨b, o, none⟩ : Addr).add j = ⟨b, o + j, none⟩ := by unfold Addr.add; split <;> simp_all
      rw [this]
      exact hc) h1 (by unfold maxLen; omega) (by omega) hbase
    exact ⟨v', w', hr, h6, h7⟩
set_option maxHeartbeats 2000000 in
theorem Concat_two (g c0 : Nat) (a1 a2 : Option Addr) (n m c1 c2 : Nat) (xs ys : List ByteArray) (W : World) (k0 : W.cell? ⟨g, 0, none⟩ = some (.slice a1 n c1)) (k1 : W.cell? ⟨g, 1, none⟩ = some (.slice a2 m c2)) (h1 : RowsAt W a1 n xs) (h2 : RowsAt W a2 m ys) (hn : n ≤ 1000) (hm : m ≤ 1000) :
    Calls Tryz.prog 12 #[.slice (some ⟨g, 0, none⟩) 2 c0] W fun e w' => ∃ a c, e = .returned (.slice a (n + m) c) ∧ RowsAt w' a (n + m) (xs ++ ys) ∧ Below W.heap.size W w' := by
  have hnI : (n : Int) ≤ 1000 := by omega
  have hmI : (m : Int) ≤ 1000 := by omega
  have H1 := Lib.hid h1
  have H2 := Lib.hid h2
  clear h1 h2
  go_enter Tryz.func12, Tryz.ntmps12
  go_wp2_with fail
  refine wp_loop_rounds 3 ?_
  rw [rounds_succ]
  go_wp2_with fail
  rw [rounds_succ]
  go_wp2_with fail
  rw [rounds_succ]
  go_wp2_with fail
  have hg := Grow_nil (n + m) (by omega) W
  rw [Int.natCast_add] at hg
  refine hg.mono ?_; rintro e W1 ⟨a0, d0, rfl, ho1, hb1⟩
  have HO1 := Lib.hid ho1
  have hm1 : Mod (fun _ => False) W W1 := Mod.of_same hb1
  have HM1 := Lib.hid hm1
  have k0' := hm1.cell (by simp) k0
  have k1' := hm1.cell (by simp) k1
  have hs1 : W.heap.size ≤ W1.heap.size := hb1.size
  have K1 := Lib.hid k1
  clear hg ho1 hb1 hm1 k0 k1
  obtain ⟨v2, W2, hr2, ho2, hg2⟩ := run_append_rowsB W1 W.heap.size (.slice a0 0 d0) 0 n c1 a1 [] (rowVals W a1 n) HO1.out (by simp [rowVals]) (fun j z hj => by
    obtain ⟨b, o, u, e, hc, -, -⟩ := H1.out.val hj
    exact ⟨b, o, e, HM1.out.cell (by simp) hc⟩) (fun z hz => by
    obtain ⟨j, hj, rfl⟩ := List.mem_iff_getElem.1 hz
    obtain ⟨_, _, _, _, _, _, hs⟩ := H1.out.val (List.getElem?_eq_getElem hj)
    exact hs.one) (by omega) hs1
  obtain ⟨a2', d2, e⟩ := ownsRow_form ho2
  subst e
  have hm2 : Mod (fun _ => False) W W2 := mod_trans_up_ HM1.out (Mod.of_grownBy hg2) (fun k hk e => by
    have := ownBlock_ge_ HO1.out e.symm
    omega)
  have HM2 := Lib.hid hm2
  have k1'' := hm2.cell (by simp) K1.out
  have hs2 : W.heap.size ≤ W2.heap.size := hm2.size
  have HO2 := Lib.hid ho2
  obtain ⟨v3, W3, hr3, ho3, hg3⟩ := run_append_rowsB W2 W.heap.size (.slice a2' (0 + n) d2) (0 + n) m c2 a2 _ (rowVals W a2 m) HO2.out (by simp [rowVals]) (fun j z hj => by
    obtain ⟨b, o, u, e, hc, -, -⟩ := H2.out.val hj
    exact ⟨b, o, e, HM2.out.cell (by simp) hc⟩) (fun z hz => by
    obtain ⟨j, hj, rfl⟩ := List.mem_iff_getElem.1 hz
    obtain ⟨_, _, _, _, _, _, hs⟩ := H2.out.val (List.getElem?_eq_getElem hj)
    exact hs.one) (by omega) hs2
  obtain ⟨a3, d3, e⟩ := ownsRow_form ho3
  subst e
  have hm3 : Mod (fun _ => False) W W3 := mod_trans_up_ HM2.out (Mod.of_grownBy hg3) (fun k hk e => by
    have := ownBlock_ge_ HO2.out e.symm
    omega)
  rw [Nat.zero_add, List.nil_append] at ho3
  rw [Nat.zero_add] at hr3 hr2
  have HR3 := Lib.hid (RowsAt.of_owns H1.out H2.out hm3 ho3)
  have HM3 := Lib.hid hm3
  clear ho2 hg2 hm2 ho3 hg3 hm3 HO1 HO2 HM1 HM2 H1 H2 K1
  go_wp2_with fail
  refine wp_loop_rounds 3 ?_
  rw [rounds_succ]
  go_wp2_with (at_builtin; refine Lib.wpList_append_run _ rfl _ _ _ _ rfl _ _ rfl rfl _ _ hr2 ?_)
  rw [rounds_succ]
  go_wp2_with (at_builtin; refine Lib.wpList_append_run _ rfl _ _ _ _ rfl _ _ rfl rfl _ _ hr3 ?_)
  rw [rounds_succ]
  go_wp2_with fail
  go_ret
  exact ⟨_, _, rfl, HR3.out, HM3.out.below (Nat.le_refl _) (by simp)⟩
end Resp
end Go.Proofs.YtdfmgneicdpjmaaGreat
