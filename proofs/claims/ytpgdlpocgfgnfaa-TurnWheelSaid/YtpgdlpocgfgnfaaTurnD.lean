/- All of package turn and of its reference (a slice of the turns of each slot), and slices.Equal on ints. -/
import Derived.Test.YtpgdlpocgfgnfaaTurnC
namespace Go.Proofs.Ytpgdlpocgfgnfaa
open Go.RowKit Go.Shelf
attribute [local go_sem] Oper.semAt_some
set_option linter.unusedVariables false
set_option maxRecDepth 100000
namespace Turn

theorem infoInt : (Try.prog.info? 3).map (fun i => (i.zero, i.size, i.bytes)) = some (some (.int .i64 0), 1, 8) := by kernel_rfl

/-- How many of the ticks from a to b are turns of each slot. -/
def allS (n a b : Int) : List Int := if slotsB n = true ∧ boundsB a b = true then upto (fun j => (turnsS n a b j).1) n.toNat else []
def allE (n a b : Int) : Int := if slotsB n = true ∧ boundsB a b = true then 0 else 2

/-- 'each' boxes its three arguments. -/
theorem each_any (n a b : Int) (w : World) :
    Calls Try.prog 39 #[.int .i64 n, .int .i64 a, .int .i64 b] w fun e w' =>
      e = .returned (.func (.func 45) #[] #[.pointer (some ⟨w.heap.size, 0, none⟩), .pointer (some ⟨w.heap.size + 1, 0, none⟩), .pointer (some ⟨w.heap.size + 2, 0, none⟩)]) ∧
      w' = ((w.alloc (.cells #[.int .i64 n] 3)).alloc (.cells #[.int .i64 a] 3)).alloc (.cells #[.int .i64 b] 3) := by
  go_enter Try.func39, Try.ntmps39
  go_wp2
  go_ret
  exact ⟨rfl, rfl⟩

/-- The three boxes from B on lie as they lay. -/
def Same3 (B : Nat) (W W' : World) : Prop := ∀ k, B ≤ k → k < B + 3 → W'.heap[k]? = W.heap[k]?
theorem Same3.refl (B : Nat) (W : World) : Same3 B W W := fun _ _ _ => rfl
theorem Same3.trans {B : Nat} {X Y Z : World} (h : Same3 B X Y) (h' : Same3 B Y Z) : Same3 B X Z := fun k a b => (h' k a b).trans (h k a b)
theorem Same3.cell {B : Nat} {W W' : World} (h : Same3 B W W') {k : Nat} {v : Value} (h1 : B ≤ k) (h2 : k < B + 3) (hc : W.cell? ⟨k, 0, none⟩ = some v) : W'.cell? ⟨k, 0, none⟩ = some v :=
  (World.cell?_of_block (h k h1 h2)).trans hc
theorem Same3.put {B S : Nat} (hB : B + 2 < S) (W : World) (l : Nat) (o o' : Obj) (hl : S ≤ l) (_ : W.heap[l]? = some o) (_ : o.isCells = false) (_ : o.isWalk = false) : Same3 B W (W.putObj l o') :=
  fun k _ h2 => World.putObj_heap_other (by omega)
theorem Same3.of_mod {S : Nat → Prop} {B : Nat} {W W' : World} (h : Mod S W W') (hl : B + 2 < W.heap.size) (hS : ∀ k, B ≤ k → k < B + 3 → ¬ S k) : Same3 B W W' := fun k h1 h2 => h.block k (by omega) (hS k h1 h2)

theorem each1_in (m : Nat) (hm : 1 ≤ m) (l B : Nat) (n a b : Int) (h1 : 1 ≤ n) (h8 : n ≤ 8) (J Jx : List (Int × Int) → World → Prop)
    (hY : ∀ pre x W, J pre W → pre.length < n.toNat → YieldAt Fence.wide (m - 1) Try.prog l #[.int .i64 x.1, .int .i64 x.2] W fun e W' =>
      (e = .returned (.bool true) ∧ J (pre ++ [x]) W' ∧ Same3 B W W') ∨ (e = .returned (.bool false) ∧ Jx (pre ++ [x]) W'))
    (W : World) (hc0 : W.cell? ⟨B, 0, none⟩ = some (.int .i64 n)) (hc1 : W.cell? ⟨B + 1, 0, none⟩ = some (.int .i64 a)) (hc2 : W.cell? ⟨B + 2, 0, none⟩ = some (.int .i64 b)) (h0 : J [] W) :
    CallsIn Fence.wide m Try.prog 45 #[.func (.yield l) #[] #[], .pointer (some ⟨B, 0, none⟩), .pointer (some ⟨B + 1, 0, none⟩), .pointer (some ⟨B + 2, 0, none⟩)] W fun e W' => (∃ v, e = .returned v) ∧
      ((∃ ys, ys = upto (fun j => ((j : Int), (turnsS n a b j).1)) n.toNat ∧ J ys W') ∨ (∃ pre, (∃ k, k ≤ n.toNat ∧ pre = upto (fun j => ((j : Int), (turnsS n a b j).1)) k) ∧ Jx pre W')) := by
  refine callsIn_of_wp Try.func45 rfl trivial ?_ rfl
  simp only [Try.ntmps45, List.size_toArray, List.length_cons, List.length_nil, Nat.reduceAdd, Nat.reduceSub, Array.replicate_succ, Array.replicate_zero, List.push_toArray, List.append_toArray, List.nil_append, List.cons_append]
  gi_wp2
  gi_loopw [9] (fun i wr => ∃ k : Nat, k ≤ n.toNat ∧ i = .int .i64 k ∧ J (upto (fun j => ((j : Int), (turnsS n a b j).1)) k) wr ∧ Same3 B W wr) (fun i _ => n.toNat - (intOf i).toNat)
  case atStart => exact ⟨0, Nat.zero_le _, rfl, h0, Same3.refl _ _⟩
  case round =>
    obtain ⟨k, hk, rfl, hJs, hnx⟩ := hrel
    have hw0 : wr.cell? ⟨B, 0, none⟩ = some (.int .i64 n) := hnx.cell (by omega) (by omega) hc0
    have hw1 : wr.cell? ⟨B + 1, 0, none⟩ = some (.int .i64 a) := hnx.cell (by omega) (by omega) hc1
    have hw2 : wr.cell? ⟨B + 2, 0, none⟩ = some (.int .i64 b) := hnx.cell (by omega) (by omega) hc2
    by_cases hlt : k < n.toNat
    · have hlt' : (k : Int) < n := by omega
      obtain ⟨fn, tmps, assign, body, hy, hR⟩ := hY _ ((k : Int), (turnsS n a b k).1) wr hJs (by rw [upto_length]; exact hlt)
      dsimp only at hy
      gi_wp2_with (first | (refine ⟨trivial, ?_⟩; gi_at_call 23; refine (callsIn_wide.2 (Turns_any _ _ _ _ _)).mono ?_; rintro e w' ⟨rfl, rfl⟩) | (gi_at_call 23; refine (callsIn_wide.2 (Turns_any _ _ _ _ _)).mono ?_; rintro e w' ⟨rfl, rfl⟩))
      refine hR.mono ?_
      rintro e W3 (⟨rfl, hJ3, hk3⟩ | ⟨rfl, hJx3⟩)
      · gi_wp2
        go_roundw
        case rel => exact ⟨k + 1, by omega, by simp, by rw [upto_succ]; exact hJ3, hnx.trans hk3⟩
        case measure => simp [intOf]; omega
      · gi_wp2
        refine bodyPost_ret (results_none rfl _ _ _) rfl ?_
        exact ⟨⟨_, rfl⟩, .inr ⟨_, ⟨k + 1, by omega, (upto_succ _ _).symm⟩, hJx3⟩⟩
    · have hlt' : ¬ (k : Int) < n := by omega
      obtain rfl : k = n.toNat := by omega
      gi_wp2
      go_end0
      exact ⟨⟨_, rfl⟩, .inl hJs⟩

theorem each1_stops (m : Nat) (hm : 1 ≤ m) (B : Nat) (n a b : Int) (h1 : 1 ≤ n) (h8 : n ≤ 8) (w : World) (hB : B + 2 < w.heap.size)
    (hc0 : w.cell? ⟨B, 0, none⟩ = some (.int .i64 n)) (hc1 : w.cell? ⟨B + 1, 0, none⟩ = some (.int .i64 a)) (hc2 : w.cell? ⟨B + 2, 0, none⟩ = some (.int .i64 b)) :
    SeqStopsK Fence.wide m Try.prog 45 #[.pointer (some ⟨B, 0, none⟩), .pointer (some ⟨B + 1, 0, none⟩), .pointer (some ⟨B + 2, 0, none⟩)] (fun x : Int × Int => #[Value.int .i64 x.1, Value.int .i64 x.2]) (Same3 B)
      (fun ys => ys = upto (fun j => ((j : Int), (turnsS n a b j).1)) n.toNat) (fun pre => ∃ k, k ≤ n.toNat ∧ pre = upto (fun j => ((j : Int), (turnsS n a b j).1)) k) n.toNat w := fun l J Jx W hW _ _ hY h0 =>
  each1_in m hm l B n a b h1 h8 J Jx hY W ((hW.cell (p := ⟨B, 0, none⟩) (by simp; omega)).trans hc0) ((hW.cell (p := ⟨B + 1, 0, none⟩) (by simp; omega)).trans hc1) ((hW.cell (p := ⟨B + 2, 0, none⟩) (by simp; omega)).trans hc2) h0

theorem All_yes (n a b : Int) (hs : slotsB n = true) (hb : boundsB a b = true) (w : World) :
    Calls Try.prog 20 #[.int .i64 n, .int .i64 a, .int .i64 b] w fun e W' => ∃ v, e = .returned (.tuple #[v, .int .i64 0]) ∧ W'.ownsRow w.heap.size 3 1 v n.toNat ((allS n a b).map (Value.int .i64)) ∧ Below w.heap.size w W' := by
  have hn : 1 ≤ n ∧ n ≤ 8 := by simpa [slotsB] using hs
  obtain ⟨h1, h8⟩ := hn
  have HA : Hid (allS n a b = upto (fun j => (turnsS n a b j).1) n.toNat) := by rw [Hid, allS, if_pos ⟨hs, hb⟩]
  obtain ⟨i0, hi, hz0, hz1, hz2⟩ := info_parts infoInt
  refine (callsIn_wide (n := 6)).1 ?_
  refine callsIn_of_wp_marks Try.func20 rfl trivial ?_ rfl
  simp only [Try.ntmps20, List.size_toArray, List.length_cons, List.length_nil, Nat.reduceAdd, Nat.reduceSub, Array.replicate_succ, Array.replicate_zero, List.push_toArray, List.append_toArray, List.nil_append, List.cons_append]
  gi_wp2_with (first | (refine ⟨trivial, ?_⟩; gi_at_call 37; refine (callsIn_wide.2 (slots_any _ _)).mono ?_; rintro e w' ⟨rfl, rfl⟩) | (refine ⟨trivial, ?_⟩; gi_at_call 38; refine (callsIn_wide.2 (bounds_any _ _ _)).mono ?_; rintro e w' ⟨rfl, rfl⟩) | (refine ⟨trivial, ?_⟩; gi_at_call 39; refine (callsIn_wide.2 (each_any _ _ _ _)).mono ?_; rintro e w' ⟨rfl, rfl⟩))
  have bO := Boxed.new w 28 (.slice none 0 0)
  have hB0 : Below w.heap.size w ((((w.alloc (.cells #[.slice none 0 0] 28)).alloc (.cells #[.int .i64 n] 3)).alloc (.cells #[.int .i64 a] 3)).alloc (.cells #[.int .i64 b] 3)) := ((((Below.refl _ w).alloc (Nat.le_refl _) _).alloc (by simp) _).alloc (by simp; omega) _).alloc (by simp; omega) _
  have q0 := (((Boxed.new (w.alloc (.cells #[.slice none 0 0] 28)) 3 (.int .i64 n)).alloc (.cells #[.int .i64 a] 3)).alloc (.cells #[.int .i64 b] 3)).cell
  have q1 := ((Boxed.new ((w.alloc (.cells #[.slice none 0 0] 28)).alloc (.cells #[.int .i64 n] 3)) 3 (.int .i64 a)).alloc (.cells #[.int .i64 b] 3)).cell
  have q2 := (Boxed.new (((w.alloc (.cells #[.slice none 0 0] 28)).alloc (.cells #[.int .i64 n] 3)).alloc (.cells #[.int .i64 a] 3)) 3 (.int .i64 b)).cell
  simp only [World.size_alloc] at q0 q1 q2
  refine wpIn_rangeFunc_ownG rfl (by omega) (gf := 45) (lb := #[.pointer (some ⟨w.heap.size + 1, 0, none⟩), .pointer (some ⟨w.heap.size + 1 + 1, 0, none⟩), .pointer (some ⟨w.heap.size + 1 + 2, 0, none⟩)]) rfl trivial (enters_of Try.func45 (by kernel_rfl) rfl)
    (each1_stops 5 (by omega) (w.heap.size + 1) n a b h1 h8 _ (by simp) q0 q1 q2) Same3.trans (Same3.put (by simp)) (Below.refl _ _) (fun _ => rfl)
    (fun pre W => (∃ v, Boxed W w.heap.size 28 v ∧ W.ownsRow (w.heap.size + 4) 3 1 v pre.length (pre.map fun x => Value.int .i64 x.2) ∧ True) ∧ Below w.heap.size ((((w.alloc (.cells #[.slice none 0 0] 28)).alloc (.cells #[.int .i64 n] 3)).alloc (.cells #[.int .i64 a] 3)).alloc (.cells #[.int .i64 b] 3)) W)
    (fun _ _ _ => False)
    (OwnFrom.and (Own.from (holdsRow_own (w.heap.size + 4) w.heap.size 28 3 1 (fun pre : List (Int × Int) => pre.length) (fun pre => pre.map fun x => Value.int .i64 x.2) (fun _ _ => True)) _) (ownFrom_below (by simp; omega) (by simp; omega)))
    (fun _ _ _ _ _ hs _ _ => hs)
    ⟨⟨_, ((bO.alloc _).alloc _).alloc _, World.ownsRow_nil _ _ _ _, trivial⟩, Below.refl _ _⟩
    (fun x => { tmps := #[.int .i64 n, .int .i64 a, .int .i64 b, undef, undef, undef, .slice none 0 0, .int .i64 0, .pointer (some ⟨w.heap.size, 0, none⟩), undef, .int .i64 x.2, .int .i64 n, .bool true, .bool false, .bool false, .int .i64 a, .int .i64 b, .bool true, .bool false, .bool false, .int .i64 n, .int .i64 a, .int .i64 b, .func (.func 45) #[] #[.pointer (some ⟨w.heap.size + 1, 0, none⟩), .pointer (some ⟨w.heap.size + 1 + 1, 0, none⟩), .pointer (some ⟨w.heap.size + 1 + 2, 0, none⟩)], .int .i64 x.1, .int .i64 x.2, undef, undef, undef, undef, undef], defers := [] }) ?assign ?body ?done ?stop
  case assign =>
    intro l x W K hK
    gi_wp2
    exact hK
  case body =>
    rintro l pre x W ⟨⟨v, hv, hrow, -⟩, hB⟩ hlt
    have hc := hv.cell
    have hsz := hB.size
    simp only [World.size_alloc] at hsz
    have hlt8 : pre.length < 8 := by omega
    gi_wp2_with (gi_at_builtin; refine wpListIn_append_own _ rfl _ _ 28 rfl (w.heap.size + 4) 3 i0 (.int .i64 0) 1 8 Try.underlying28 hi hz0 hz1 hz2 rfl (by decide) _ _ _ rfl (hrow.alloc _) ⟨W.heap.size, 0, none⟩ 1 1 [.int .i64 x.2] rfl rfl (cell_one_new _ _ _) (by simp [Value.oneCell']) (by unfold maxLen; omega) (by omega) (by simp; omega) ?_; intro v' w1 hown' hgrow _; obtain ⟨g', cap', rfl⟩ := ownsRow_succ hown'; obtain ⟨hv1, hv2, hr2, hk2, hb2⟩ := boxed_appended hv (by decide) hrow hown' hgrow; have hc1 := hv1.cell; have hf1 := hv1.frozen)
    refine ⟨hk2.from _, Same3.of_mod hb2 (by omega) (fun k h1 h2 h3 => by omega), ⟨_, hv2, by simpa using hr2, trivial⟩, hB.trans (hb2.below (by omega) (fun k h1 h2 => by omega))⟩
  case done =>
    rintro D ys W hD rfl ⟨⟨v, hv, hrow, -⟩, hB⟩ hK
    have hc := hv.cell
    gi_wp2
    refine ⟨by simp, .inl ⟨_, _, rfl, run_takeDeferred hK, ?_⟩⟩
    refine ⟨_, results_tmp2 rfl _ _ _, v, rfl, ?_, (hB0.trans hB).trans (belowK_b (w := w) (Nat.le_refl _) W D _ _ (by simp at hD; omega) hK rfl rfl)⟩
    rw [HA.out, upto_map]
    have := ownsRow_base (ownsRow_putObj hrow (.deferred none) hK rfl) (base' := w.heap.size) (by omega)
    rw [upto_length, upto_map] at this
    exact this
  case stop =>
    rintro D c pre W _ _ h _
    exact h.elim

theorem All_no (n a b : Int) (h : ¬ (slotsB n = true ∧ boundsB a b = true)) (w : World) :
    Calls Try.prog 20 #[.int .i64 n, .int .i64 a, .int .i64 b] w fun e w' => e = .returned (.tuple #[.slice none 0 0, .int .i64 2]) ∧ w = w' := by
  by_cases hs : slotsB n = true
  · have hb : boundsB a b = false := by rw [← Bool.not_eq_true]; exact fun x => h ⟨hs, x⟩
    clear h
    go_enter Try.func20, Try.ntmps20
    go_wp2_with (first | (go_at_call 37; refine (slots_any _ _).mono ?_; rintro e w' ⟨rfl, rfl⟩) | (go_at_call 38; refine (bounds_any _ _ _).mono ?_; rintro e w' ⟨rfl, rfl⟩))
    go_ret2
    exact ⟨rfl, rfl⟩
  · have hs' : slotsB n = false := by rw [← Bool.not_eq_true]; exact hs
    clear h hs
    go_enter Try.func20, Try.ntmps20
    go_wp2_with (first | (go_at_call 37; refine (slots_any _ _).mono ?_; rintro e w' ⟨rfl, rfl⟩) | (go_at_call 38; refine (bounds_any _ _ _).mono ?_; rintro e w' ⟨rfl, rfl⟩))
    go_ret2
    exact ⟨rfl, rfl⟩

theorem allS_no {n a b : Int} (h : ¬ (slotsB n = true ∧ boundsB a b = true)) : allS n a b = [] := by rw [allS, if_neg h]
theorem allE_no {n a b : Int} (h : ¬ (slotsB n = true ∧ boundsB a b = true)) : allE n a b = 2 := by rw [allE, if_neg h]
theorem allE_yes {n a b : Int} (h : slotsB n = true ∧ boundsB a b = true) : allE n a b = 0 := by rw [allE, if_pos h]
theorem allS_length {n a b : Int} (h : slotsB n = true ∧ boundsB a b = true) : (allS n a b).length = n.toNat := by rw [allS, if_pos h, upto_length]

/-- All: the slice of the turns of each slot, in memory of its own. -/
theorem All_any (n a b : Int) (w : World) :
    Calls Try.prog 20 #[.int .i64 n, .int .i64 a, .int .i64 b] w fun e w' => ∃ v, e = .returned (.tuple #[v, .int .i64 (allE n a b)]) ∧ w'.ownsRow w.heap.size 3 1 v (allS n a b).length ((allS n a b).map (Value.int .i64)) ∧ Below w.heap.size w w' := by
  by_cases h : slotsB n = true ∧ boundsB a b = true
  · refine (All_yes n a b h.1 h.2 w).mono ?_
    rintro e w' ⟨v, rfl, hr, hb⟩
    exact ⟨v, by rw [allE_yes h], by rw [allS_length h]; exact hr, hb⟩
  · refine (All_no n a b h w).mono ?_
    rintro e w' ⟨rfl, rfl⟩
    exact ⟨.slice none 0 0, by rw [allE_no h], by rw [allS_no h]; exact World.ownsRow_nil _ _ _ _, Below.refl _ _⟩

theorem rAll_any (n a b : Int) (w : World) :
    Calls Try.prog 28 #[.int .i64 n, .int .i64 a, .int .i64 b] w fun e w' => ∃ v, e = .returned (.tuple #[v, .int .i64 (allE n a b)]) ∧ w'.ownsRow w.heap.size 3 1 v (allS n a b).length ((allS n a b).map (Value.int .i64)) ∧ Below w.heap.size w w' := by
  by_cases hs : slotsB n = true
  · by_cases hb : boundsB a b = true
    · have hn : 1 ≤ n ∧ n ≤ 8 := by simpa [slotsB] using hs
      obtain ⟨h1, h8⟩ := hn
      have HA : Hid (allS n a b = upto (fun j => (turnsS n a b j).1) n.toNat) := by rw [Hid, allS, if_pos ⟨hs, hb⟩]
      have HE := Lib.hid (allE_yes ⟨hs, hb⟩)
      obtain ⟨i0, hi, hz0, hz1, hz2⟩ := info_parts infoInt
      go_enter Try.func28, Try.ntmps28
      go_wp2_with (first | (go_at_call 42; refine (rslots_any _ _).mono ?_; rintro e w' ⟨rfl, rfl⟩) | (go_at_call 44; refine (rticks_any _ _ _).mono ?_; rintro e w' ⟨rfl, rfl⟩))
      go_loopw [8, 9, 10, 11] (fun v i _ _ wr => ∃ k : Nat, k ≤ n.toNat ∧ i = .int .i64 k ∧ wr.ownsRow w.heap.size 3 1 v (upto (fun j => (turnsS n a b j).1) k).length ((upto (fun j => (turnsS n a b j).1) k).map (Value.int .i64)) ∧ Below w.heap.size w wr) (fun _ i _ _ _ => n.toNat - (intOf i).toNat)
      case atStart => exact ⟨0, Nat.zero_le _, rfl, World.ownsRow_nil _ _ _ _, Below.refl _ _⟩
      case round =>
        obtain ⟨k, hk, rfl, hrow, hB⟩ := hrel
        have hk8 : k ≤ 8 := by omega
        rw [upto_length] at hrow
        by_cases hlt : k < n.toNat
        · have hlt' : (k : Int) < n := by omega
          go_wp2_with (first | (go_at_call 27; refine (rTurns_any _ _ _ _ _).mono ?_; rintro e w' ⟨rfl, rfl⟩) | (at_builtin; refine wpList_append_own _ rfl _ _ 28 rfl w.heap.size 3 i0 (.int .i64 0) 1 8 Try.underlying28 hi hz0 hz1 hz2 rfl (by decide) _ _ _ rfl (hrow.alloc _) ⟨wr.heap.size, 0, none⟩ 1 1 [.int .i64 (turnsS n a b k).1] rfl rfl (cell_one_new _ _ _) (by simp [Value.oneCell']) (by unfold maxLen; omega) (by omega) (by have := hB.size; simp; omega) ?_; intro v' w1 hown' hgrow _))
          have hB1 : Below w.heap.size w w1 := (hB.alloc hB.size _).grown hgrow (by have := hB.size; simp; omega) (fun j e => (hrow.lt j e).1)
          go_roundw
          case rel => exact ⟨k + 1, by omega, by simp, by rw [upto_length, upto_succ, List.map_append]; exact hown', hB1⟩
          case measure => simp [intOf]; omega
        · have hlt' : ¬ (k : Int) < n := by omega
          obtain rfl : k = n.toNat := by omega
          go_wp2
          go_ret2
          exact ⟨u8, by rw [HE.out]; rfl, by rw [HA.out, upto_length]; exact hrow, hB⟩
    · have hb' : boundsB a b = false := by rw [← Bool.not_eq_true]; exact hb
      have HE := Lib.hid (allE_no (n := n) (a := a) (b := b) (fun x => hb x.2))
      have HA := Lib.hid (allS_no (n := n) (a := a) (b := b) (fun x => hb x.2))
      clear hb
      go_enter Try.func28, Try.ntmps28
      go_wp2_with (first | (go_at_call 42; refine (rslots_any _ _).mono ?_; rintro e w' ⟨rfl, rfl⟩) | (go_at_call 44; refine (rticks_any _ _ _).mono ?_; rintro e w' ⟨rfl, rfl⟩))
      go_ret2
      exact ⟨.slice none 0 0, by rw [HE.out]; rfl, by rw [HA.out]; exact World.ownsRow_nil _ _ _ _, Below.refl _ _⟩
  · have hs' : slotsB n = false := by rw [← Bool.not_eq_true]; exact hs
    have HE := Lib.hid (allE_no (n := n) (a := a) (b := b) (fun x => hs x.1))
    have HA := Lib.hid (allS_no (n := n) (a := a) (b := b) (fun x => hs x.1))
    clear hs
    go_enter Try.func28, Try.ntmps28
    go_wp2_with (first | (go_at_call 42; refine (rslots_any _ _).mono ?_; rintro e w' ⟨rfl, rfl⟩) | (go_at_call 44; refine (rticks_any _ _ _).mono ?_; rintro e w' ⟨rfl, rfl⟩))
    go_ret2
    exact ⟨.slice none 0 0, by rw [HE.out]; rfl, by rw [HA.out]; exact World.ownsRow_nil _ _ _ _, Below.refl _ _⟩

end Turn
end Go.Proofs.Ytpgdlpocgfgnfaa
