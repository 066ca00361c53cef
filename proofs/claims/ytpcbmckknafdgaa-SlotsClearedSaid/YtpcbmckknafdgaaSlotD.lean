/- Slots: the iterators over the free places and over the live references; what is collected from them. -/
import Derived.Test.YtpcbmckknafdgaaSlotC
namespace Go.Proofs.Ytpcbmckknafdgaa
open Go.RowKit Go.Shelf
attribute [local go_sem] Oper.semAt_some
set_option linter.unusedVariables false
set_option linter.unusedSimpArgs false
set_option maxRecDepth 100000
namespace Slot

theorem wpIn_scope_wide {m : Nat} {P : Program} {c : Code} {Q : Exit → Act → World → Prop} {a : Act} {w : World} (h : c.wpIn Fence.wide m P (Exit.noGoto Q) a w) : (Code.scope c).wpIn Fence.wide m P Q a w :=
  wpIn_wide.2 (wp_scope_straight (wpIn_wide.1 h))

theorem infoInt : (Try.prog.info? 3).map (fun i => (i.zero, i.size, i.bytes)) = some (some (.int .i64 0), 1, 8) := by kernel_rfl
theorem infoRef : (Try.prog.info? 26).map (fun i => (i.zero, i.size, i.bytes)) = some (some (.agg #[.int .i64 0, .int .i64 0]), 2, 16) := by kernel_rfl

theorem free_any (p : Addr) (w : World) :
    Calls Try.prog 35 #[.pointer (some p)] w fun e w' => e = .returned (.func (.func 48) #[] #[.pointer (some ⟨w.heap.size, 0, none⟩)]) ∧ w' = w.alloc (.cells #[.pointer (some p)] 33) := by
  go_enter Try.func35, Try.ntmps35
  go_wp2
  go_ret
  exact ⟨rfl, rfl⟩
theorem taken_any (p : Addr) (w : World) :
    Calls Try.prog 37 #[.pointer (some p)] w fun e w' => e = .returned (.func (.func 50) #[] #[.pointer (some ⟨w.heap.size, 0, none⟩)]) ∧ w' = w.alloc (.cells #[.pointer (some p)] 33) := by
  go_enter Try.func37, Try.ntmps37
  go_wp2
  go_ret
  exact ⟨rfl, rfl⟩

/-- How far a place is from the end of the free ones. -/
def leftOf (l : List Nat) (v : Value) : Nat := if intOf v = -1 then 0 else l.length - l.idxOf (intOf v).toNat
theorem leftOf_at (pre rest : List Nat) (i : Nat) (h : (pre ++ i :: rest).Nodup) : leftOf (pre ++ i :: rest) (.int .i64 (i : Int)) = rest.length + 1 := by
  have hi : i ∉ pre := fun hm => (List.nodup_append.1 h).2.2 i hm i (List.mem_cons_self) rfl
  have h1 : intOf (.int .i64 (i : Int)) = (i : Int) := rfl
  rw [leftOf, h1, if_neg (by omega), Int.toNat_natCast, List.idxOf_append, if_neg hi]
  simp
theorem leftOf_end (l : List Nat) : leftOf l (.int .i64 (-1)) = 0 := by
  have h1 : intOf (.int .i64 (-1)) = -1 := rfl
  rw [leftOf, h1, if_pos rfl]

theorem free1_in (m : Nat) (hm : 1 ≤ m) (l B n₀ p q n : Nat) (T : Tab) (hB : B < n₀) (J Jx : List Nat → World → Prop)
    (hY : ∀ pre x W, x ∈ T.free → J pre W → pre.length < T.free.length → YieldAt Fence.wide (m - 1) Try.prog l #[.int .i64 (x : Nat)] W fun e W' =>
      (e = .returned (.bool true) ∧ J (pre ++ [x]) W' ∧ Below n₀ W W') ∨ (e = .returned (.bool false) ∧ Jx (pre ++ [x]) W'))
    (W : World) (hT : TableAt W p q n T) (hp : p < n₀) (hq : q < n₀) (hc : W.cell? ⟨B, 0, none⟩ = some (.pointer (some ⟨p, 0, none⟩))) (h0 : J [] W) :
    CallsIn Fence.wide m Try.prog 48 #[.func (.yield l) #[] #[], .pointer (some ⟨B, 0, none⟩)] W fun e W' => (∃ v, e = .returned v) ∧
      ((∃ ys, ys = T.free ∧ J ys W') ∨ (∃ pre, pre <+: T.free ∧ Jx pre W')) := by
  obtain ⟨fst, nx, c0, c1, c2, hch, hcc, -, -⟩ := hT.reads
  have hv := hT.2.1
  refine callsIn_of_wp Try.func48 rfl trivial ?_ rfl
  simp only [Try.ntmps48, List.size_toArray, List.length_cons, List.length_nil, Nat.reduceAdd, Nat.reduceSub, Array.replicate_succ, Array.replicate_zero, List.push_toArray, List.append_toArray, List.nil_append, List.cons_append]
  have Hch := Lib.hid hch
  have Hcc := Lib.hid hcc
  clear hch hcc hT
  gi_wp2
  gi_loopw [3] (fun a wr => ∃ (pre rest : List Nat) (f : Int), a = .int .i64 f ∧ Hid (Chain nx f rest) ∧ Hid (T.free = pre ++ rest) ∧ J pre wr ∧ Below n₀ W wr) (fun a _ => leftOf T.free a)
  case atStart => exact ⟨[], T.free, fst, rfl, Hch.out, rfl, h0, Below.refl _ _⟩
  case round =>
    obtain ⟨pre, rest, f, rfl, hC, hF, hJs, hnx⟩ := hrel
    cases rest with
    | nil =>
      obtain rfl : f = -1 := hC.out
      gi_wp2
      refine ⟨fun _ h => (by cases h), ?_⟩
      gi_wp2
      go_end0
      exact ⟨⟨_, rfl⟩, .inl ⟨_, rfl, by have := hF.out; rw [List.append_nil] at this; rw [this]; exact hJs⟩⟩
    | cons i rest =>
      obtain ⟨rfl, hC'⟩ := hC.out
      have him : i ∈ T.free := by rw [hF.out]; simp
      have hin := (hv.free i him).1
      obtain ⟨fn, tmps, assign, body, hy, hR⟩ := hY pre i wr him hJs (by rw [hF.out]; simp)
      have hq1 : ((i : Int) != -1) = true := by rw [bne_iff_ne]; omega
      have hq2 : ((i : Int) == -1) = false := by rw [beq_eq_false_iff_ne]; omega
      gi_wp2
      refine hR.mono ?_
      rintro e W3 (⟨rfl, hJ3, hk3⟩ | ⟨rfl, hJx3⟩)
      · have hB3 := hnx.trans hk3
        have e0 := (hB3.cell (p := ⟨B, 0, none⟩) hB).trans hc
        have e1 := (hB3.cell (p := ⟨p, 0, none⟩) hp).trans c0
        have e2 := (hB3.cell (p := ⟨q, i * 3 + 2, none⟩) hq).trans (Hcc.out i hin).2.2
        have hinI : (i : Int) < n := by omega
        have HL1 := Lib.hid (leftOf_at pre rest i (by rw [← hF.out]; exact hv.nodup))
        have HL2 : Hid (leftOf T.free (.int .i64 (nx i)) = rest.length) := by
          cases rest with
          | nil => rw [Hid, show nx i = -1 from hC', leftOf_end]; rfl
          | cons j rest =>
            obtain ⟨hj, -⟩ := hC'
            have hF2 : T.free = (pre ++ [i]) ++ j :: rest := by rw [hF.out]; simp
            have := leftOf_at (pre ++ [i]) rest j (by rw [← hF2]; exact hv.nodup)
            rw [Hid, hj, hF2, this]; simp
        gi_wp2
        refine ⟨⟨pre ++ [i], rest, nx i, rfl, hC', by rw [Hid, hF.out]; simp, hJ3, hB3⟩, ?_⟩
        rw [HL2.out, hF.out, HL1.out]; omega
      · gi_wp2
        go_end0
        exact ⟨⟨_, rfl⟩, .inr ⟨pre ++ [i], ⟨rest, by rw [hF.out]; simp⟩, hJx3⟩⟩

theorem free1_stops (m : Nat) (hm : 1 ≤ m) (B n₀ p q n : Nat) (T : Tab) (w : World) (hB : B < n₀) (hn₀ : n₀ ≤ w.heap.size) (hT : TableAt w p q n T) (hp : p < n₀) (hq : q < n₀) (hc : w.cell? ⟨B, 0, none⟩ = some (.pointer (some ⟨p, 0, none⟩))) :
    SeqStopsK Fence.wide m Try.prog 48 #[.pointer (some ⟨B, 0, none⟩)] (fun x : Nat => #[Value.int .i64 (x : Int)]) (Below n₀) (fun ys => ys = T.free) (fun pre => pre <+: T.free) T.free.length w := fun l J Jx W hW _ _ hY h0 =>
  free1_in m hm l B n₀ p q n T hB J Jx (fun pre x W _ => hY pre x W) W (hT.below hW) hp hq ((hW.cell (p := ⟨B, 0, none⟩) (by simp; omega)).trans hc) h0

/-- The same, where the round is told that what it is handed is a free place. -/
theorem free1_stops' (m : Nat) (hm : 1 ≤ m) (B n₀ p q n : Nat) (T : Tab) (w : World) (hB : B < n₀) (hn₀ : n₀ ≤ w.heap.size) (hT : TableAt w p q n T) (hp : p < n₀) (hq : q < n₀) (hc : w.cell? ⟨B, 0, none⟩ = some (.pointer (some ⟨p, 0, none⟩))) :
    SeqStopsK Fence.wide m Try.prog 48 #[.pointer (some ⟨B, 0, none⟩)] (fun x : { x : Nat // x ∈ T.free } => #[Value.int .i64 (x.1 : Int)]) (Below n₀) (fun ys => ys.map (·.1) = T.free) (fun pre => pre.map (·.1) <+: T.free) T.free.length w := fun l J Jx W hW _ _ hY h0 => by
  refine (free1_in m hm l B n₀ p q n T hB (fun pre W => ∃ pre' : List { x : Nat // x ∈ T.free }, pre'.map (·.1) = pre ∧ J pre' W) (fun pre W => ∃ pre' : List { x : Nat // x ∈ T.free }, pre'.map (·.1) = pre ∧ Jx pre' W) ?_ W (hT.below hW) hp hq ((hW.cell (p := ⟨B, 0, none⟩) (by simp; omega)).trans hc) ⟨[], rfl, h0⟩).mono ?_
  · rintro pre x W hx ⟨pre', rfl, hJ⟩ hlen
    obtain ⟨fn, tmps, assign, body, hy, hR⟩ := hY pre' ⟨x, hx⟩ W hJ (by simpa using hlen)
    refine ⟨fn, tmps, assign, body, hy, hR.mono ?_⟩
    rintro e W' (⟨he, hJ', hk⟩ | ⟨he, hJ'⟩)
    · exact .inl ⟨he, ⟨pre' ++ [⟨x, hx⟩], by simp, hJ'⟩, hk⟩
    · exact .inr ⟨he, ⟨pre' ++ [⟨x, hx⟩], by simp, hJ'⟩⟩
  · rintro e W' ⟨he, ⟨ys, rfl, pre', h1, h2⟩ | ⟨pre, h0, pre', rfl, h2⟩⟩
    · exact ⟨he, .inl ⟨pre', h1, h2⟩⟩
    · exact ⟨he, .inr ⟨pre', h0, h2⟩⟩

/-- What the iterator over the live references yields, from place i on. -/
def refsFrom (T : Tab) (k i : Nat) : List R := (List.range' i k).filterMap fun j => if T.taken.getD j false then some ((j : Int), T.lives.getD j 0) else none
theorem refsFrom_all (n : Nat) (T : Tab) : refsFrom T n 0 = refsT n T := by rw [refsFrom, refsT, List.range_eq_range']
theorem refsFrom_succ (T : Tab) (k i : Nat) : refsFrom T (k + 1) i = (if T.taken.getD i false then [((i : Int), T.lives.getD i 0)] else []) ++ refsFrom T k (i + 1) := by
  rw [refsFrom, List.range'_succ, List.filterMap_cons]
  cases h : T.taken.getD i false
  · simp only [Bool.false_eq_true, if_false, List.nil_append]; rfl
  · simp only [if_true]; rfl
theorem refsT_take (n : Nat) (T : Tab) (i : Nat) (hi : i < n) : (List.range n).filterMap (fun j => if T.taken.getD j false then some ((j : Int), T.lives.getD j 0) else none) =
    ((List.range i).filterMap fun j => if T.taken.getD j false then some ((j : Int), T.lives.getD j 0) else none) ++ refsFrom T (n - i) i := by
  rw [refsFrom, List.range_eq_range', List.range_eq_range', ← List.filterMap_append]
  congr 1
  rw [show List.range' 0 n = List.range' 0 (i + (n - i)) by rw [show i + (n - i) = n by omega], List.range'_append_1.symm]
  simp

theorem taken1_in (m : Nat) (hm : 1 ≤ m) (l B n₀ p q n : Nat) (T : Tab) (hB : B < n₀) (J Jx : List R → World → Prop)
    (hY : ∀ pre x W, J pre W → pre.length < (refsT n T).length → YieldAt Fence.wide (m - 1) Try.prog l #[.agg #[.int .i64 x.1, .int .i64 x.2]] W fun e W' =>
      (e = .returned (.bool true) ∧ J (pre ++ [x]) W' ∧ Below n₀ W W') ∨ (e = .returned (.bool false) ∧ Jx (pre ++ [x]) W'))
    (W : World) (hJA : AbidesFrom W.heap.size J) (hnW : n₀ ≤ W.heap.size) (hT : TableAt W p q n T) (hp : p < n₀) (hq : q < n₀) (hc : W.cell? ⟨B, 0, none⟩ = some (.pointer (some ⟨p, 0, none⟩))) (h0 : J [] W) :
    CallsIn Fence.wide m Try.prog 50 #[.func (.yield l) #[] #[], .pointer (some ⟨B, 0, none⟩)] W fun e W' => (∃ v, e = .returned v) ∧
      ((∃ ys, ys = refsT n T ∧ J ys W') ∨ (∃ pre, pre <+: refsT n T ∧ Jx pre W')) := by
  obtain ⟨fst, nx, c0, c1, c2, hch, hcc, -, -⟩ := hT.reads
  have hv := hT.2.1
  have hn := hv.n
  refine callsIn_of_wp Try.func50 rfl trivial ?_ rfl
  simp only [Try.ntmps50, List.size_toArray, List.length_cons, List.length_nil, Nat.reduceAdd, Nat.reduceSub, Array.replicate_succ, Array.replicate_zero, List.push_toArray, List.append_toArray, List.nil_append, List.cons_append]
  have Hcc := Lib.hid hcc
  clear hcc hT hch
  gi_wp2
  refine wpIn_scope_wide ?_
  gi_wp2
  refine wpIn_label ?_
  gi_wp2
  gi_loopw [10, 3, 4] (fun c _ _ wr => ∃ (i : Nat) (pre : List R), i ≤ n ∧ c = .int .i64 i ∧ Hid (refsT n T = pre ++ refsFrom T (n - i) i) ∧ J pre wr ∧ Below n₀ W wr ∧ W.heap.size ≤ wr.heap.size) (fun c _ _ _ => n - (intOf c).toNat)
  case atStart => exact ⟨0, [], by omega, rfl, by rw [Hid, Nat.sub_zero, refsFrom_all]; rfl, h0, Below.refl _ _, Nat.le_refl _⟩
  case round =>
    obtain ⟨i, pre, hi, rfl, hF, hJs, hnx, hsz⟩ := hrel
    by_cases hlt : i < n
    · have hltI : (i : Int) < n := by omega
      have e0 := (hnx.cell (p := ⟨q, i * 3, none⟩) hq).trans (Hcc.out i hlt).1
      have e1 := (hnx.cell (p := ⟨q, i * 3 + 1, none⟩) hq).trans (Hcc.out i hlt).2.1
      have e2 := (hnx.cell (p := ⟨q, i * 3 + 2, none⟩) hq).trans (Hcc.out i hlt).2.2
      have hS := refsFrom_succ T (n - (i + 1)) i
      rw [show n - (i + 1) + 1 = n - i by omega] at hS
      rw [hS] at hF
      cases ht : T.taken.getD i false
      · rw [ht] at e1 hF
        have HF := Lib.hid hF
        clear hF hS ht
        have hJ2 := fun o => hJA pre wr _ none hJs (World.grownBy_alloc wr o none) (fun r e => by cases e)
        gi_wp2
        exact ⟨⟨i + 1, pre, by omega, by simp, by rw [Hid, HF.out]; simp, hJ2 _, hnx.alloc (by omega) _, by simp; omega⟩, by simp [intOf]; omega⟩
      · rw [ht] at e1 hF
        have HF := Lib.hid hF
        clear hF hS ht
        have hlen : pre.length < (refsT n T).length := by rw [HF.out]; simp
        have hJ2 := fun o => hJA pre wr _ none hJs (World.grownBy_alloc wr o none) (fun r e => by cases e)
        have hn2 := fun o => hnx.alloc (by omega : n₀ ≤ wr.heap.size) o
        generalize hlf : T.lives.getD i 0 = lf at *
        have Hlf := Lib.hid hlf
        clear hlf
        obtain ⟨fn, tmps, assign, body, hy, hR⟩ := hY pre ((i : Int), lf) (wr.alloc (.cells #[.int .i64 lf, .bool true, .int .i64 (nx i)] 77)) (hJ2 _) hlen
        dsimp only at hy
        gi_wp2
        refine hR.mono ?_
        rintro e W3 (⟨rfl, hJ3, hk3⟩ | ⟨rfl, hJx3⟩)
        · have hB3 := (hn2 (.cells #[.int .i64 lf, .bool true, .int .i64 (nx i)] 77)).trans hk3
          have hs3 := hk3.size
          rw [World.size_alloc] at hs3
          gi_wp2
          exact ⟨⟨i + 1, pre ++ [((i : Int), lf)], by omega, by simp, by rw [Hid, HF.out]; simp, hJ3, hB3, by omega⟩, by simp [intOf]; omega⟩
        · gi_wp2
          unfold Exit.noGoto
          dsimp only
          go_end0
          exact ⟨⟨_, rfl⟩, .inr ⟨pre ++ [((i : Int), lf)], ⟨refsFrom T (n - (i + 1)) (i + 1), by rw [HF.out]; simp⟩, hJx3⟩⟩
    · obtain rfl : n = i := by omega
      gi_wp2
      unfold Exit.noGoto
      dsimp only
      go_end0
      exact ⟨⟨_, rfl⟩, .inl ⟨_, rfl, by have h := hF.out; rw [Nat.sub_self] at h; rw [h]; simpa [refsFrom] using hJs⟩⟩

theorem taken1_stops (m : Nat) (hm : 1 ≤ m) (B n₀ p q n : Nat) (T : Tab) (w : World) (hB : B < n₀) (hn₀ : n₀ ≤ w.heap.size) (hT : TableAt w p q n T) (hp : p < n₀) (hq : q < n₀) (hc : w.cell? ⟨B, 0, none⟩ = some (.pointer (some ⟨p, 0, none⟩))) :
    SeqStopsK Fence.wide m Try.prog 50 #[.pointer (some ⟨B, 0, none⟩)] (fun x : R => #[Value.agg #[.int .i64 x.1, .int .i64 x.2]]) (Below n₀) (fun ys => ys = refsT n T) (fun pre => pre <+: refsT n T) (refsT n T).length w := fun l J Jx W hW hJ _ hY h0 =>
  taken1_in m hm l B n₀ p q n T hB J Jx hY W hJ (Nat.le_trans hn₀ hW.size) (hT.below hW) hp hq ((hW.cell (p := ⟨B, 0, none⟩) (by simp; omega)).trans hc) h0
end Slot
end Go.Proofs.Ytpcbmckknafdgaa
