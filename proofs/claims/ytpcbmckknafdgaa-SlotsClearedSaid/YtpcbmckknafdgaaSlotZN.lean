/- slices.Backward over references. -/
import Derived.Test.YtpcbmckknafdgaaSlotI
namespace Go.Proofs.Ytpcbmckknafdgaa
open Go.RowKit Go.Shelf
attribute [local go_sem] Oper.semAt_some
set_option linter.unusedVariables false
set_option linter.unusedSimpArgs false
set_option maxRecDepth 100000
namespace Slot

/-- The first k references, from behind, each with its number. -/
def backsOf (l : List R) : Nat → List (Nat × R)
  | 0 => []
  | k + 1 => (k, l[k]?.getD (0, 0)) :: backsOf l k
theorem backsOf_length (l : List R) : ∀ k, (backsOf l k).length = k
  | 0 => rfl
  | k + 1 => by rw [backsOf, List.length_cons, backsOf_length l k]

theorem Backward_any (av : Option Addr) (n cv : Nat) (w : World) :
    Calls Try.prog 29 #[.slice av n cv] w fun e w' => e = .returned (.func (.func 38) #[] #[.pointer (some ⟨w.heap.size, 0, none⟩)]) ∧ w' = w.alloc (.cells #[.slice av n cv] 44) := by
  go_enter Try.func29, Try.ntmps29
  go_wp2
  go_ret
  exact ⟨rfl, rfl⟩

theorem back1_in (m : Nat) (hm : 1 ≤ m) (l0 B g cv : Nat) (S : Nat → Prop) (l : List R) (hl : l.length ≤ 1024) (hB : ¬ S B) (hg : ¬ S g) (J Jx : List (Nat × R) → World → Prop)
    (hY : ∀ pre x W, J pre W → pre.length < l.length → YieldAt Fence.wide (m - 1) Try.prog l0 #[.int .i64 (x.1 : Int), .agg #[.int .i64 x.2.1, .int .i64 x.2.2]] W fun e W' =>
      (e = .returned (.bool true) ∧ J (pre ++ [x]) W' ∧ Mod S W W') ∨ (e = .returned (.bool false) ∧ Jx (pre ++ [x]) W'))
    (W : World) (hc : W.cell? ⟨B, 0, none⟩ = some (.slice (some ⟨g, 0, none⟩) l.length cv))
    (hcell : ∀ i, i < l.length → W.cell? ⟨g, i * 2, none⟩ = some (.int .i64 (l[i]?.getD (0, 0)).1) ∧ W.cell? ⟨g, i * 2 + 1, none⟩ = some (.int .i64 (l[i]?.getD (0, 0)).2)) (h0 : J [] W) :
    CallsIn Fence.wide m Try.prog 38 #[.func (.yield l0) #[] #[], .pointer (some ⟨B, 0, none⟩)] W fun e W' => (∃ v, e = .returned v) ∧
      ((∃ ys, ys = backsOf l l.length ∧ J ys W') ∨ (∃ pre, pre <+: backsOf l l.length ∧ Jx pre W')) := by
  refine callsIn_of_wp Try.func38 rfl trivial ?_ rfl
  simp only [Try.ntmps38, List.size_toArray, List.length_cons, List.length_nil, Nat.reduceAdd, Nat.reduceSub, Array.replicate_succ, Array.replicate_zero, List.push_toArray, List.append_toArray, List.nil_append, List.cons_append]
  have HC := Lib.hid hcell
  clear hcell
  have hlI : (l.length : Int) ≤ 1024 := by omega
  gi_wp2
  gi_loopw [3] (fun a wr => ∃ (pre : List (Nat × R)) (k : Nat), k ≤ l.length ∧ a = .int .i64 ((k : Int) - 1) ∧ Hid (backsOf l l.length = pre ++ backsOf l k) ∧ J pre wr ∧ Mod S W wr) (fun a _ => (intOf a + 1).toNat)
  case atStart => exact ⟨[], l.length, Nat.le_refl _, rfl, rfl, h0, Mod.refl _ _⟩
  case round =>
    obtain ⟨pre, k, hk, rfl, hF, hJs, hnx⟩ := hrel
    have c0 := hnx.cell (p := ⟨B, 0, none⟩) hB hc
    cases k with
    | zero =>
      gi_wp2
      go_end0
      exact ⟨⟨_, rfl⟩, .inl ⟨_, rfl, by have := hF.out; rw [backsOf, List.append_nil] at this; rw [this]; exact hJs⟩⟩
    | succ k =>
      have hkl : k < l.length := by omega
      have hklI : (k : Int) < l.length := by omega
      obtain ⟨e0, e1⟩ := HC.out k hkl
      have d0 := hnx.cell (p := ⟨g, k * 2, none⟩) hg e0
      have d1 := hnx.cell (p := ⟨g, k * 2 + 1, none⟩) hg e1
      have HF := Lib.hid (show backsOf l l.length = (pre ++ [(k, l[k]?.getD (0, 0))]) ++ backsOf l k by rw [hF.out, backsOf]; simp)
      have hplen : pre.length < l.length := by
        have := congrArg List.length hF.out
        rw [backsOf_length, List.length_append, backsOf_length] at this
        omega
      clear hF e0 e1
      generalize l[k]?.getD (0, 0) = x at *
      obtain ⟨x1, x2⟩ := x
      obtain ⟨fn, tmps, assign, body, hy, hR⟩ := hY pre (k, (x1, x2)) wr hJs hplen
      dsimp only at hy
      gi_wp2
      refine hR.mono ?_
      rintro e W3 (⟨rfl, hJ3, hk3⟩ | ⟨rfl, hJx3⟩)
      · have hB3 := hnx.trans hk3
        gi_wp2
        exact ⟨⟨pre ++ [(k, (x1, x2))], k, by omega, rfl, HF, hJ3, hB3⟩, by simp [intOf]⟩
      · gi_wp2

        refine bodyPost_ret (results_none rfl _ _ _) rfl ?_
        exact ⟨⟨_, rfl⟩, .inr ⟨pre ++ [(k, (x1, x2))], ⟨backsOf l k, HF.out.symm⟩, hJx3⟩⟩

theorem back1_stops (m : Nat) (hm : 1 ≤ m) (B g cv : Nat) (S : Nat → Prop) (l : List R) (hl : l.length ≤ 1024) (w : World) (hB : ¬ S B) (hB' : B < w.heap.size) (hg : ¬ S g) (hg' : g < w.heap.size) (hc : w.cell? ⟨B, 0, none⟩ = some (.slice (some ⟨g, 0, none⟩) l.length cv))
    (hcell : ∀ i, i < l.length → w.cell? ⟨g, i * 2, none⟩ = some (.int .i64 (l[i]?.getD (0, 0)).1) ∧ w.cell? ⟨g, i * 2 + 1, none⟩ = some (.int .i64 (l[i]?.getD (0, 0)).2)) :
    SeqStopsK Fence.wide m Try.prog 38 #[.pointer (some ⟨B, 0, none⟩)] (fun x : Nat × R => #[.int .i64 (x.1 : Int), .agg #[.int .i64 x.2.1, .int .i64 x.2.2]]) (Mod S) (fun ys => ys = backsOf l l.length) (fun pre => pre <+: backsOf l l.length) l.length w := fun l0 J Jx W hW hJ _ hY h0 =>
  back1_in m hm l0 B g cv S l hl hB hg J Jx hY W ((hW.cell (p := ⟨B, 0, none⟩) hB').trans hc)
    (fun i hi => ⟨(hW.cell (p := ⟨g, i * 2, none⟩) hg').trans (hcell i hi).1, (hW.cell (p := ⟨g, i * 2 + 1, none⟩) hg').trans (hcell i hi).2⟩) h0

/-- Over no references at all. -/
theorem back0_in (m : Nat) (hm : 1 ≤ m) (l0 B cv : Nat) (av : Option Addr) (J : List (Nat × R) → World → Prop)
    (W : World) (hc : W.cell? ⟨B, 0, none⟩ = some (.slice av 0 cv)) (h0 : J [] W) :
    CallsIn Fence.wide m Try.prog 38 #[.func (.yield l0) #[] #[], .pointer (some ⟨B, 0, none⟩)] W fun e W' => (∃ v, e = .returned v) ∧ J [] W' := by
  refine callsIn_of_wp Try.func38 rfl trivial ?_ rfl
  simp only [Try.ntmps38, List.size_toArray, List.length_cons, List.length_nil, Nat.reduceAdd, Nat.reduceSub, Array.replicate_succ, Array.replicate_zero, List.push_toArray, List.append_toArray, List.nil_append, List.cons_append]
  gi_wp2
  gi_loopw [3] (fun a wr => a = .int .i64 (-1) ∧ wr = W) (fun a _ => 0)
  case atStart => exact ⟨rfl, rfl⟩
  case round =>
    obtain ⟨rfl, rfl⟩ := hrel
    gi_wp2
    go_end0
    exact ⟨⟨_, rfl⟩, h0⟩
theorem back0_stops (m : Nat) (hm : 1 ≤ m) (B cv : Nat) (av : Option Addr) (Kp : World → World → Prop) (w : World) (hB' : B < w.heap.size) (hc : w.cell? ⟨B, 0, none⟩ = some (.slice av 0 cv)) :
    SeqStopsK Fence.wide m Try.prog 38 #[.pointer (some ⟨B, 0, none⟩)] (fun x : Nat × R => #[.int .i64 (x.1 : Int), .agg #[.int .i64 x.2.1, .int .i64 x.2.2]]) Kp (fun ys => ys = []) (fun pre => pre <+: []) 0 w := fun l0 J Jx W hW hJ _ hY h0 =>
  (back0_in m hm l0 B cv av J W ((hW.cell (p := ⟨B, 0, none⟩) hB').trans hc) h0).mono fun e W' ⟨h1, h2⟩ => ⟨h1, .inl ⟨[], rfl, h2⟩⟩
theorem ownFrom_mod {β : Type} {S : Nat → Prop} {B : Nat} {w0 : World} (hS : ∀ k, B ≤ k → S k) : OwnFrom B (fun (_ : β) W => Mod S w0 W) := fun s W W' row hs hg hr =>
  hs.trans ((Mod.of_grownBy hg).mono fun k _ e => hS k (hr k e.symm).1)
theorem modK_b {S : Nat → Prop} {w : World} (hS : ∀ k, w.heap.size ≤ k → S k) (W : World) (l : Nat) (o o' : Obj) (hl : w.heap.size ≤ l) (h : W.heap[l]? = some o) (_ : o.isCells = false) (_ : o.isWalk = false) : Mod S W (W.putObj l o') :=
  Mod.putObj (Mod.refl S W) (.inr (hS l hl)) o'
end Slot
end Go.Proofs.Ytpcbmckknafdgaa
