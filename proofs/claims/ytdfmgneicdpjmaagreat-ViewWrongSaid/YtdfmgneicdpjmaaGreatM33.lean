import Derived.Test.YtdfmgneicdpjmaaGreatM26
/- A range over a function: the iterator keeps cells of its own between its rounds: what the loop's body writes is told. -/
namespace Go.Proofs.YtdfmgneicdpjmaaGreat
open Go.RowKit Go.Shelf
set_option linter.unusedVariables false

namespace Eng
open Resp
/-- All cells but those of S (a block, and the type of its cells) are as they were. -/
def CellsK (S : Nat → TypeId → Prop) (A B : World) : Prop := A.heap.size ≤ B.heap.size ∧ ∀ q cs t fr, A.heap[q]? = some (.cells cs t fr) → ¬ S q t → B.heap[q]? = some (.cells cs t fr)
theorem CellsK.refl (S : Nat → TypeId → Prop) (A : World) : CellsK S A A := ⟨Nat.le_refl _, fun _ _ _ _ h _ => h⟩
theorem CellsK.trans {S : Nat → TypeId → Prop} {A B C : World} (h : CellsK S A B) (h' : CellsK S B C) : CellsK S A C := ⟨Nat.le_trans h.1 h'.1, fun q cs t fr hq hS => h'.2 q cs t fr (h.2 q cs t fr hq hS) hS⟩
theorem CellsK.of_mod {S : Nat → TypeId → Prop} {T : Nat → Prop} {A B : World} (h : Mod T A B) (hT : ∀ q cs t fr, T q → A.heap[q]? = some (.cells cs t fr) → S q t) : CellsK S A B := ⟨h.size, fun q cs t fr hq hS => h.heap hq (fun ht => hS (hT q cs t fr ht hq))⟩
theorem CellsK.fresh {S : Nat → TypeId → Prop} {T : Nat → Prop} {A B C : World} (h : CellsK S A B) (h' : Mod T B C) (hT : ∀ q cs t fr, A.heap[q]? = some (.cells cs t fr) → T q → S q t) : CellsK S A C :=
  ⟨Nat.le_trans h.1 h'.size, fun q cs t fr hq hS => h'.heap (h.2 q cs t fr hq hS) (fun ht => hS (hT q cs t fr hq ht))⟩
theorem CellsK.put {S : Nat → TypeId → Prop} {A B : World} (h : CellsK S A B) {l : Nat} {o : Obj} (o' : Obj) (hl : B.heap[l]? = some o) (ho : o.isCells = false) : CellsK S A (B.putObj l o') :=
  ⟨by rw [show (B.putObj l o').heap.size = B.heap.size by simp [World.putObj]]; exact h.1, fun q cs t fr hq hS => (mod_put_ B l o').heap (h.2 q cs t fr hq hS) (fun e => by
    have h1 := h.2 q cs t fr hq hS
    rw [e, hl] at h1; cases h1; cases ho)⟩
theorem CellsK.heap {S : Nat → TypeId → Prop} {A B : World} (h : CellsK S A B) {q : Nat} {cs : Array Value} {t : TypeId} {fr : Nat × Nat} (hq : A.heap[q]? = some (.cells cs t fr)) (hS : ¬ S q t) : B.heap[q]? = some (.cells cs t fr) := h.2 q cs t fr hq hS
/-- An iterator that yields N times, or stops when it is told so; the body writes cells of Sb alone. -/
def SeqK {α : Type} (F : Fence) (n : Nat) (P : Program) (gf : Nat) (lb : Array Value) (encs : α → Array Value) (Sw : Nat → Prop) (Sb : Nat → TypeId → Prop) (S0 : World → Prop) (Ya : Nat → α → World → World → Prop) (N : Nat) : Prop :=
  ∀ (l : Nat) (J : Nat → World → Prop) (Jx : World → Prop) (W : World), S0 W → (∀ k A B, J k A → Mod Sw A B → J k B) → (∀ A B, Jx A → Mod Sw A B → Jx B) →
    (∀ k x W0 W1, k < N → J k W0 → Mod Sw W0 W1 → Ya k x W0 W1 → YieldAt F (n - 1) P l (encs x) W1 fun e W' => (e = .returned (.bool true) ∧ J (k + 1) W' ∧ CellsK Sb W1 W') ∨ (e = .returned (.bool false) ∧ Jx W')) →
    J 0 W → CallsIn F n P gf (#[.func (.yield l) #[] #[]] ++ lb) W fun e W' => (∃ v, e = .returned v) ∧ (J N W' ∨ Jx W')
/-- How a round ends. -/
def stPostK (B : Nat) (Sb : Nat → TypeId → Prop) (R : World → Prop) (Rx : Code → World → Prop) (W : World) : Exit → Act → World → Prop
  | .normal, _, W' => KeepsFrom B W W' ∧ R W' ∧ CellsK Sb W W'
  | .ret, _, W' => KeepsFrom B W W' ∧ Rx .ret W'
  | .exit id, _, W' => KeepsFrom B W W' ∧ Rx (.exit id) W'
  | .goto t, _, W' => KeepsFrom B W W' ∧ Rx (.goto t) W'
  | .panic _, _, _ => False
  | .outgrown, _, _ => False

theorem wpIn_rangeFunc_k {F : Fence} {n : Nat} {P : Program} {α : Type} {g : Operand} {ps : Array Tmp} {assign body : Code} {Q : Exit → Act → World → Prop} {a : Act} {w : World}
    (hro : F.round = none) (h1 : 1 ≤ n) {gf : Nat} {lb : Array Value} (hg : a.eval g = .func (.func gf) #[] lb) (hFg : F.fn gf) (eg : ∀ args w, (callFunc gf args).run P w = .ok (.enter gf args) w)
    {encs : α → Array Value} (hps : ∀ x, (encs x).size = ps.size) {Sw : Nat → Prop} {Sb : Nat → TypeId → Prop} {S0 : World → Prop} {Ya : Nat → α → World → World → Prop} {N : Nat}
    (hseq : SeqK F (n - 1) P gf lb encs Sw Sb S0 Ya N) (hSw : ∀ k, Sw k → k < w.heap.size)
    (hStA : ∀ B, Below w.heap.size w B → S0 B)
    (I : Nat → World → Prop) (hIS : ∀ k A B, I k A → Mod Sw A B → I k B)
    (hIP : ∀ k A l o o', w.heap.size ≤ l → A.heap[l]? = some o → o.isCells = false → I k A → I k (A.putObj l o'))
    (Ix : Code → World → Prop) (hXS : ∀ c A B, Ix c A → Mod Sw A B → Ix c B)
    (hXP : ∀ c A l o o', w.heap.size ≤ l → A.heap[l]? = some o → o.isCells = false → Ix c A → Ix c (A.putObj l o'))
    (h0 : I 0 w) (As : Nat → Act → World → Prop)
    (hAsP : ∀ k a' A l o o', w.heap.size ≤ l → A.heap[l]? = some o → o.isCells = false → As k a' A → As k a' (A.putObj l o'))
    (hassign : ∀ (l k : Nat) (x : α) (W0 W : World) (K : Act → World → Prop), k < N → w.heap.size ≤ W0.heap.size → I k W0 → Mod Sw W0 W → Ya k x W0 W → (∀ a' W', KeepsFrom w.heap.size W W' → Mod (fun _ => False) W W' → As k a' W' → K a' W') →
      assign.wpIn (F.inRound l) (n - 1 - 1) P (Exit.then K (fun _ _ _ => False)) { tmps := (ps.zip (encs x)).foldl (fun t (p, v) => t.setIfInBounds p v) a.tmps, defers := [] } W)
    (hbody : ∀ (l k : Nat) (a' : Act) (W : World), k < N → As k a' W → body.wpIn (F.inRound l) (n - 1 - 1) P (stPostK w.heap.size Sb (fun W' => I (k + 1) W') Ix W) a' W)
    (hdone : ∀ (D : Nat) (W : World), w.heap.size ≤ D → I N W → W.heap[D]? = some (.deferred (some [])) → Q .normal { a with defers := { target := .collected D, args := #[] } :: a.defers } W)
    (hstop : ∀ (D : Nat) (c : Code) (W : World), w.heap.size ≤ D → Ix c W → W.heap[D]? = some (.deferred (some [])) → c.wpIn F n P Q { a with defers := { target := .collected D, args := #[] } :: a.defers } W) :
    (Code.rangeFunc g ps assign body).wpIn F n P Q a w := by
  refine wpIn_rangeFunc ?_
  intro fn hfn
  rw [hro]
  obtain ⟨rec, hrec⟩ : ∃ rec : LoopState → Option Code → Loop, rec = fun st pe => { state := st, pending := pe, fn, tmps := a.tmps, params := ps, assign, body, defers := w.heap.size } := ⟨_, rfl⟩
  generalize hX : w.heap.size = X at *
  have hm1 : Mod Sw w ((w.alloc (.deferred (some []))).alloc (.loop (rec .ready none))) := ((Mod.refl _ _).alloc _).alloc _
  have hb1 : Below X w ((w.alloc (.deferred (some []))).alloc (.loop (rec .ready none))) := ((Below.refl _ w).alloc (Nat.le_of_eq hX.symm) _).alloc (by simp; omega) _
  have hL1 : ((w.alloc (.deferred (some []))).alloc (.loop (rec .ready none))).heap[X + 1]? = some (.loop (rec .ready none)) := by
    have := World.alloc_heap_new (w.alloc (.deferred (some []))) (.loop (rec .ready none)); rwa [World.size_alloc, hX] at this
  have hK1 : ((w.alloc (.deferred (some []))).alloc (.loop (rec .ready none))).heap[X]? = some (.deferred (some [])) := by
    have := World.alloc_heap_new w (.deferred (some [])); rw [hX] at this
    exact (Below.heap_alloc _ _ _ (by simp; omega)).trans this
  have hblk : ∀ {A B : World} {q : Nat} {o : Obj}, Mod Sw A B → X ≤ q → A.heap[q]? = some o → B.heap[q]? = some o := fun hm hq ho =>
    (hm.block _ (Array.getElem?_eq_some_iff.1 ho).1 (fun hs => by have := hSw _ hs; omega)).trans ho
  have hstart := run_enterLoop_outer (P := P) (w := w) fn a.tmps ps assign body
  rw [hX] at hstart
  generalize hW1 : (w.alloc (.deferred (some []))).alloc (.loop (rec .ready none)) = W1 at *
  refine ⟨X + 1, [{ target := .collected X, args := #[] }], W1, { target := .fn (.func gf) lb, args := #[.func (.yield (X + 1)) #[] #[]] }, W1, gf, #[.func (.yield (X + 1)) #[] #[]] ++ lb, W1, ?_, ?_, ?_, ?_, fun _ => h1, ?_⟩
  · rw [hstart, ← hW1, hrec]
  · simp only [resolve, hg]
    simp [go_sem]
  · intro f' hf'; simp [Target.leads] at hf'; subst hf'; exact hFg
  · simp [invoke, go_sem, eg]
  · refine (hseq (X + 1) (fun k W => I k W ∧ W.heap[X + 1]? = some (.loop (rec .ready none)) ∧ W.heap[X]? = some (.deferred (some []))) (fun W => ∃ c, Ix c W ∧ W.heap[X + 1]? = some (.loop (rec .done (some c))) ∧ W.heap[X]? = some (.deferred (some []))) W1 (hStA _ hb1)
      (fun k A B hJ hm => ⟨hIS k A B hJ.1 hm, hblk hm (by omega) hJ.2.1, hblk hm (Nat.le_refl _) hJ.2.2⟩) (fun A B ⟨c, h1, h2, h3⟩ hm => ⟨c, hXS c A B h1 hm, hblk hm (by omega) h2, hblk hm (Nat.le_refl _) h3⟩) ?_ ⟨hIS 0 w W1 h0 hm1, hL1, hK1⟩).mono ?_
    · rintro k x W0 W hk ⟨hi, hl0, hd0⟩ hm0 hya
      have hl := hblk hm0 (by omega) hl0
      have hd := hblk hm0 (Nat.le_refl _) hd0
      have hy := run_yield (P := P) (args := encs x) hl (by rw [hrec]; exact hps x)
      rw [hrec] at hy
      refine ⟨fn, _, assign, body, hy, roundIn_of_wpIn hfn (hassign _ k x W0 W _ hk (by have := (Array.getElem?_eq_some_iff.1 hl0).1; omega) hi hm0 hya (fun a' W' hkf hma has => ?_))⟩
      have hl' := hkf.same _ _ (by omega) hl rfl
      have hd' := hkf.same _ _ (Nat.le_refl _) hd rfl
      refine ⟨_, run_beginRound hl' (by rw [hrec]), ?_⟩
      have hlt : X + 1 < W'.heap.size := (Array.getElem?_eq_some_iff.1 hl').1
      have hl2 : (W'.putObj (X + 1) (.loop { rec .ready none with state := .busy })).heap[X + 1]? = some (.loop { rec .ready none with state := .busy }) := World.putObj_heap_same hlt
      have hd2 : (W'.putObj (X + 1) (.loop { rec .ready none with state := .busy })).heap[X]? = some (.deferred (some [])) := (World.putObj_heap_other (by omega)).trans hd'
      refine wpIn_mono (hbody _ k a' _ hk (hAsP k a' W' _ _ _ (by omega) hl' rfl has)) ?_
      rintro e a3 W3 hp
      cases e with
      | normal =>
        obtain ⟨hk3, hi3, hc3⟩ := hp
        have hl3 := hk3.same _ _ (by omega) hl2 rfl
        have hd3 := hk3.same _ _ (Nat.le_refl _) hd2 rfl
        have hr := run_endRound (P := P) none hl3
        refine ⟨_, _, hr, .inl ⟨rfl, ⟨hIP _ _ _ _ _ (by omega) hl3 rfl hi3, ?_, ?_⟩, (((CellsK.of_mod hma (fun _ _ _ _ h => h.elim)).put _ hl' rfl).trans hc3).put _ hl3 rfl⟩⟩
        · rw [World.putObj_heap_same (Array.getElem?_eq_some_iff.1 hl3).1, hrec]
          rfl
        · exact (World.putObj_heap_other (by omega)).trans hd3
      | ret =>
        obtain ⟨hk3, hi3⟩ := hp
        have hl3 := hk3.same _ _ (by omega) hl2 rfl
        have hd3 := hk3.same _ _ (Nat.le_refl _) hd2 rfl
        have hr := run_endRound (P := P) (some .ret) hl3
        refine ⟨_, _, hr, .inr ⟨rfl, .ret, hXP _ _ _ _ _ (by omega) hl3 rfl hi3, ?_, ?_⟩⟩
        · rw [World.putObj_heap_same (Array.getElem?_eq_some_iff.1 hl3).1, hrec]
          rfl
        · exact (World.putObj_heap_other (by omega)).trans hd3
      | exit id =>
        obtain ⟨hk3, hi3⟩ := hp
        have hl3 := hk3.same _ _ (by omega) hl2 rfl
        have hd3 := hk3.same _ _ (Nat.le_refl _) hd2 rfl
        have hr := run_endRound (P := P) (some (.exit id)) hl3
        refine ⟨_, _, hr, .inr ⟨rfl, (.exit id), hXP _ _ _ _ _ (by omega) hl3 rfl hi3, ?_, ?_⟩⟩
        · rw [World.putObj_heap_same (Array.getElem?_eq_some_iff.1 hl3).1, hrec]
          rfl
        · exact (World.putObj_heap_other (by omega)).trans hd3
      | goto t =>
        obtain ⟨hk3, hi3⟩ := hp
        have hl3 := hk3.same _ _ (by omega) hl2 rfl
        have hd3 := hk3.same _ _ (Nat.le_refl _) hd2 rfl
        have hr := run_endRound (P := P) (some (.goto t)) hl3
        refine ⟨_, _, hr, .inr ⟨rfl, (.goto t), hXP _ _ _ _ _ (by omega) hl3 rfl hi3, ?_, ?_⟩⟩
        · rw [World.putObj_heap_same (Array.getElem?_eq_some_iff.1 hl3).1, hrec]
          rfl
        · exact (World.putObj_heap_other (by omega)).trans hd3
      | panic ch => exact hp.elim
      | outgrown => exact hp.elim
    · rintro e W2 ⟨⟨v, rfl⟩, (⟨hi, hl, hd⟩ | ⟨c, hi, hl, hd⟩)⟩
      · refine ⟨none, _, by have := run_endLoop (P := P) hl (by rw [hrec]; simp); rw [hrec] at this; exact this, ?_⟩
        exact hdone _ _ (Nat.le_refl _) (hIP _ _ _ _ _ (by omega) hl rfl hi) ((World.putObj_heap_other (by omega)).trans hd)
      · refine ⟨some c, _, by have := run_endLoop (P := P) hl (by rw [hrec]; simp); rw [hrec] at this; exact this, ?_⟩
        exact hstop _ c _ (Nat.le_refl _) (hXP _ _ _ _ _ (by omega) hl rfl hi) ((World.putObj_heap_other (by omega)).trans hd)
end Eng
end Go.Proofs.YtdfmgneicdpjmaaGreat
