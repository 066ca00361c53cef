import Derived.Test.YtdfmgneicdpjmaaGreatM24
import Derived.Test.YtdfmgneicdpjmaaGreatM19
/- Where an instruction of a right program hands its fact on to. -/
namespace Go.Proofs.YtdfmgneicdpjmaaGreat
open Go.RowKit Go.Shelf
set_option linter.unusedVariables false
set_option linter.unusedSimpArgs false
set_option maxRecDepth 100000
namespace Eng
open Resp

theorem tgt_nonneg {i : Ins} (h : oneE i = 0) (hj : jumpB i.op = true) : 0 ≤ i.n := by
  have hop := of_decide_eq_true hj
  unfold oneE at h
  split at h
  · split at h
    · rename_i h2
      obtain ⟨op, a, b, c, n⟩ := i
      simp only at hop h2 ⊢
      false_or_by_contra
      rename_i hn
      have hn0 : ¬ 0 ≤ n := hn
      rcases hop with rfl | rfl | rfl
      · have h3 := h2.2
        have e : (oneS ⟨9, a, b, c, n⟩ (frmL 9).length).2.2 = n := by
          have hf : frmL 9 = [116] := rfl
          rw [oneS, hf]
          simp [oneStep, hf, hn0]
        rw [e] at h3
        omega
      · have h3 := h2.2
        have e : (oneS ⟨10, a, b, c, n⟩ (frmL 10).length).2.2 = n := by
          have hf : frmL 10 = [114, 116] := rfl
          rw [oneS, hf]
          simp [oneStep, hf, hn0]
          split <;> rw [if_neg (fun h => hn0 h.1)]
        rw [e] at h3
        omega
      · have h3 := h2.2
        have e : (oneS ⟨11, a, b, c, n⟩ (frmL 11).length).2.2 = n := by
          have hf : frmL 11 = [114, 116] := rfl
          rw [oneS, hf]
          simp [oneStep, hf, hn0]
          split <;> rw [if_neg (fun h => hn0 h.1)]
        rw [e] at h3
        omega
    · cases h
  · cases h
theorem hGo_goes {i : Ins} {f : Fc} (h : oneE i = 0) (hg : hGo i f = true) : goesB i = true := by
  unfold hGo at hg
  have h0 : decide (oneE i = 0) = true := decide_eq_true h
  split at hg
  · rename_i hc
    have hc' := (of_decide_eq_true hc).1
    unfold goesB
    rw [h0, decide_eq_true (by omega), decide_eq_true (by omega), decide_eq_true (by omega)]
    rfl
  · split at hg
    · unfold goesB
      rw [h0, decide_eq_true (by omega), decide_eq_true (by omega), decide_eq_true (by omega)]
      rfl
    · exact hg
theorem hIs_jump {i : Ins} {f : Fc} (h : oneE i = 0) (hg : hIs i f = true) : tgtB i = true ∧ jumpB i.op = true := by
  unfold hIs at hg
  have h0 : decide (oneE i = 0) = true := decide_eq_true h
  split at hg
  · rename_i hc
    have hc' := (of_decide_eq_true hc).1
    have hj : jumpB i.op = true := decide_eq_true (by omega)
    unfold tgtB
    rw [h0, hj]
    exact ⟨rfl, rfl⟩
  · refine ⟨hg, ?_⟩
    unfold tgtB at hg
    rw [h0] at hg
    exact hg
theorem handL_bd {p : List Ins} {k : Nat} {i : Ins} {f : Fc} (hcp : cpE p = 0) (hi : p[k]? = some i) : ∀ x ∈ handL i k f, 0 ≤ x.1 ∧ x.1 < (p.length : Int) := by
  obtain ⟨⟨hn0, hn1⟩, hright, hlast⟩ := cp_right hcp
  obtain ⟨ho, ht⟩ := hright k i hi
  have hk : k < p.length := (List.getElem?_eq_some_iff.1 hi).1
  intro x hx
  unfold handL at hx
  rcases List.mem_append.1 hx with hx | hx
  · split at hx
    · rename_i hg
      obtain rfl := List.mem_singleton.1 hx
      have h1 := hGo_goes ho hg
      have h2 : ¬ k = p.length - 1 := fun e => by
        subst e
        rw [hlast i hi] at h1
        cases h1
      exact ⟨by show (0 : Int) ≤ (k : Int) + 1; omega, by show (k : Int) + 1 < _; omega⟩
    · cases hx
  · split at hx
    · rename_i hg
      obtain rfl := List.mem_singleton.1 hx
      obtain ⟨h1, h2⟩ := hIs_jump ho hg
      refine ⟨?_, ht h1⟩
      show 0 ≤ tgtV i
      unfold tgtV
      rw [if_pos h1]
      exact tgt_nonneg ho h2
    · cases hx
end Eng
end Go.Proofs.YtdfmgneicdpjmaaGreat

/- The run of check.facts: each step is the first change that there is; so its end is one. -/
namespace Go.Proofs.YtdfmgneicdpjmaaGreat
open Go.RowKit Go.Shelf
set_option linter.unusedVariables false
set_option linter.unusedSimpArgs false
namespace Eng
open Resp

/-- The first change. -/
def FcStep (p : List Ins) (gs gs' : List Fc) : Prop := ∃ k i f o j x, p[k]? = some i ∧ gs[k]? = some f ∧ f.is = true ∧ FcQuiet p gs k ∧ (handL i k f)[j]? = some x ∧
  (∀ y ∈ (handL i k f).take j, ∀ o, gs[y.1.toNat]? = some o → fcE (nxF o y.2) o = true) ∧ gs[x.1.toNat]? = some o ∧ fcE (nxF o x.2) o = false ∧ gs' = gs.set x.1.toNat (nxF o x.2)
inductive FcRun (p : List Ins) : List Fc → List Fc → Prop
  | refl (fs : List Fc) : FcRun p fs fs
  | step {fs gs gs' : List Fc} (h : FcRun p fs gs) (hs : FcStep p gs gs') : FcRun p fs gs'
theorem FcStep.det {p : List Ins} {gs a b : List Fc} (ha : FcStep p gs a) (hb : FcStep p gs b) : a = b := by
  obtain ⟨k, i, f, o, j, x, h1, h2, h3, h4, h5, h6, h7, h8, rfl⟩ := ha
  obtain ⟨k', i', f', o', j', x', g1, g2, g3, g4, g5, g6, g7, g8, rfl⟩ := hb
  have hk : k = k' := by
    rcases Nat.lt_trichotomy k k' with h | h | h
    · have := g4 k i f h h1 h2 h3 x (List.mem_of_getElem? h5) o h7
      rw [h8] at this; cases this
    · exact h
    · have := h4 k' i' f' h g1 g2 g3 x' (List.mem_of_getElem? g5) o' g7
      rw [g8] at this; cases this
  subst hk
  have e1 := h1.symm.trans g1
  injection e1 with e1
  subst e1
  have e2 := h2.symm.trans g2
  injection e2 with e2
  subst e2
  have hin : ∀ (a b : Nat) (z : Int × Fc), a < b → (handL i k f)[a]? = some z → z ∈ (handL i k f).take b := fun a b z hab hz => by
    rw [List.mem_take_iff_getElem]
    obtain ⟨hl, he⟩ := List.getElem?_eq_some_iff.1 hz
    exact ⟨a, by omega, he⟩
  have hj : j = j' := by
    rcases Nat.lt_trichotomy j j' with h | h | h
    · have := g6 x (hin j j' x h h5) o h7
      rw [h8] at this; cases this
    · exact h
    · have := h6 x' (hin j' j x' h g5) o' g7
      rw [g8] at this; cases this
  subst hj
  have e3 := h5.symm.trans g5
  injection e3 with e3
  subst e3
  have e4 := h7.symm.trans g7
  injection e4 with e4
  subst e4
  rfl
theorem FcStep.none {p : List Ins} {gs a : List Fc} (h : FcQuiet p gs p.length) (ha : FcStep p gs a) : False := by
  obtain ⟨k, i, f, o, j, x, h1, h2, h3, h4, h5, h6, h7, h8, rfl⟩ := ha
  have := h k i f (List.getElem?_eq_some_iff.1 h1).1 h1 h2 h3 x (List.mem_of_getElem? h5) o h7
  rw [h8] at this; cases this
theorem FcRun.head {p : List Ins} {a b : List Fc} (h : FcRun p a b) : a = b ∨ ∃ c, FcStep p a c ∧ FcRun p c b := by
  induction h with
  | refl => exact .inl rfl
  | step h hs ih =>
    rcases ih with rfl | ⟨c, h1, h2⟩
    · exact .inr ⟨_, hs, .refl _⟩
    · exact .inr ⟨c, h1, .step h2 hs⟩
theorem FcRun.line {p : List Ins} {a b c : List Fc} (h : FcRun p a b) (h' : FcRun p a c) : FcRun p b c ∨ FcRun p c b := by
  induction h with
  | refl => exact .inl h'
  | step h hs ih =>
    rcases ih with h1 | h1
    · rcases h1.head with rfl | ⟨d, h2, h3⟩
      · exact .inr (.step (.refl _) hs)
      · rw [FcStep.det hs h2]; exact .inl h3
    · exact .inr (.step h1 hs)
theorem FcRun.end_ {p : List Ins} {a b : List Fc} (h : FcRun p a b) (hq : FcQuiet p a p.length) : a = b := by
  rcases h.head with h | ⟨c, h1, -⟩
  · exact h
  · exact (FcStep.none hq h1).elim
theorem FcRun.one {p : List Ins} {a b c : List Fc} (h : FcRun p a b) (hb : FcQuiet p b p.length) (h' : FcRun p a c) (hc : FcQuiet p c p.length) : b = c := by
  rcases h.line h' with h1 | h1
  · exact h1.end_ hb
  · exact (h1.end_ hc).symm
/-- The facts of a program. -/
noncomputable def fctF (p : List Ins) : List Fc := by
  classical
  exact if h : ∃ fs, FcRun p (fcs0 p.length) fs ∧ FcQuiet p fs p.length then Classical.choose h else []
theorem fctF_eq {p : List Ins} {fs : List Fc} (h : FcRun p (fcs0 p.length) fs) (hq : FcQuiet p fs p.length) : fs = fctF p := by
  have hex : ∃ fs, FcRun p (fcs0 p.length) fs ∧ FcQuiet p fs p.length := ⟨fs, h, hq⟩
  unfold fctF
  rw [dif_pos hex]
  have hs := Classical.choose_spec hex
  exact h.one hq hs.1 hs.2
theorem FcRun.len {p : List Ins} {a b : List Fc} (h : FcRun p a b) : b.length = a.length := by
  induction h with
  | refl => rfl
  | step h hs ih =>
    obtain ⟨k, i, f, o, j, x, h1, h2, h3, h4, h5, h6, h7, h8, rfl⟩ := hs
    rw [List.length_set, ih]
end Eng
end Go.Proofs.YtdfmgneicdpjmaaGreat

/- As FermStop, where nothing is asked of the iterator's own state at its end. -/
namespace Go.Proofs.YtdfmgneicdpjmaaGreat
open Go.RowKit Go.Shelf
set_option linter.unusedVariables false

/-- An iterator that yields N times, or stops when it is told so. -/
def SeqFe {α : Type} (F : Fence) (n : Nat) (P : Program) (gf : Nat) (lb : Array Value) (encs : α → Array Value) (Sw : Nat → Prop) (St : Nat → World → Prop) (Ya : Nat → α → World → World → Prop) (N : Nat) : Prop :=
  ∀ (l : Nat) (J : Nat → World → Prop) (Jx : World → Prop) (W : World), St 0 W → (∀ k A B, J k A → Mod Sw A B → J k B) → (∀ A B, Jx A → Mod Sw A B → Jx B) →
    (∀ k x W0 W1, k < N → J k W0 → Mod Sw W0 W1 → Ya k x W0 W1 → YieldAt F (n - 1) P l (encs x) W1 fun e W' => (e = .returned (.bool true) ∧ J (k + 1) W' ∧ St (k + 1) W') ∨ (e = .returned (.bool false) ∧ Jx W')) →
    J 0 W → CallsIn F n P gf (#[.func (.yield l) #[] #[]] ++ lb) W fun e W' => (∃ v, e = .returned v) ∧ (J N W' ∨ Jx W')
theorem wpIn_rangeFunc_ste {F : Fence} {n : Nat} {P : Program} {α : Type} {g : Operand} {ps : Array Tmp} {assign body : Code} {Q : Exit → Act → World → Prop} {a : Act} {w : World}
    (hro : F.round = none) (h1 : 1 ≤ n) {gf : Nat} {lb : Array Value} (hg : a.eval g = .func (.func gf) #[] lb) (hFg : F.fn gf) (eg : ∀ args w, (callFunc gf args).run P w = .ok (.enter gf args) w)
    {encs : α → Array Value} (hps : ∀ x, (encs x).size = ps.size) {Sw : Nat → Prop} {St : Nat → World → Prop} {Ya : Nat → α → World → World → Prop} {N : Nat}
    (hseq : SeqFe F (n - 1) P gf lb encs Sw St Ya N) (hSw : ∀ k, Sw k → k < w.heap.size)
    (hStA : ∀ B, Below w.heap.size w B → St 0 B)
    (hStP : ∀ k A l o o', w.heap.size ≤ l → A.heap[l]? = some o → o.isCells = false → St k A → St k (A.putObj l o'))
    (I : Nat → World → Prop) (hIS : ∀ k A B, I k A → Mod Sw A B → I k B)
    (hIP : ∀ k A l o o', w.heap.size ≤ l → A.heap[l]? = some o → o.isCells = false → I k A → I k (A.putObj l o'))
    (Ix : Code → World → Prop) (hXS : ∀ c A B, Ix c A → Mod Sw A B → Ix c B)
    (hXP : ∀ c A l o o', w.heap.size ≤ l → A.heap[l]? = some o → o.isCells = false → Ix c A → Ix c (A.putObj l o'))
    (h0 : I 0 w) (As : Nat → Act → World → Prop)
    (hAsP : ∀ k a' A l o o', w.heap.size ≤ l → A.heap[l]? = some o → o.isCells = false → As k a' A → As k a' (A.putObj l o'))
    (hassign : ∀ (l k : Nat) (x : α) (W0 W : World) (K : Act → World → Prop), k < N → w.heap.size ≤ W0.heap.size → I k W0 → Mod Sw W0 W → Ya k x W0 W → (∀ a' W', KeepsFrom w.heap.size W W' → As k a' W' → K a' W') →
      assign.wpIn (F.inRound l) (n - 1 - 1) P (Exit.then K (fun _ _ _ => False)) { tmps := (ps.zip (encs x)).foldl (fun t (p, v) => t.setIfInBounds p v) a.tmps, defers := [] } W)
    (hbody : ∀ (l k : Nat) (a' : Act) (W : World), k < N → As k a' W → body.wpIn (F.inRound l) (n - 1 - 1) P (stPostX w.heap.size (fun W' => I (k + 1) W' ∧ St (k + 1) W') Ix W) a' W)
    (hdone : ∀ (D : Nat) (W : World), w.heap.size ≤ D → I N W → W.heap[D]? = some (.deferred (some [])) → Q .normal { a with defers := { target := .collected D, args := #[] } :: a.defers } W)
    (hstop : ∀ (D : Nat) (c : Code) (W : World), w.heap.size ≤ D → Ix c W → W.heap[D]? = some (.deferred (some [])) → c.wpIn F n P Q { a with defers := { target := .collected D, args := #[] } :: a.defers } W) :
    (Code.rangeFunc g ps assign body).wpIn F n P Q a w := by
  refine wpIn_rangeFunc ?_
  intro fn hfn
  rw [hro]
  obtain ⟨rec, hrec⟩ : ∃ rec : LoopState → Option Code → Loop, rec = fun st pe => { state := st, pending := pe, fn, tmps := a.tmps, params := ps, assign, body, defers := w.heap.size } := ⟨_, rfl⟩
  generalize hX : w.heap.size = X at *
  have hm1 : Mod Sw w ((w.alloc (.deferred (some []))).alloc (.loop (rec .ready none))) := ((Mod.refl _ _).alloc _).alloc _
  have hb1 : Below X w ((w.alloc (.deferred (some []))).alloc (.loop (rec .ready none))) := ((Below.refl _ w).alloc (Nat.le_of_eq hX.symm) _).alloc (by simp; omega) _
  have hL1 : ((w.alloc (.deferred (some []))).alloc (.loop (rec .ready none))).heap[X + 1]? = some (.loop (rec .ready none)) := by
    have := World.alloc_heap_new (w.alloc (.deferred (some []))) (.loop (rec .ready none)); rwa [World.size_alloc, hX] at this
  have hK1 : ((w.alloc (.deferred (some []))).alloc (.loop (rec .ready none))).heap[X]? = some (.deferred (some [])) := by
    have := World.alloc_heap_new w (.deferred (some [])); rw [hX] at this
    exact (Below.heap_alloc _ _ _ (by simp; omega)).trans this
  have hblk : ∀ {A B : World} {q : Nat} {o : Obj}, Mod Sw A B → X ≤ q → A.heap[q]? = some o → B.heap[q]? = some o := fun hm hq ho =>
    (hm.block _ (Array.getElem?_eq_some_iff.1 ho).1 (fun hs => by have := hSw _ hs; omega)).trans ho
  have hstart := run_enterLoop_outer (P := P) (w := w) fn a.tmps ps assign body
  rw [hX] at hstart
  generalize hW1 : (w.alloc (.deferred (some []))).alloc (.loop (rec .ready none)) = W1 at *
  refine ⟨X + 1, [{ target := .collected X, args := #[] }], W1, { target := .fn (.func gf) lb, args := #[.func (.yield (X + 1)) #[] #[]] }, W1, gf, #[.func (.yield (X + 1)) #[] #[]] ++ lb, W1, ?_, ?_, ?_, ?_, fun _ => h1, ?_⟩
  · rw [hstart, ← hW1, hrec]
  · simp only [resolve, hg]
    simp [go_sem]
  · intro f' hf'; simp [Target.leads] at hf'; subst hf'; exact hFg
  · simp [invoke, go_sem, eg]
  · refine (hseq (X + 1) (fun k W => I k W ∧ W.heap[X + 1]? = some (.loop (rec .ready none)) ∧ W.heap[X]? = some (.deferred (some []))) (fun W => ∃ c, Ix c W ∧ W.heap[X + 1]? = some (.loop (rec .done (some c))) ∧ W.heap[X]? = some (.deferred (some []))) W1 (hStA _ hb1)
      (fun k A B hJ hm => ⟨hIS k A B hJ.1 hm, hblk hm (by omega) hJ.2.1, hblk hm (Nat.le_refl _) hJ.2.2⟩) (fun A B ⟨c, h1, h2, h3⟩ hm => ⟨c, hXS c A B h1 hm, hblk hm (by omega) h2, hblk hm (Nat.le_refl _) h3⟩) ?_ ⟨hIS 0 w W1 h0 hm1, hL1, hK1⟩).mono ?_
    · rintro k x W0 W hk ⟨hi, hl0, hd0⟩ hm0 hya
      have hl := hblk hm0 (by omega) hl0
      have hd := hblk hm0 (Nat.le_refl _) hd0
      have hy := run_yield (P := P) (args := encs x) hl (by rw [hrec]; exact hps x)
      rw [hrec] at hy
      refine ⟨fn, _, assign, body, hy, roundIn_of_wpIn hfn (hassign _ k x W0 W _ hk (by have := (Array.getElem?_eq_some_iff.1 hl0).1; omega) hi hm0 hya (fun a' W' hkf has => ?_))⟩
      have hl' := hkf.same _ _ (by omega) hl rfl
      have hd' := hkf.same _ _ (Nat.le_refl _) hd rfl
      refine ⟨_, run_beginRound hl' (by rw [hrec]), ?_⟩
      have hlt : X + 1 < W'.heap.size := (Array.getElem?_eq_some_iff.1 hl').1
      have hl2 : (W'.putObj (X + 1) (.loop { rec .ready none with state := .busy })).heap[X + 1]? = some (.loop { rec .ready none with state := .busy }) := World.putObj_heap_same hlt
      have hd2 : (W'.putObj (X + 1) (.loop { rec .ready none with state := .busy })).heap[X]? = some (.deferred (some [])) := (World.putObj_heap_other (by omega)).trans hd'
      refine wpIn_mono (hbody _ k a' _ hk (hAsP k a' W' _ _ _ (by omega) hl' rfl has)) ?_
      rintro e a3 W3 hp
      cases e with
      | normal =>
        obtain ⟨hk3, hi3, hs3⟩ := hp
        have hl3 := hk3.same _ _ (by omega) hl2 rfl
        have hd3 := hk3.same _ _ (Nat.le_refl _) hd2 rfl
        have hr := run_endRound (P := P) none hl3
        refine ⟨_, _, hr, .inl ⟨rfl, ⟨hIP _ _ _ _ _ (by omega) hl3 rfl hi3, ?_, ?_⟩, hStP _ _ _ _ _ (by omega) hl3 rfl hs3⟩⟩
        · rw [World.putObj_heap_same (Array.getElem?_eq_some_iff.1 hl3).1, hrec]
          rfl
        · exact (World.putObj_heap_other (by omega)).trans hd3
      | ret =>
        obtain ⟨hk3, hi3⟩ := hp
        have hl3 := hk3.same _ _ (by omega) hl2 rfl
        have hd3 := hk3.same _ _ (Nat.le_refl _) hd2 rfl
        have hr := run_endRound (P := P) (some .ret) hl3
        refine ⟨_, _, hr, .inr ⟨rfl, .ret, hXP _ _ _ _ _ (by omega) hl3 rfl hi3, ?_, ?_⟩⟩
        · rw [World.putObj_heap_same (Array.getElem?_eq_some_iff.1 hl3).1, hrec]
          rfl
        · exact (World.putObj_heap_other (by omega)).trans hd3
      | exit id =>
        obtain ⟨hk3, hi3⟩ := hp
        have hl3 := hk3.same _ _ (by omega) hl2 rfl
        have hd3 := hk3.same _ _ (Nat.le_refl _) hd2 rfl
        have hr := run_endRound (P := P) (some (.exit id)) hl3
        refine ⟨_, _, hr, .inr ⟨rfl, (.exit id), hXP _ _ _ _ _ (by omega) hl3 rfl hi3, ?_, ?_⟩⟩
        · rw [World.putObj_heap_same (Array.getElem?_eq_some_iff.1 hl3).1, hrec]
          rfl
        · exact (World.putObj_heap_other (by omega)).trans hd3
      | goto t =>
        obtain ⟨hk3, hi3⟩ := hp
        have hl3 := hk3.same _ _ (by omega) hl2 rfl
        have hd3 := hk3.same _ _ (Nat.le_refl _) hd2 rfl
        have hr := run_endRound (P := P) (some (.goto t)) hl3
        refine ⟨_, _, hr, .inr ⟨rfl, (.goto t), hXP _ _ _ _ _ (by omega) hl3 rfl hi3, ?_, ?_⟩⟩
        · rw [World.putObj_heap_same (Array.getElem?_eq_some_iff.1 hl3).1, hrec]
          rfl
        · exact (World.putObj_heap_other (by omega)).trans hd3
      | panic ch => exact hp.elim
      | outgrown => exact hp.elim
    · rintro e W2 ⟨⟨v, rfl⟩, (⟨hi, hl, hd⟩ | ⟨c, hi, hl, hd⟩)⟩
      · refine ⟨none, _, by have := run_endLoop (P := P) hl (by rw [hrec]; simp); rw [hrec] at this; exact this, ?_⟩
        exact hdone _ _ (Nat.le_refl _) (hIP _ _ _ _ _ (by omega) hl rfl hi) ((World.putObj_heap_other (by omega)).trans hd)
      · refine ⟨some c, _, by have := run_endLoop (P := P) hl (by rw [hrec]; simp); rw [hrec] at this; exact this, ?_⟩
        exact hstop _ c _ (Nat.le_refl _) (hXP _ _ _ _ _ (by omega) hl rfl hi) ((World.putObj_heap_other (by omega)).trans hd)
end Go.Proofs.YtdfmgneicdpjmaaGreat
