import Derived.Test.YtdfmgneicdpjmaaGreatM17
import Derived.Test.YtdfmgneicdpjmaaGreatM06
import Derived.RangeFuncWrites
/- view.wrong; of, chosen. -/
namespace Go.Proofs.YtdfmgneicdpjmaaGreat
open Go.RowKit Go.Shelf
set_option linter.unusedVariables false
set_option linter.unusedSimpArgs false
set_option maxRecDepth 100000
namespace View
open Resp

/-- A slice that came in, with its entries. -/
structure Scr where
  a : Option Addr
  n : Nat
  c : Nat
  es : List Ent
def ScrsAt (W : World) (g : Nat) (l : List Scr) : Prop := ∀ i x, l[i]? = some x → W.cell? ⟨g, i, none⟩ = some (.slice x.a x.n x.c) ∧ ScrAt W x.a x.n x.es ∧ x.n ≤ maxLen
theorem ScrsAt.mod {S : Nat → Prop} {W W' : World} {g : Nat} {l : List Scr} (h : ScrsAt W g l) (hm : Mod S W W') (hS : ∀ q, ¬ S q) : ScrsAt W' g l := fun i x hx => ⟨hm.cell (hS _) (h i x hx).1, (h i x hx).2.1.mod hm hS, (h i x hx).2.2⟩
def firstE : List Scr → Int
  | [] => 0
  | x :: t => if chkE x.es = 0 then firstE t else chkE x.es
theorem firstE_at : ∀ (l : List Scr) (k : Nat) (hk : k < l.length), (∀ j (hj : j < l.length), j < k → chkE l[j].es = 0) → ¬ chkE l[k].es = 0 → firstE l = chkE l[k].es
  | x :: t, 0, hk, _, h0 => by simp [firstE] at h0 ⊢; intro h; exact absurd h h0
  | x :: t, k + 1, hk, h, h0 => by
    have h1 := h 0 (by simp) (by omega)
    simp at h1
    simp only [firstE, h1, if_true, List.getElem_cons_succ]
    exact firstE_at t k (by simpa using hk) (fun j hj hjk => by have := h (j + 1) (by simpa using hj) (by omega); simpa using this) (by simpa using h0)
theorem firstE_none : ∀ (l : List Scr), (∀ j (hj : j < l.length), chkE l[j].es = 0) → firstE l = 0
  | [], _ => rfl
  | x :: t, h => by
    have h1 := h 0 (by simp)
    simp at h1
    simp only [firstE, h1, if_true]
    exact firstE_none t fun j hj => by have := h (j + 1) (by simpa using hj); simpa using this
def wrongE (slot : Int) (l : List Scr) : Int := if firstE l = 0 then (if slot < 0 ∨ 4294967295 < slot then 2 else 0) else firstE l
set_option maxHeartbeats 1000000 in
theorem wrong_any (slot : Int) (g m c : Nat) (l : List Scr) (hl : l.length = m) (hm : m ≤ 1000) (W : World) (h : ScrsAt W g l) :
    Calls Tryz.prog 60 #[.int .i64 slot, .slice (some ⟨g, 0, none⟩) m c] W fun e w' => e = .returned (.int .i64 (wrongE slot l)) ∧ Below W.heap.size W w' := by
  have H := Lib.hid h
  have HL := Lib.hid hl
  clear h hl
  go_enter Tryz.func60, Tryz.ntmps60
  go_wp2_with fail
  go_loopw [11, 6, 7, 8] (fun i _ _ _ wr => ∃ k : Nat, k ≤ m ∧ i = .int .i64 k ∧ Hid (∀ j (hj : j < l.length), j < k → chkE l[j].es = 0) ∧ Hid (Below W.heap.size W wr)) (fun i _ _ _ _ => m - (intOf i).toNat)
  case atStart => exact ⟨0, Nat.zero_le _, rfl, fun j hj h => absurd h (Nat.not_lt_zero _), Below.refl _ _⟩
  case round =>
    obtain ⟨k, hk, rfl, HZ, HB⟩ := hrel
    by_cases hlt : k < m
    · have hltI : (k : Int) < m := by omega
      have hk2 : k < l.length := by have := HL.out; omega
      obtain ⟨hc, hs, hn⟩ := (H.out.mod (S := fun _ => False) (Mod.of_same HB.out) (by simp)) k _ (List.getElem?_eq_getElem hk2)
      have HC := Lib.hid (Check_any l[k].a l[k].n l[k].c l[k].es wr hs hn)
      by_cases he : chkE l[k].es = 0
      · have HZ2 : Hid (∀ j (hj : j < l.length), j < k + 1 → chkE l[j].es = 0) := fun j hj h => by
          rcases Nat.lt_or_ge j k with h2 | h2
          · exact HZ.out j hj h2
          · obtain rfl : j = k := by omega
            exact he
        rw [he] at HC
        clear hs hn he
        generalize l[k] = z at *
        clear hk2
        go_wp2_with fail
        refine HC.out.mono ?_; rintro e w' ⟨rfl, hb3⟩
        have HB3 := Lib.hid (below_step_ HB.out hb3)
        clear hb3
        go_wp2_with fail
        exact ⟨⟨k + 1, by omega, by simp, HZ2.out, HB3.out⟩, by simp [intOf]; omega⟩
      · have HF : Hid (wrongE slot l = chkE l[k].es) := by
          have h1 := firstE_at l k hk2 HZ.out he
          simp [Hid, wrongE, h1, he]
        have he' : (chkE l[k].es != 0) = true := by simpa using he
        clear hs hn he
        generalize hzz : chkE l[k].es = y at *
        generalize l[k] = z at *
        clear hk2 hzz
        go_wp2_with fail
        refine HC.out.mono ?_; rintro e w' ⟨rfl, hb3⟩
        have HB3 := Lib.hid (below_step_ HB.out hb3)
        clear hb3
        go_wp2_with fail
        go_ret
        exact ⟨by rw [HF.out]; rfl, HB3.out⟩
    · obtain rfl : k = m := by omega
      have hF := firstE_none l (fun j hj => HZ.out j hj (by have := HL.out; omega))
      by_cases h1 : slot < 0
      · have HF : Hid (wrongE slot l = 2) := by simp [Hid, wrongE, hF, h1]
        clear hF
        go_wp2_with fail
        go_ret
        exact ⟨by rw [HF.out]; rfl, HB.out⟩
      · by_cases h2 : 4294967295 < slot
        · have HF : Hid (wrongE slot l = 2) := by simp [Hid, wrongE, hF, h2]
          clear hF
          go_wp2_with fail
          go_ret
          exact ⟨by rw [HF.out]; rfl, HB.out⟩
        · have HF : Hid (wrongE slot l = 0) := by simp [Hid, wrongE, hF]; omega
          clear hF
          go_wp2_with fail
          go_ret
          exact ⟨by rw [HF.out]; rfl, HB.out⟩

/-- of: the closure, and the variable that it keeps. -/
theorem of_any (slot : Int) (w : World) : Calls Tryz.prog 61 #[.int .i64 slot] w fun e w' => e = .returned (.func (.func 100) #[] #[.pointer (some ⟨w.heap.size, 0, none⟩)]) ∧ w' = w.alloc (.cells #[.int .i64 slot] 3) := by
  go_enter Tryz.func61, Tryz.ntmps61
  go_wp2_with fail
  go_ret
  exact ⟨rfl, rfl⟩
def ownB (slot : Int) (e : Ent) : Bool := e.kind == 1 && e.slot == slot
/-- A function that tells something of an entry, and keeps nothing. -/
def IsAt (F : Value) (p : Ent → Bool) (G : World → Prop) : Prop := ∃ f cs, F = .func (.func f) #[] cs ∧ (∀ (args : Array Value) (w : World), (callFunc f args).run Tryz.prog w = .ok (.enter f args) w) ∧ ∀ (e : Ent) (v : Value) (W : World), G W → StrAt W v e.bytes →
  Calls Tryz.prog f (#[.agg #[.int .u8 e.kind, .int .i64 e.slot, .int .i64 e.n, v]] ++ cs) W fun r w' => r = .returned (.bool (p e)) ∧ Below W.heap.size W w'
theorem of1_any (slot : Int) (b : Nat) (e : Ent) (v : Value) (W : World) (hv : StrAt W v e.bytes) (hb : W.cell? ⟨b, 0, none⟩ = some (.int .i64 slot)) :
    Calls Tryz.prog 100 #[.agg #[.int .u8 e.kind, .int .i64 e.slot, .int .i64 e.n, v], .pointer (some ⟨b, 0, none⟩)] W fun r w' => r = .returned (.bool (ownB slot e)) ∧ Below W.heap.size W w' := by
  obtain ⟨a, c, rfl⟩ := hv.form
  have hbz : Below W.heap.size W (W.alloc (.cells #[.int .u8 e.kind, .int .i64 e.slot, .int .i64 e.n, .slice a e.bytes.size c] 38)) := (Below.refl _ _).alloc (Nat.le_refl _) _
  have hbl := World.block_lt_of_cell? W _ hb
  have c1 := hbz.cell (p := ⟨b, 0, none⟩) hbl
  rw [hb] at c1
  have HB := Lib.hid hbz
  clear hv hbz hbl hb
  by_cases hk : e.kind = 1
  · by_cases hs : e.slot = slot
    · have HE : Hid (ownB slot e = true) := by simp [Hid, ownB, hk, hs]
      rw [hk] at c1 HB ⊢
      rw [hs] at c1 HB ⊢
      clear hk hs
      go_enter Tryz.func100, Tryz.ntmps100
      go_wp2_with fail
      go_ret
      exact ⟨by rw [HE.out]; rfl, HB.out⟩
    · have hs' : (e.slot == slot) = false := by simpa using hs
      have HE : Hid (ownB slot e = false) := by simp [Hid, ownB, hs]
      rw [hk] at c1 HB ⊢
      clear hk hs
      go_enter Tryz.func100, Tryz.ntmps100
      go_wp2_with fail
      go_ret
      exact ⟨by rw [HE.out]; rfl, HB.out⟩
  · have hk' : (e.kind == 1) = false := by simpa using hk
    have HE : Hid (ownB slot e = false) := by simp [Hid, ownB, hk]
    clear hk
    go_enter Tryz.func100, Tryz.ntmps100
    go_wp2_with fail
    go_ret
    exact ⟨by rw [HE.out]; rfl, HB.out⟩
theorem chosen_any (lv iv : Value) (hl : ∃ a n c, lv = .slice a n c) (hi : ∃ f cs, iv = .func (.func f) #[] cs) (w : World) :
    Calls Tryz.prog 63 #[lv, iv] w fun e w' => e = .returned (.func (.func 101) #[] #[.pointer (some ⟨w.heap.size, 0, none⟩), .pointer (some ⟨w.heap.size + 1, 0, none⟩)]) ∧ w' = (w.alloc (.cells #[lv] 27)).alloc (.cells #[iv] 117) := by
  obtain ⟨a, n, c, rfl⟩ := hl
  obtain ⟨f, cs, rfl⟩ := hi
  go_enter Tryz.func63, Tryz.ntmps63
  go_wp2_with fail
  go_ret
  exact ⟨rfl, rfl⟩
end View
end Go.Proofs.YtdfmgneicdpjmaaGreat

/- As FermRange, where what is yielded may be held against the world ahead of the round. A range over a function whose own rounds write what lay ahead of the loop: the iterator has a state of its own (St), the body another (I), and each keeps the other's. -/
namespace Go.Proofs.YtdfmgneicdpjmaaGreat
open Go.RowKit Go.Shelf
set_option linter.unusedVariables false

/-- An iterator that yields just N times; Ya k x W0 W: what holds where it yields x as its round k, W0 the world that the loop left. -/
def SeqFr {α : Type} (F : Fence) (n : Nat) (P : Program) (gf : Nat) (lb : Array Value) (encs : α → Array Value) (Sw : Nat → Prop) (St : Nat → World → Prop) (Ya : Nat → α → World → World → Prop) (N : Nat) : Prop :=
  ∀ (l : Nat) (J : Nat → World → Prop) (W : World), St 0 W → (∀ k A B, J k A → Mod Sw A B → J k B) →
    (∀ k x W0 W1, k < N → J k W0 → Mod Sw W0 W1 → Ya k x W0 W1 → YieldAt F (n - 1) P l (encs x) W1 fun e W' => e = .returned (.bool true) ∧ J (k + 1) W' ∧ St (k + 1) W') →
    J 0 W → CallsIn F n P gf (#[.func (.yield l) #[] #[]] ++ lb) W fun e W' => (∃ v, e = .returned v) ∧ J N W' ∧ St N W'

theorem wpIn_rangeFunc_st3 {F : Fence} {n : Nat} {P : Program} {α : Type} {g : Operand} {ps : Array Tmp} {assign body : Code} {Q : Exit → Act → World → Prop} {a : Act} {w : World}
    (hro : F.round = none) (h1 : 1 ≤ n) {gf : Nat} {lb : Array Value} (hg : a.eval g = .func (.func gf) #[] lb) (hFg : F.fn gf) (eg : ∀ args w, (callFunc gf args).run P w = .ok (.enter gf args) w)
    {encs : α → Array Value} (hps : ∀ x, (encs x).size = ps.size) {Sw : Nat → Prop} {St : Nat → World → Prop} {Ya : Nat → α → World → World → Prop} {N : Nat}
    (hseq : SeqFr F (n - 1) P gf lb encs Sw St Ya N) (hSw : ∀ k, Sw k → k < w.heap.size)
    (hStA : ∀ B, Below w.heap.size w B → St 0 B)
    (hStP : ∀ k A l o o', w.heap.size ≤ l → A.heap[l]? = some o → o.isCells = false → St k A → St k (A.putObj l o'))
    (I : Nat → World → Prop) (hIS : ∀ k A B, I k A → Mod Sw A B → I k B)
    (hIP : ∀ k A l o o', w.heap.size ≤ l → A.heap[l]? = some o → o.isCells = false → I k A → I k (A.putObj l o'))
    (h0 : I 0 w) (As : Nat → Act → World → Prop)
    (hAsP : ∀ k a' A l o o', w.heap.size ≤ l → A.heap[l]? = some o → o.isCells = false → As k a' A → As k a' (A.putObj l o'))
    (hassign : ∀ (l k : Nat) (x : α) (W0 W : World) (K : Act → World → Prop), k < N → w.heap.size ≤ W0.heap.size → I k W0 → Mod Sw W0 W → Ya k x W0 W → (∀ a' W', KeepsFrom w.heap.size W W' → As k a' W' → K a' W') →
      assign.wpIn (F.inRound l) (n - 1 - 1) P (Exit.then K (fun _ _ _ => False)) { tmps := (ps.zip (encs x)).foldl (fun t (p, v) => t.setIfInBounds p v) a.tmps, defers := [] } W)
    (hbody : ∀ (l k : Nat) (a' : Act) (W : World), k < N → As k a' W → body.wpIn (F.inRound l) (n - 1 - 1) P (stPost w.heap.size (fun W' => I (k + 1) W' ∧ St (k + 1) W') W) a' W)
    (hdone : ∀ (D : Nat) (W : World), w.heap.size ≤ D → I N W → St N W → W.heap[D]? = some (.deferred (some [])) → Q .normal { a with defers := { target := .collected D, args := #[] } :: a.defers } W) :
    (Code.rangeFunc g ps assign body).wpIn F n P Q a w := by
  refine wpIn_rangeFunc ?_
  intro fn hfn
  rw [hro]
  obtain ⟨rec, hrec⟩ : ∃ rec : LoopState → Option Code → Loop, rec = fun st pe => { state := st, pending := pe, fn, tmps := a.tmps, params := ps, assign, body, defers := w.heap.size } := ⟨_, rfl⟩
  generalize hX : w.heap.size = X at *
  have hm1 : Mod Sw w ((w.alloc (.deferred (some []))).alloc (.loop (rec .ready none))) := ((Mod.refl _ _).alloc _).alloc _
  have hb1 : Below X w ((w.alloc (.deferred (some []))).alloc (.loop (rec .ready none))) := ((Below.refl _ w).alloc (Nat.le_of_eq hX.symm) _).alloc (by simp; omega) _
  have hL1 : ((w.alloc (.deferred (some []))).alloc (.loop (rec .ready none))).heap[X + 1]? = some (.loop (rec .ready none)) := by
    have := World.alloc_heap_new (w.alloc (.deferred (some []))) (.loop (rec .ready none)); rwa [World.size_alloc, hX] at this
  have hK1 : ((w.alloc (.deferred (some []))).alloc (.loop (rec .ready none))).heap[X]? = some (.deferred (some [])) := by
    have := World.alloc_heap_new w (.deferred (some [])); rw [hX] at this
    exact (Below.heap_alloc _ _ _ (by simp; omega)).trans this
  have hblk : ∀ {A B : World} {q : Nat} {o : Obj}, Mod Sw A B → X ≤ q → A.heap[q]? = some o → B.heap[q]? = some o := fun hm hq ho =>
    (hm.block _ (Array.getElem?_eq_some_iff.1 ho).1 (fun hs => by have := hSw _ hs; omega)).trans ho
  have hstart := run_enterLoop_outer (P := P) (w := w) fn a.tmps ps assign body
  rw [hX] at hstart
  generalize hW1 : (w.alloc (.deferred (some []))).alloc (.loop (rec .ready none)) = W1 at *
  refine ⟨X + 1, [{ target := .collected X, args := #[] }], W1, { target := .fn (.func gf) lb, args := #[.func (.yield (X + 1)) #[] #[]] }, W1, gf, #[.func (.yield (X + 1)) #[] #[]] ++ lb, W1, ?_, ?_, ?_, ?_, fun _ => h1, ?_⟩
  · rw [hstart, ← hW1, hrec]
  · simp only [resolve, hg]
    simp [go_sem]
  · intro f' hf'; simp [Target.leads] at hf'; subst hf'; exact hFg
  · simp [invoke, go_sem, eg]
  · refine (hseq (X + 1) (fun k W => I k W ∧ W.heap[X + 1]? = some (.loop (rec .ready none)) ∧ W.heap[X]? = some (.deferred (some []))) W1 (hStA _ hb1)
      (fun k A B hJ hm => ⟨hIS k A B hJ.1 hm, hblk hm (by omega) hJ.2.1, hblk hm (Nat.le_refl _) hJ.2.2⟩) ?_ ⟨hIS 0 w W1 h0 hm1, hL1, hK1⟩).mono ?_
    · rintro k x W0 W hk ⟨hi, hl0, hd0⟩ hm0 hya
      have hl := hblk hm0 (by omega) hl0
      have hd := hblk hm0 (Nat.le_refl _) hd0
      have hy := run_yield (P := P) (args := encs x) hl (by rw [hrec]; exact hps x)
      rw [hrec] at hy
      refine ⟨fn, _, assign, body, hy, roundIn_of_wpIn hfn (hassign _ k x W0 W _ hk (by have := (Array.getElem?_eq_some_iff.1 hl0).1; omega) hi hm0 hya (fun a' W' hkf has => ?_))⟩
      have hl' := hkf.same _ _ (by omega) hl rfl
      have hd' := hkf.same _ _ (Nat.le_refl _) hd rfl
      refine ⟨_, run_beginRound hl' (by rw [hrec]), ?_⟩
      have hlt : X + 1 < W'.heap.size := (Array.getElem?_eq_some_iff.1 hl').1
      have hl2 : (W'.putObj (X + 1) (.loop { rec .ready none with state := .busy })).heap[X + 1]? = some (.loop { rec .ready none with state := .busy }) := World.putObj_heap_same hlt
      have hd2 : (W'.putObj (X + 1) (.loop { rec .ready none with state := .busy })).heap[X]? = some (.deferred (some [])) := (World.putObj_heap_other (by omega)).trans hd'
      refine wpIn_mono (hbody _ k a' _ hk (hAsP k a' W' _ _ _ (by omega) hl' rfl has)) ?_
      rintro e a3 W3 hp
      cases e with
      | normal =>
        obtain ⟨hk3, hi3, hs3⟩ := hp
        have hl3 := hk3.same _ _ (by omega) hl2 rfl
        have hd3 := hk3.same _ _ (Nat.le_refl _) hd2 rfl
        have hr := run_endRound (P := P) none hl3
        refine ⟨_, _, hr, rfl, ⟨hIP _ _ _ _ _ (by omega) hl3 rfl hi3, ?_, ?_⟩, hStP _ _ _ _ _ (by omega) hl3 rfl hs3⟩
        · rw [World.putObj_heap_same (Array.getElem?_eq_some_iff.1 hl3).1, hrec]
          rfl
        · exact (World.putObj_heap_other (by omega)).trans hd3
      | ret => exact hp.elim
      | exit id => exact hp.elim
      | goto t => exact hp.elim
      | panic ch => exact hp.elim
      | outgrown => exact hp.elim
    · rintro e W2 ⟨⟨v, rfl⟩, ⟨hi, hl, hd⟩, hs⟩
      refine ⟨none, _, by have := run_endLoop (P := P) hl (by rw [hrec]; simp); rw [hrec] at this; exact this, ?_⟩
      exact hdone _ _ (Nat.le_refl _) (hIP _ _ _ _ _ (by omega) hl rfl hi) (hStP _ _ _ _ _ (by omega) hl rfl hs) ((World.putObj_heap_other (by omega)).trans hd)
end Go.Proofs.YtdfmgneicdpjmaaGreat

/- bytes.Clone and slices.Clone of any bytes. -/
namespace Go.Proofs.YtdfmgneicdpjmaaGreat
open Go.RowKit Go.Shelf
set_option linter.unusedVariables false
set_option linter.unusedSimpArgs false
set_option maxRecDepth 100000
namespace View
open Resp

/-- Bytes in a row of their own. -/
def FreshB (W : World) (base : Nat) (v : Value) (s : ByteArray) : Prop := ∃ zs : List Int, W.ownsRow base 5 1 v zs.length (u8s zs) ∧ strOfNums zs = s
theorem FreshB.str {W : World} {base : Nat} {v : Value} {s : ByteArray} (h : FreshB W base v s) : StrAt W v s := by
  obtain ⟨zs, h, e⟩ := h
  exact ⟨zs, Reads.of_owns (zs := zs) h, e⟩
theorem FreshB.mod {S : Nat → Prop} {W W' : World} {base : Nat} {v : Value} {s : ByteArray} (h : FreshB W base v s) (hm : Mod S W W') (hS : ∀ g, v.ownBlock = some g → ¬ S g) : FreshB W' base v s := by
  obtain ⟨zs, h, e⟩ := h
  exact ⟨zs, ownsRow_mod h hm hS, e⟩
theorem FreshB.base {W : World} {base base' : Nat} {v : Value} {s : ByteArray} (h : FreshB W base v s) (hb : base' ≤ base) : FreshB W base' v s := by
  obtain ⟨zs, h, e⟩ := h
  exact ⟨zs, ownsRow_base h hb, e⟩
theorem FreshB.nil (W : World) (base : Nat) : FreshB W base (.slice none 0 0) ByteArray.empty := ⟨[], owns_nil _ _ _ _, rfl⟩

theorem CloneB_any (v : Value) (s : ByteArray) (W : World) (h : StrAt W v s) (hl : s.size ≤ 140737488351232) :
    Calls Tryz.prog 59 #[v] W fun e w' => ∃ v', e = .returned v' ∧ FreshB w' W.heap.size v' s ∧ Below W.heap.size W w' := by
  obtain ⟨zs, hr, rfl⟩ := h
  rw [strOfNums_size] at hl
  have hcase : (∃ c, v = .slice none 0 c ∧ zs = []) ∨ ∃ ad c, v = .slice (some ad) zs.length c ∧ ∀ (w' : World), Below W.heap.size W w' → ∀ (j : Nat) (u : Value), (u8s zs)[j]? = some u → w'.cell? (ad.add j) = some u := by
    by_cases h0 : 0 < zs.length
    · obtain ⟨ad, c, e, -, hnw⟩ := Reads.lies_ hr h0
      exact .inr ⟨ad, c, e, hnw⟩
    · have hz : zs = [] := List.length_eq_zero_iff.1 (by omega)
      subst hz
      obtain ⟨a, c, rfl⟩ := Reads.form_ hr
      cases a with
      | none => exact .inl ⟨c, rfl, rfl⟩
      | some ad => exact .inr ⟨ad, c, rfl, fun w' _ j u hu => by simp [u8s] at hu⟩
  clear hr
  rcases hcase with ⟨c, rfl, rfl⟩ | ⟨ad, c, rfl, hnw⟩
  · have hnil : (binOp .eql 25 (.slice none 0 c) (.slice none 0 0)).run Tryz.prog W = .ok (.bool true) W := by kernel_rfl
    go_enter Tryz.func59, Tryz.ntmps59
    go_wp2_with fail
    go_ret
    exact ⟨_, rfl, FreshB.nil _ _, Below.refl _ _⟩
  · obtain ⟨i0, hi, hz0, hz1, hz2⟩ := info_parts infoByte
    have HNW := Lib.hid hnw
    clear hnw
    generalize hn : zs.length = n at *
    have HN := Lib.hid hn
    have hlI : (n : Int) ≤ 140737488351232 := by omega
    clear hn
    have hnil : (binOp .eql 25 (.slice (some ad) n c) (.slice none 0 0)).run Tryz.prog W = .ok (.bool false) W := by kernel_rfl
    go_enter Tryz.func59, Tryz.ntmps59
    go_wp2_with (at_builtin; refine wpList_append_own _ rfl _ _ 25 rfl W.heap.size 5 i0 (.int .u8 0) 1 1 Tryz.underlying25 hi hz0 hz1 hz2 rfl (by decide) _ _ _ rfl (World.ownsRow_lit W #[] 0 (Nat.le_refl _) (by unfold maxLen; omega) rfl) ad n c (u8s zs) rfl (by rw [u8s_length, HN.out, Nat.mul_one]) (HNW.out _ ((Below.refl _ _).alloc (Nat.le_refl _) _)) (u8s_one _) (by unfold maxLen; omega) (by omega) (by simp) ?_; intro v' w5 hown' hgrow hat; obtain ⟨a', c', e⟩ := ownsRow_form hown'; subst e; have HOWN := Lib.hid hown'; have HG := Lib.hid hgrow; clear hown' hgrow hat)
    go_ret
    have hm5 : Mod (fun k => some k = (Value.slice (some ⟨W.heap.size, 0, none⟩) 0 0).ownBlock) W w5 := ((Mod.refl _ W).alloc _).trans (Mod.of_grownBy HG.out)
    refine ⟨.slice a' n c', by simp, ⟨zs, by rw [HN.out]; simpa using HOWN.out, rfl⟩, hm5.below (Nat.le_refl _) (fun k hk e => by simp [Value.ownBlock] at e; omega)⟩

theorem sCloneB_any (v : Value) (s : ByteArray) (W : World) (h : StrAt W v s) (hl : s.size ≤ 140737488351232) :
    Calls Tryz.prog 80 #[v] W fun e w' => ∃ v', e = .returned v' ∧ FreshB w' W.heap.size v' s ∧ Below W.heap.size W w' := by
  obtain ⟨zs, hr, rfl⟩ := h
  rw [strOfNums_size] at hl
  have hcase : (∃ c, v = .slice none 0 c ∧ zs = []) ∨ ∃ ad c, v = .slice (some ad) zs.length c ∧ ∀ (w' : World), Below W.heap.size W w' → ∀ (j : Nat) (u : Value), (u8s zs)[j]? = some u → w'.cell? (ad.add j) = some u := by
    by_cases h0 : 0 < zs.length
    · obtain ⟨ad, c, e, -, hnw⟩ := Reads.lies_ hr h0
      exact .inr ⟨ad, c, e, hnw⟩
    · have hz : zs = [] := List.length_eq_zero_iff.1 (by omega)
      subst hz
      obtain ⟨a, c, rfl⟩ := Reads.form_ hr
      cases a with
      | none => exact .inl ⟨c, rfl, rfl⟩
      | some ad => exact .inr ⟨ad, c, rfl, fun w' _ j u hu => by simp [u8s] at hu⟩
  clear hr
  rcases hcase with ⟨c, rfl, rfl⟩ | ⟨ad, c, rfl, hnw⟩
  · have hnil : (binOp .eql 25 (.slice none 0 c) (.slice none 0 0)).run Tryz.prog W = .ok (.bool true) W := by kernel_rfl
    go_enter Tryz.func80, Tryz.ntmps80
    go_wp2_with fail
    go_ret
    exact ⟨_, rfl, FreshB.nil _ _, Below.refl _ _⟩
  · obtain ⟨i0, hi, hz0, hz1, hz2⟩ := info_parts infoByte
    have HNW := Lib.hid hnw
    clear hnw
    generalize hn : zs.length = n at *
    have HN := Lib.hid hn
    have hlI : (n : Int) ≤ 140737488351232 := by omega
    clear hn
    have hnil : (binOp .eql 25 (.slice (some ad) n c) (.slice none 0 0)).run Tryz.prog W = .ok (.bool false) W := by kernel_rfl
    go_enter Tryz.func80, Tryz.ntmps80
    go_wp2_with (at_builtin; refine wpList_append_own _ rfl _ _ 25 rfl W.heap.size 5 i0 (.int .u8 0) 1 1 Tryz.underlying25 hi hz0 hz1 hz2 rfl (by decide) _ _ _ rfl (World.ownsRow_lit W #[] 0 (Nat.le_refl _) (by unfold maxLen; omega) rfl) ad n c (u8s zs) rfl (by rw [u8s_length, HN.out, Nat.mul_one]) (HNW.out _ ((Below.refl _ _).alloc (Nat.le_refl _) _)) (u8s_one _) (by unfold maxLen; omega) (by omega) (by simp) ?_; intro v' w5 hown' hgrow hat; obtain ⟨a', c', e⟩ := ownsRow_form hown'; subst e; have HOWN := Lib.hid hown'; have HG := Lib.hid hgrow; clear hown' hgrow hat)
    go_ret
    have hm5 : Mod (fun k => some k = (Value.slice (some ⟨W.heap.size, 0, none⟩) 0 0).ownBlock) W w5 := ((Mod.refl _ W).alloc _).trans (Mod.of_grownBy HG.out)
    refine ⟨.slice a' n c', by simp, ⟨zs, by rw [HN.out]; simpa using HOWN.out, rfl⟩, hm5.below (Nat.le_refl _) (fun k hk e => by simp [Value.ownBlock] at e; omega)⟩
end View
end Go.Proofs.YtdfmgneicdpjmaaGreat
