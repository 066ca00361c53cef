import Derived.Test.YtdfmgneicdpjmaaGreatM14
import Derived.Test.YtdfmgneicdpjmaaGreatM18
import Derived.Test.YtdfmgneicdpjmaaGreatM07
import Derived.Laws.IdiomStrings
/- What request.fields yields. -/
namespace Go.Proofs.YtdfmgneicdpjmaaGreat
open Go.RowKit Go.Shelf
attribute [local go_sem] Oper.semAt_some
set_option linter.unusedVariables false
set_option linter.unusedSimpArgs false
set_option maxRecDepth 100000
namespace Eng
open Resp App

/-- Bytes that can be read, in a block of bytes. -/
def TB (W : World) (v : Value) (zs : List Int) : Prop := Reads .u8 W v zs ∧ ∀ g, v.ownBlock = some g → ∃ cs fr, W.heap[g]? = some (.cells cs 5 fr)
theorem TB.keep {S : Nat → Prop} {W W' : World} {v : Value} {zs : List Int} (h : TB W v zs) (hm : Mod S W W') (hS : ∀ g cs fr, W.heap[g]? = some (.cells cs 5 fr) → ¬ S g) : TB W' v zs := by
  refine ⟨h.1.mod hm (fun g hg => ?_), fun g hg => ?_⟩
  · obtain ⟨cs, fr, e⟩ := h.2 g hg
    exact hS g cs fr e
  · obtain ⟨cs, fr, e⟩ := h.2 g hg
    exact ⟨cs, fr, hm.heap e (hS g cs fr e)⟩
theorem TB.mod {W W' : World} {v : Value} {zs : List Int} (h : TB W v zs) (hm : Mod (fun _ => False) W W') : TB W' v zs := h.keep hm (fun _ _ _ _ hf => hf)
theorem TB.below {W W' : World} {v : Value} {zs : List Int} (h : TB W v zs) (hb : Below W.heap.size W W') : TB W' v zs := h.mod (Mod.of_same hb)
theorem TB.of_own {W : World} {base : Nat} {v : Value} {n : Nat} {zs : List Int} (h : W.ownsRow base 5 1 v n (u8s zs)) : TB W v zs := by
  refine ⟨Reads.of_owns h, fun g hg => ?_⟩
  rcases h.2 with ⟨rfl, rfl⟩ | ⟨g', cap, cur, rfl, hb, hgg, rest⟩
  · cases hg
  · obtain rfl : g' = g := Option.some.inj hg
    exact ⟨cur, _, hgg⟩
theorem TB.nil (W : World) (c : Nat) : TB W (.slice none 0 c) [] := ⟨.inl ⟨_, _, rfl, rfl⟩, fun g hg => by cases hg⟩
theorem TB.form {W : World} {v : Value} {zs : List Int} (h : TB W v zs) : ∃ a c, v = .slice a zs.length c := reads_form h.1
/-- The bytes of a string, as numbers. -/
def bytesL (s : ByteArray) : List Int := s.data.toList.map fun b => (b.toNat : Int)
theorem bytesL_len (s : ByteArray) : (bytesL s).length = s.size := by unfold bytesL; rw [List.length_map]; rfl
theorem octets_bytesL (s : ByteArray) : Octets (bytesL s) := by
  intro z hz
  obtain ⟨b, hb, rfl⟩ := List.mem_map.1 hz
  have := b.toNat_lt
  omega
theorem strOfNums_bytesL (s : ByteArray) : strOfNums (bytesL s) = s := by
  unfold strOfNums bytesL
  have : (s.data.toList.map fun b => (b.toNat : Int)).map (fun n => UInt8.ofNat n.toNat) = s.data.toList := by
    rw [List.map_map]
    conv => rhs; rw [← List.map_id s.data.toList]
    refine List.map_congr_left (fun b hb => ?_)
    simp
  rw [this]
theorem TB.string {s : ByteArray} {W : World} {g : Nat} (h : s.size ≤ maxLen) {cap : Nat} {fr : Nat × Nat} (hh : W.heap[g]? = some (.cells (bytesRow s cap) 5 fr)) : TB W (.slice (some ⟨g, 0, none⟩) s.size cap) (bytesL s) := by
  refine ⟨.inr ⟨g, 0, cap, by rw [bytesL_len], by rw [bytesL_len]; exact h, fun i hi => ?_⟩, fun g' hg => ?_⟩
  · rw [bytesL_len] at hi
    have hi' : i < s.data.size := hi
    have h1 := bytesRow_at s cap i hi'
    simp only [World.cell?, hh, Nat.zero_add]
    rw [h1]
    congr 2
    simp [bytesL, List.getElem?_eq_getElem, hi']
    rw [Array.getElem?_eq_getElem hi']
    rfl
  · obtain rfl : g = g' := Option.some.inj hg
    exact ⟨_, _, hh⟩
/-- The bytes of the field with a tag. -/
def fval (r : Rq) (zs : List Int) (t : Int) : List Int := if t = 1 then numBytes r.what.toNat else if t = 2 then bytesL r.name else if t = 10 then numBytes (foldV r.value).toNat else if t = 11 then zs else numBytes (getN r t % 18446744073709551616).toNat
def numsC (B : Nat) : Array Value := #[.pointer none, .pointer none, .pointer none, .pointer (some ⟨B, 3, none⟩), .pointer (some ⟨B, 4, none⟩), .pointer (some ⟨B, 5, none⟩), .pointer (some ⟨B, 6, none⟩), .pointer (some ⟨B, 7, none⟩), .pointer (some ⟨B, 8, none⟩), .pointer (some ⟨B, 9, none⟩), .pointer none, .pointer none]
/-- A request of which all is in order for Go's types. -/
structure RqOk (r : Rq) : Prop where
  what0 : 0 ≤ r.what
  what1 : r.what ≤ 255
  value0 : -9223372036854775808 ≤ r.value
  value1 : r.value < 9223372036854775808
/-- What the iterator holds: the tags, the request, where its numbers are. -/
def FdSt (bl br ba : Nat) (lv : Value) (ts : List Int) (r : Rq) (fv : Value) (zs : List Int) (W : World) : Prop :=
  W.heap[bl]? = some (.cells #[lv] 30) ∧ RqAt W br r fv ∧ W.heap[ba]? = some (.cells (numsC br) 307) ∧ Reads .i64 W lv ts ∧ TB W fv zs
theorem FdSt.mod {bl br ba : Nat} {lv : Value} {ts : List Int} {r : Rq} {fv : Value} {zs : List Int} {W W' : World} (h : FdSt bl br ba lv ts r fv zs W) (hm : Mod (fun _ => False) W W') : FdSt bl br ba lv ts r fv zs W' :=
  ⟨hm.heap h.1 (by simp), hm.heap h.2.1 (by simp), hm.heap h.2.2.1 (by simp), h.2.2.2.1.mod hm (by simp), h.2.2.2.2.mod hm⟩
theorem FdSt.below {bl br ba : Nat} {lv : Value} {ts : List Int} {r : Rq} {fv : Value} {zs : List Int} {W W' : World} (h : FdSt bl br ba lv ts r fv zs W) (hb : Below W.heap.size W W') : FdSt bl br ba lv ts r fv zs W' := h.mod (Mod.of_same hb)
theorem fields_any (r : Rq) (fv : Value) (zs : List Int) (lv : Value) (ts : List Int) (W : World) (hl : Reads .i64 W lv ts) (hf : TB W fv zs) :
    Calls Tryz.prog 154 #[.agg (rqC r fv), lv] W fun e w' => ∃ bl br ba, e = .returned (.func (.func 200) #[] #[.pointer (some ⟨bl, 0, none⟩), .pointer (some ⟨br, 0, none⟩), .pointer (some ⟨ba, 0, none⟩)]) ∧ FdSt bl br ba lv ts r fv zs w' ∧ (W.heap.size ≤ bl ∧ W.heap.size ≤ br ∧ W.heap.size ≤ ba) ∧ Below W.heap.size W w' := by
  have HL := Lib.hid hl
  have HF := Lib.hid hf
  obtain ⟨a, c, rfl⟩ := Reads.form_ hl
  obtain ⟨a2, c2, rfl⟩ := hf.form
  clear hl hf
  unfold rqC
  go_enter Tryz.func154, Tryz.ntmps154
  go_wp2_with fail
  refine (numbers_any _ _).mono ?_; rintro e w1 ⟨rfl, hb⟩
  have hs1 : (W.alloc (.cells (rqC r (.slice a2 zs.length c2)) 165)).heap.size = W.heap.size + 1 := by show (W.heap.push _).size = _; rw [Array.size_push]
  have HRQ : Hid (RqAt w1 W.heap.size r (.slice a2 zs.length c2)) := (Mod.of_same (S := fun _ => False) hb).heap (((Mod.refl (fun _ => False) _).alloc _).heap (World.alloc_heap_new W _) (by simp)) (by simp)
  have HLV : Hid (w1.heap[W.heap.size + 1]? = some (.cells #[.slice a ts.length c] 30)) := by
    have := (Mod.of_same (S := fun _ => False) hb).heap (World.alloc_heap_new _ _) (by simp)
    unfold rqC at hs1
    rw [hs1] at this
    exact this
  have HB : Hid (Below W.heap.size W w1) := by
    refine Below.trans (((Below.refl _ _).alloc (Nat.le_refl _) _).alloc (by show _ ≤ (W.heap.push _).size; rw [Array.size_push]; omega) _) (hb.mono ?_)
    exact (((Mod.refl (fun _ => False) W).alloc _).alloc _).size
  have hh := World.alloc_heap_new w1 (.cells (numsC W.heap.size) 307)
  have HH := Lib.hid hh
  clear hb hs1 hh
  unfold numsV
  unfold numsC at HH
  go_wp2_with fail
  all_goals go_ret
  all_goals
    have hm := (Mod.refl (fun _ => False) w1).alloc (.cells (numsC W.heap.size) 307)
    have hbb := HB.out.trans (((Below.refl _ _).alloc (Nat.le_refl w1.heap.size) (.cells (numsC W.heap.size) 307)).mono HB.out.size)
    exact ⟨_, _, _, rfl, ⟨hm.heap HLV.out (fun h => h), hm.heap HRQ.out (fun h => h), HH.out, HL.out.mod (Mod.of_same hbb) (fun _ _ h => h), HF.out.below hbb⟩, ⟨by omega, by omega, HB.out.size⟩, hbb⟩
end Eng
end Go.Proofs.YtdfmgneicdpjmaaGreat

/- As FermFresh, where a round may leave the loop: by a return, by an exit, by a jump to a label. -/
namespace Go.Proofs.YtdfmgneicdpjmaaGreat
open Go.RowKit Go.Shelf
set_option linter.unusedVariables false

/-- An iterator that yields N times, or stops when it is told so. -/
def SeqFx {α : Type} (F : Fence) (n : Nat) (P : Program) (gf : Nat) (lb : Array Value) (encs : α → Array Value) (Sw : Nat → Prop) (St : Nat → World → Prop) (Ya : Nat → α → World → World → Prop) (N : Nat) : Prop :=
  ∀ (l : Nat) (J : Nat → World → Prop) (Jx : World → Prop) (W : World), St 0 W → (∀ k A B, J k A → Mod Sw A B → J k B) → (∀ A B, Jx A → Mod Sw A B → Jx B) →
    (∀ k x W0 W1, k < N → J k W0 → Mod Sw W0 W1 → Ya k x W0 W1 → YieldAt F (n - 1) P l (encs x) W1 fun e W' => (e = .returned (.bool true) ∧ J (k + 1) W' ∧ St (k + 1) W') ∨ (e = .returned (.bool false) ∧ Jx W')) →
    J 0 W → CallsIn F n P gf (#[.func (.yield l) #[] #[]] ++ lb) W fun e W' => (∃ v, e = .returned v) ∧ ((J N W' ∧ St N W') ∨ Jx W')
theorem SeqFx.fr {α : Type} {F : Fence} {n : Nat} {P : Program} {gf : Nat} {lb : Array Value} {encs : α → Array Value} {Sw : Nat → Prop} {St : Nat → World → Prop} {Ya : Nat → α → World → World → Prop} {N : Nat} (h : SeqFx F n P gf lb encs Sw St Ya N) : SeqFr F n P gf lb encs Sw St Ya N := by
  intro l J W hS hJ hY h0
  refine (h l J (fun _ => False) W hS hJ (fun _ _ h _ => h) (fun k x W0 W1 hk hj hm hya => ?_) h0).mono ?_
  · obtain ⟨fn, tmps, assign, body, hy, hR⟩ := hY k x W0 W1 hk hj hm hya
    exact ⟨fn, tmps, assign, body, hy, hR.mono (fun e W' h => .inl h)⟩
  · rintro e W' ⟨h1, h2 | h2⟩
    · exact ⟨h1, h2⟩
    · exact h2.elim

/-- How a round ends: it goes on, or leaves the loop. -/
def stPostX (B : Nat) (R : World → Prop) (Rx : Code → World → Prop) (W : World) : Exit → Act → World → Prop
  | .normal, _, W' => KeepsFrom B W W' ∧ R W'
  | .ret, _, W' => KeepsFrom B W W' ∧ Rx .ret W'
  | .exit id, _, W' => KeepsFrom B W W' ∧ Rx (.exit id) W'
  | .goto t, _, W' => KeepsFrom B W W' ∧ Rx (.goto t) W'
  | .panic _, _, _ => False
  | .outgrown, _, _ => False

theorem wpIn_rangeFunc_stx {F : Fence} {n : Nat} {P : Program} {α : Type} {g : Operand} {ps : Array Tmp} {assign body : Code} {Q : Exit → Act → World → Prop} {a : Act} {w : World}
    (hro : F.round = none) (h1 : 1 ≤ n) {gf : Nat} {lb : Array Value} (hg : a.eval g = .func (.func gf) #[] lb) (hFg : F.fn gf) (eg : ∀ args w, (callFunc gf args).run P w = .ok (.enter gf args) w)
    {encs : α → Array Value} (hps : ∀ x, (encs x).size = ps.size) {Sw : Nat → Prop} {St : Nat → World → Prop} {Ya : Nat → α → World → World → Prop} {N : Nat}
    (hseq : SeqFx F (n - 1) P gf lb encs Sw St Ya N) (hSw : ∀ k, Sw k → k < w.heap.size)
    (hStA : ∀ B, Below w.heap.size w B → St 0 B)
    (hStP : ∀ k A l o o', w.heap.size ≤ l → A.heap[l]? = some o → o.isCells = false → St k A → St k (A.putObj l o'))
    (I : Nat → World → Prop) (hIS : ∀ k A B, I k A → Mod Sw A B → I k B)
    (hIP : ∀ k A l o o', w.heap.size ≤ l → A.heap[l]? = some o → o.isCells = false → I k A → I k (A.putObj l o'))
    (Ix : Code → World → Prop) (hXS : ∀ c A B, Ix c A → Mod Sw A B → Ix c B)
    (hXP : ∀ c A l o o', w.heap.size ≤ l → A.heap[l]? = some o → o.isCells = false → Ix c A → Ix c (A.putObj l o'))
    (h0 : I 0 w) (As : Nat → Act → World → Prop)
    (hAsP : ∀ k a' A l o o', w.heap.size ≤ l → A.heap[l]? = some o → o.isCells = false → As k a' A → As k a' (A.putObj l o'))
    (hassign : ∀ (l k : Nat) (x : α) (W0 W : World) (K : Act → World → Prop), k < N → w.heap.size ≤ W0.heap.size → I k W0 → Mod Sw W0 W → Ya k x W0 W → (∀ a' W', KeepsFrom w.heap.size W W' → As k a' W' → K a' W') →
      assign.wpIn (F.inRound l) (n - 1 - 1) P (Exit.then K (fun _ _ _ => False)) { tmps := (ps.zip (encs x)).foldl (fun t (p, v) => t.setIfInBounds p v) a.tmps, defers := [] } W)
    (hbody : ∀ (l k : Nat) (a' : Act) (W : World), k < N → As k a' W → body.wpIn (F.inRound l) (n - 1 - 1) P (stPostX w.heap.size (fun W' => I (k + 1) W' ∧ St (k + 1) W') Ix W) a' W)
    (hdone : ∀ (D : Nat) (W : World), w.heap.size ≤ D → I N W → St N W → W.heap[D]? = some (.deferred (some [])) → Q .normal { a with defers := { target := .collected D, args := #[] } :: a.defers } W)
    (hstop : ∀ (D : Nat) (c : Code) (W : World), w.heap.size ≤ D → Ix c W → W.heap[D]? = some (.deferred (some [])) → c.wpIn F n P Q { a with defers := { target := .collected D, args := #[] } :: a.defers } W) :
    (Code.rangeFunc g ps assign body).wpIn F n P Q a w := by
  refine wpIn_rangeFunc ?_
  intro fn hfn
  rw [hro]
  obtain ⟨rec, hrec⟩ : ∃ rec : LoopState → Option Code → Loop, rec = fun st pe => { state := st, pending := pe, fn, tmps := a.tmps, params := ps, assign, body, defers := w.heap.size } := ⟨_, rfl⟩
  generalize hX : w.heap.size = X at *
  have hm1 : Mod Sw w ((w.alloc (.deferred (some []))).alloc (.loop (rec .ready none))) := ((Mod.refl _ _).alloc _).alloc _
  have hb1 : Below X w ((w.alloc (.deferred (some []))).alloc (.loop (rec .ready none))) := ((Below.refl _ w).alloc (Nat.le_of_eq hX.symm) _).alloc (by simp; omega) _
  have hL1 : ((w.alloc (.deferred (some []))).alloc (.loop (rec .ready none))).heap[X + 1]? = some (.loop (rec .ready none)) := by
    have := World.alloc_heap_new (w.alloc (.deferred (some []))) (.loop (rec .ready none)); rwa [World.size_alloc, hX] at this
  have hK1 : ((w.alloc (.deferred (some []))).alloc (.loop (rec .ready none))).heap[X]? = some (.deferred (some [])) := by
    have := World.alloc_heap_new w (.deferred (some [])); rw [hX] at this
    exact (Below.heap_alloc _ _ _ (by simp; omega)).trans this
  have hblk : ∀ {A B : World} {q : Nat} {o : Obj}, Mod Sw A B → X ≤ q → A.heap[q]? = some o → B.heap[q]? = some o := fun hm hq ho =>
    (hm.block _ (Array.getElem?_eq_some_iff.1 ho).1 (fun hs => by have := hSw _ hs; omega)).trans ho
  have hstart := run_enterLoop_outer (P := P) (w := w) fn a.tmps ps assign body
  rw [hX] at hstart
  generalize hW1 : (w.alloc (.deferred (some []))).alloc (.loop (rec .ready none)) = W1 at *
  refine ⟨X + 1, [{ target := .collected X, args := #[] }], W1, { target := .fn (.func gf) lb, args := #[.func (.yield (X + 1)) #[] #[]] }, W1, gf, #[.func (.yield (X + 1)) #[] #[]] ++ lb, W1, ?_, ?_, ?_, ?_, fun _ => h1, ?_⟩
  · rw [hstart, ← hW1, hrec]
  · simp only [resolve, hg]
    simp [go_sem]
  · intro f' hf'; simp [Target.leads] at hf'; subst hf'; exact hFg
  · simp [invoke, go_sem, eg]
  · refine (hseq (X + 1) (fun k W => I k W ∧ W.heap[X + 1]? = some (.loop (rec .ready none)) ∧ W.heap[X]? = some (.deferred (some []))) (fun W => ∃ c, Ix c W ∧ W.heap[X + 1]? = some (.loop (rec .done (some c))) ∧ W.heap[X]? = some (.deferred (some []))) W1 (hStA _ hb1)
      (fun k A B hJ hm => ⟨hIS k A B hJ.1 hm, hblk hm (by omega) hJ.2.1, hblk hm (Nat.le_refl _) hJ.2.2⟩) (fun A B ⟨c, h1, h2, h3⟩ hm => ⟨c, hXS c A B h1 hm, hblk hm (by omega) h2, hblk hm (Nat.le_refl _) h3⟩) ?_ ⟨hIS 0 w W1 h0 hm1, hL1, hK1⟩).mono ?_
    · rintro k x W0 W hk ⟨hi, hl0, hd0⟩ hm0 hya
      have hl := hblk hm0 (by omega) hl0
      have hd := hblk hm0 (Nat.le_refl _) hd0
      have hy := run_yield (P := P) (args := encs x) hl (by rw [hrec]; exact hps x)
      rw [hrec] at hy
      refine ⟨fn, _, assign, body, hy, roundIn_of_wpIn hfn (hassign _ k x W0 W _ hk (by have := (Array.getElem?_eq_some_iff.1 hl0).1; omega) hi hm0 hya (fun a' W' hkf has => ?_))⟩
      have hl' := hkf.same _ _ (by omega) hl rfl
      have hd' := hkf.same _ _ (Nat.le_refl _) hd rfl
      refine ⟨_, run_beginRound hl' (by rw [hrec]), ?_⟩
      have hlt : X + 1 < W'.heap.size := (Array.getElem?_eq_some_iff.1 hl').1
      have hl2 : (W'.putObj (X + 1) (.loop { rec .ready none with state := .busy })).heap[X + 1]? = some (.loop { rec .ready none with state := .busy }) := World.putObj_heap_same hlt
      have hd2 : (W'.putObj (X + 1) (.loop { rec .ready none with state := .busy })).heap[X]? = some (.deferred (some [])) := (World.putObj_heap_other (by omega)).trans hd'
      refine wpIn_mono (hbody _ k a' _ hk (hAsP k a' W' _ _ _ (by omega) hl' rfl has)) ?_
      rintro e a3 W3 hp
      cases e with
      | normal =>
        obtain ⟨hk3, hi3, hs3⟩ := hp
        have hl3 := hk3.same _ _ (by omega) hl2 rfl
        have hd3 := hk3.same _ _ (Nat.le_refl _) hd2 rfl
        have hr := run_endRound (P := P) none hl3
        refine ⟨_, _, hr, .inl ⟨rfl, ⟨hIP _ _ _ _ _ (by omega) hl3 rfl hi3, ?_, ?_⟩, hStP _ _ _ _ _ (by omega) hl3 rfl hs3⟩⟩
        · rw [World.putObj_heap_same (Array.getElem?_eq_some_iff.1 hl3).1, hrec]
          rfl
        · exact (World.putObj_heap_other (by omega)).trans hd3
      | ret =>
        obtain ⟨hk3, hi3⟩ := hp
        have hl3 := hk3.same _ _ (by omega) hl2 rfl
        have hd3 := hk3.same _ _ (Nat.le_refl _) hd2 rfl
        have hr := run_endRound (P := P) (some .ret) hl3
        refine ⟨_, _, hr, .inr ⟨rfl, .ret, hXP _ _ _ _ _ (by omega) hl3 rfl hi3, ?_, ?_⟩⟩
        · rw [World.putObj_heap_same (Array.getElem?_eq_some_iff.1 hl3).1, hrec]
          rfl
        · exact (World.putObj_heap_other (by omega)).trans hd3
      | exit id =>
        obtain ⟨hk3, hi3⟩ := hp
        have hl3 := hk3.same _ _ (by omega) hl2 rfl
        have hd3 := hk3.same _ _ (Nat.le_refl _) hd2 rfl
        have hr := run_endRound (P := P) (some (.exit id)) hl3
        refine ⟨_, _, hr, .inr ⟨rfl, (.exit id), hXP _ _ _ _ _ (by omega) hl3 rfl hi3, ?_, ?_⟩⟩
        · rw [World.putObj_heap_same (Array.getElem?_eq_some_iff.1 hl3).1, hrec]
          rfl
        · exact (World.putObj_heap_other (by omega)).trans hd3
      | goto t =>
        obtain ⟨hk3, hi3⟩ := hp
        have hl3 := hk3.same _ _ (by omega) hl2 rfl
        have hd3 := hk3.same _ _ (Nat.le_refl _) hd2 rfl
        have hr := run_endRound (P := P) (some (.goto t)) hl3
        refine ⟨_, _, hr, .inr ⟨rfl, (.goto t), hXP _ _ _ _ _ (by omega) hl3 rfl hi3, ?_, ?_⟩⟩
        · rw [World.putObj_heap_same (Array.getElem?_eq_some_iff.1 hl3).1, hrec]
          rfl
        · exact (World.putObj_heap_other (by omega)).trans hd3
      | panic ch => exact hp.elim
      | outgrown => exact hp.elim
    · rintro e W2 ⟨⟨v, rfl⟩, (⟨⟨hi, hl, hd⟩, hs⟩ | ⟨c, hi, hl, hd⟩)⟩
      · refine ⟨none, _, by have := run_endLoop (P := P) hl (by rw [hrec]; simp); rw [hrec] at this; exact this, ?_⟩
        exact hdone _ _ (Nat.le_refl _) (hIP _ _ _ _ _ (by omega) hl rfl hi) (hStP _ _ _ _ _ (by omega) hl rfl hs) ((World.putObj_heap_other (by omega)).trans hd)
      · refine ⟨some c, _, by have := run_endLoop (P := P) hl (by rw [hrec]; simp); rw [hrec] at this; exact this, ?_⟩
        exact hstop _ c _ (Nat.le_refl _) (hXP _ _ _ _ _ (by omega) hl rfl hi) ((World.putObj_heap_other (by omega)).trans hd)
end Go.Proofs.YtdfmgneicdpjmaaGreat

/- The iterator of request.fields. -/
namespace Go.Proofs.YtdfmgneicdpjmaaGreat
open Go.RowKit Go.Shelf
attribute [local go_sem] Oper.semAt_some
set_option linter.unusedVariables false
set_option linter.unusedSimpArgs false
set_option maxRecDepth 100000
namespace Eng
open Resp App View

/-- Which tags a request can have. -/
def TagOk (ts : List Int) : Prop := ∀ t ∈ ts, t = 1 ∨ t = 2 ∨ t = 10 ∨ t = 11 ∨ ∃ k : Nat, t = (k : Int) ∧ 3 ≤ k ∧ k ≤ 9
/-- What is yielded: the field, as it is read then. -/
def FdYa (bl br ba : Nat) (lv : Value) (ts : List Int) (r : Rq) (fv : Value) (zs : List Int) (k : Nat) (x : Value) (W0 W : World) : Prop :=
  ∃ t v, ts[k]? = some t ∧ x = .agg #[.int .i64 t, v] ∧ TB W v (fval r zs t) ∧ FdSt bl br ba lv ts r fv zs W
theorem numsC_at (B k : Nat) (h3 : 3 ≤ k) (h9 : k ≤ 9) {W : World} {ba : Nat} (h : W.heap[ba]? = some (.cells (numsC B) 307)) : W.cell? ⟨ba, k, none⟩ = some (.pointer (some ⟨B, k, none⟩)) := by
  have hk : k = 3 ∨ k = 4 ∨ k = 5 ∨ k = 6 ∨ k = 7 ∨ k = 8 ∨ k = 9 := by omega
  rcases hk with rfl | rfl | rfl | rfl | rfl | rfl | rfl <;> simp [World.cell?, h, numsC]
theorem reads_at {W : World} {a : Option Addr} {n c : Nat} {ts : List Int} (h : Reads .i64 W (.slice a n c) ts) {k : Nat} (hk : k < ts.length) : n = ts.length ∧ ∃ b o, a = some ⟨b, o, none⟩ ∧ W.cell? ⟨b, o + k, none⟩ = some (.int .i64 ts[k]) ∧ n ≤ maxLen := by
  rcases h with ⟨a', c', e, rfl⟩ | ⟨b, o, c', e, hl, hc⟩
  · simp at hk
  · injection e with e1 e2 e3
    subst e1 e2
    refine ⟨rfl, b, o, rfl, ?_, hl⟩
    rw [hc k hk, List.getElem?_eq_getElem hk]
    rfl
theorem alloc_size_ (w : World) (o : Obj) : (w.alloc o).heap.size = w.heap.size + 1 := by show (w.heap.push _).size = _; rw [Array.size_push]
theorem fld_all {w : World} {g : Nat} {x y : Value} (h : w.heap[g]? = some (.cells #[x, y] 141)) : w.cell? ⟨g, 0, none⟩ = some x ∧ w.cell? ⟨g, 1, none⟩ = some y ∧ w.frozen? ⟨g, 0, none⟩ = false ∧ w.frozen? ⟨g, 1, none⟩ = false := by
  refine ⟨?_, ?_, ?_, ?_⟩ <;> first | simp [World.cell?, h] | simp [World.frozen?, h]
set_option maxHeartbeats 4000000 in
theorem fields1_fx (m : Nat) (hm : 1 ≤ m) (bl br ba : Nat) (ts : List Int) (a : Option Addr) (c : Nat) (r : Rq) (fv : Value) (zs : List Int) (hr : RqOk r) (hn : r.name.size ≤ 1000) (ht : TagOk ts) (hln : ts.length ≤ 1000) :
    SeqFx Fence.wide m Tryz.prog 200 #[.pointer (some ⟨bl, 0, none⟩), .pointer (some ⟨br, 0, none⟩), .pointer (some ⟨ba, 0, none⟩)] (fun x : Value => #[x]) (fun _ => False) (fun _ => FdSt bl br ba (.slice a ts.length c) ts r fv zs) (FdYa bl br ba (.slice a ts.length c) ts r fv zs) ts.length := by
  intro l J Jx W hS hJ hJx hY h0
  obtain ⟨fa, fc, rfl⟩ := hS.2.2.2.2.form
  have HS := Lib.hid hS
  have HJ := Lib.hid hJ
  have HJX := Lib.hid hJx
  have HY := Lib.hid hY
  have H0 := Lib.hid h0
  have HT := Lib.hid ht
  have HR := Lib.hid hr
  have HN := Lib.hid hn
  generalize hnn : ts.length = n at *
  have HNN := Lib.hid hnn
  have hnI : (n : Int) ≤ 1000 := by omega
  have k1 := cell_of_heap_ hS.1
  clear hJ hJx hY h0 ht hr hn hnn hS
  refine callsIn_of_wp Tryz.func200 rfl trivial ?_ rfl
  simp only [Tryz.ntmps200, List.size_toArray, List.length_cons, List.length_nil, Nat.reduceAdd, Nat.reduceSub, Array.replicate_succ, Array.replicate_zero, List.push_toArray, List.append_toArray, List.nil_append, List.cons_append]
  refine wpIn_wide.2 ?_
  go_wp2_with fail
  clear k1
  go_loopw [10] (fun i wr => ∃ k : Nat, k ≤ n ∧ i = .int .i64 k ∧ Hid (J k wr) ∧ Hid (FdSt bl br ba (.slice a n c) ts r (.slice fa zs.length fc) zs wr)) (fun i _ => n - (intOf i).toNat)
  case atStart => exact ⟨0, Nat.zero_le _, rfl, H0, HS⟩
  case round =>
    clear HS H0
    obtain ⟨k, hk, rfl, HJK, HST⟩ := hrel
    by_cases hlt : k < n
    · have hltI : (k : Int) < n := by omega
      have hk2 : k < ts.length := by have := HNN.out; omega
      obtain ⟨-, b, o, rfl, hc0, -⟩ := reads_at HST.out.2.2.2.1 hk2
      have htk := HT.out _ (List.getElem_mem hk2)
      have HTK : Hid (ts[k]? = some ts[k]) := List.getElem?_eq_getElem hk2
      generalize ts[k] = t at *
      have HM1 : Hid (Mod (fun _ => False) wr (wr.alloc (.cells #[.int .i64 t, .slice none 0 0] 141))) := (Mod.refl _ _).alloc _
      have HP := Lib.hid (World.alloc_heap_new wr (.cells #[.int .i64 t, .slice none 0 0] 141))
      have HST1 := Lib.hid (HST.out.mod HM1.out)
      clear hk2
      rcases htk with rfl | rfl | rfl | rfl | ⟨q, rfl, hq3, hq9⟩
      · obtain ⟨-, c1, -⟩ := HST1.out.2.1.cells
        obtain ⟨N, hN⟩ : ∃ N : Nat, r.what.toNat = N := ⟨_, rfl⟩
        have hwr : IntKind.u64.wrap r.what = (N : Int) := by have h1 := HR.out.what0; have h2 := HR.out.what1; rw [IntKind.wrap_u64]; omega
        have hwb : N < 18446744073709551616 := by have h1 := HR.out.what0; have h2 := HR.out.what1; omega
        have HFV : Hid (fval r zs 1 = numBytes N) := by unfold Hid fval; rw [if_pos rfl, hN]
        clear hN
        go_wp2_with fail
        refine (Number_any 1 _ hwb _).mono ?_; rintro e W2 ⟨v', rfl, ho, hb⟩
        obtain ⟨va, vc, rfl⟩ := ownsRow_form ho
        have HP2 := Lib.hid ((Mod.of_same (S := fun _ => False) hb).heap HP.out (fun h => h))
        have HM2 : Hid (Mod (fun _ => False) wr W2) := HM1.out.trans (Mod.of_same hb)
        have HTB := Lib.hid (TB.of_own ho)
        obtain ⟨p0, p1, f0, f1⟩ := fld_all HP2.out
        clear ho hb
        go_upto_region 14 with fail
        have HM4 : Hid (Mod (fun _ => False) wr ((W2.setCell ⟨wr.heap.size, 0, none⟩ (.int .i64 1)).setCell ⟨wr.heap.size, 1, none⟩ (.slice va (sizeN N) vc))) := (HM2.out.setCell (p := ⟨wr.heap.size, 0, none⟩) (.inl (Nat.le_refl _)) _).setCell (p := ⟨wr.heap.size, 1, none⟩) (.inl (Nat.le_refl _)) _
        have HT4 : Hid (TB ((W2.setCell ⟨wr.heap.size, 0, none⟩ (.int .i64 1)).setCell ⟨wr.heap.size, 1, none⟩ (.slice va (sizeN N) vc)) (.slice va (sizeN N) vc) (fval r zs 1)) := by
          rw [HFV.out]
          refine HTB.out.keep (S := fun g => g = wr.heap.size) (((Mod.refl (fun g => g = wr.heap.size) _).setCell (p := ⟨wr.heap.size, 0, none⟩) (.inr rfl) _).setCell (p := ⟨wr.heap.size, 1, none⟩) (.inr rfl) _) (fun g cs fr hg e => ?_)
          subst e
          rw [HP2.out] at hg
          have := Option.some.inj hg
          injection this with _ h2
          exact absurd h2 (by decide)
        have HS4 := Lib.hid (HST.out.mod HM4.out)
        have HP4 : Hid (((W2.setCell ⟨wr.heap.size, 0, none⟩ (.int .i64 1)).setCell ⟨wr.heap.size, 1, none⟩ (.slice va (sizeN N) vc)).heap[wr.heap.size]? = some (.cells #[.int .i64 1, .slice va (sizeN N) vc] 141)) := by
          have := heap_set_ (heap_set_ HP2.out 0 (.int .i64 1)) 1 (.slice va (sizeN N) vc)
          rw [Hid]; simpa using this
        clear HTB HP2 p0 p1 f0 f1 HM2
        generalize (W2.setCell ⟨wr.heap.size, 0, none⟩ (.int .i64 1)).setCell ⟨wr.heap.size, 1, none⟩ (.slice va (sizeN N) vc) = W4 at *
        obtain ⟨p0, p1⟩ := fld_cells HP4.out
        obtain ⟨fn, tmps, assign, body, hy, hR⟩ := HY.out k _ wr _ hlt HJK.out HM4.out ⟨_, _, HTK.out, rfl, HT4.out, HS4.out⟩
        refine (wpIn_wide (n := m)).1 ?_
        gi_wp2
        refine hR.mono ?_
        rintro e W5 (⟨rfl, hJ5, hS5⟩ | ⟨rfl, hX5⟩)
        · gi_wp2
          have HS5 := Lib.hid hS5
          have HJ5 := Lib.hid hJ5
          clear hS5 hJ5 hR hy p0 p1
          go_wp2_with fail
          exact ⟨⟨k + 1, by omega, by simp, HJ5.out, HS5.out⟩, by simp [intOf]; omega⟩
        · gi_wp2
          have HX5 := Lib.hid hX5
          clear hX5 hR hy p0 p1
          go_wp2_with fail
          exact bodyPost_ret (results_none rfl _ _ _) rfl ⟨⟨_, rfl⟩, .inr HX5.out⟩
      · have hcb := fun w => run_bytes_of_string (P := Tryz.prog) w 9 25 5 r.name rfl rfl rfl
        obtain ⟨-, -, c2, -⟩ := HST1.out.2.1.cells
        obtain ⟨p0, p1, f0, f1⟩ := fld_all HP.out
        have HFV : Hid (fval r zs 2 = bytesL r.name) := by unfold Hid fval; rw [if_neg (by decide), if_pos rfl]
        have HSZ : Hid ((wr.alloc (.cells #[.int .i64 2, .slice none 0 0] 141)).heap.size = wr.heap.size + 1) := by show (wr.heap.push _).size = _; rw [Array.size_push]
        go_upto_region 14 with fail
        clear hcb
        generalize grownCap (wr.alloc (.cells #[.int .i64 2, .slice none 0 0] 141)) r.name.size 0 5 = cap at *
        generalize (bytesRow r.name cap).size = sz at *
        have HM4 : Hid (Mod (fun _ => False) wr ((wr.alloc (.cells #[.int .i64 2, .slice (some ⟨wr.heap.size + 1, 0, none⟩) r.name.size cap] 141)).alloc (.cells (bytesRow r.name cap) 5 (sz, sz + 1)))) := ((Mod.refl _ _).alloc _).alloc _
        have HT4 : Hid (TB ((wr.alloc (.cells #[.int .i64 2, .slice (some ⟨wr.heap.size + 1, 0, none⟩) r.name.size cap] 141)).alloc (.cells (bytesRow r.name cap) 5 (sz, sz + 1))) (.slice (some ⟨wr.heap.size + 1, 0, none⟩) r.name.size cap) (fval r zs 2)) := by
          rw [HFV.out]
          refine TB.string (by have := HN.out; unfold maxLen; omega) (fr := (sz, sz + 1)) ?_
          have := World.alloc_heap_new (wr.alloc (.cells #[.int .i64 2, .slice (some ⟨wr.heap.size + 1, 0, none⟩) r.name.size cap] 141)) (.cells (bytesRow r.name cap) 5 (sz, sz + 1))
          rw [alloc_size_] at this
          exact this
        have HS4 := Lib.hid (HST.out.mod HM4.out)
        have HP4 : Hid (((wr.alloc (.cells #[.int .i64 2, .slice (some ⟨wr.heap.size + 1, 0, none⟩) r.name.size cap] 141)).alloc (.cells (bytesRow r.name cap) 5 (sz, sz + 1))).heap[wr.heap.size]? = some (.cells #[.int .i64 2, .slice (some ⟨wr.heap.size + 1, 0, none⟩) r.name.size cap] 141)) := ((Mod.refl (fun _ => False) _).alloc _).heap (World.alloc_heap_new wr _) (fun h => h)
        clear p0 p1 f0 f1
        generalize (wr.alloc (.cells #[.int .i64 2, .slice (some ⟨wr.heap.size + 1, 0, none⟩) r.name.size cap] 141)).alloc (.cells (bytesRow r.name cap) 5 (sz, sz + 1)) = W3 at *
        have hmd : Mod (fun _ => False) W3 W3.drew := Mod.of_same (below_drew_ (Below.refl _ _))
        replace HM4 := Lib.hid (HM4.out.trans hmd)
        replace HT4 := Lib.hid (HT4.out.mod hmd)
        replace HS4 := Lib.hid (HS4.out.mod hmd)
        replace HP4 := Lib.hid (hmd.heap HP4.out (fun h => h))
        clear hmd
        generalize W3.drew = W4 at *
        obtain ⟨p0, p1⟩ := fld_cells HP4.out
        obtain ⟨fn, tmps, assign, body, hy, hR⟩ := HY.out k _ wr _ hlt HJK.out HM4.out ⟨_, _, HTK.out, rfl, HT4.out, HS4.out⟩
        refine (wpIn_wide (n := m)).1 ?_
        gi_wp2
        refine hR.mono ?_
        rintro e W5 (⟨rfl, hJ5, hS5⟩ | ⟨rfl, hX5⟩)
        · gi_wp2
          have HS5 := Lib.hid hS5
          have HJ5 := Lib.hid hJ5
          clear hS5 hJ5 hR hy p0 p1
          go_wp2_with fail
          exact ⟨⟨k + 1, by omega, by simp, HJ5.out, HS5.out⟩, by simp [intOf]; omega⟩
        · gi_wp2
          have HX5 := Lib.hid hX5
          clear hX5 hR hy p0 p1
          go_wp2_with fail
          exact bodyPost_ret (results_none rfl _ _ _) rfl ⟨⟨_, rfl⟩, .inr HX5.out⟩
      · obtain ⟨-, -, -, -, -, -, -, -, -, -, c10, -⟩ := HST1.out.2.1.cells
        obtain ⟨N, hN⟩ : ∃ N : Nat, (foldV r.value).toNat = N := ⟨_, rfl⟩
        have hfb := foldV_bd HR.out.value0 HR.out.value1
        have hwb : N < 18446744073709551616 := by omega
        have hfe : foldV r.value = (N : Int) := by omega
        have HFO := Lib.hid (Fold_any r.value HR.out.value0 HR.out.value1)
        rw [hfe] at HFO
        have HFV : Hid (fval r zs 10 = numBytes N) := by unfold Hid fval; rw [if_neg (by decide), if_neg (by decide), if_pos rfl, hN]
        clear hN hfb hfe
        go_wp2_with fail
        refine (HFO.out _).mono ?_; rintro e _ ⟨rfl, rfl⟩
        go_wp2_with fail
        refine (Number_any 10 _ hwb _).mono ?_; rintro e W2 ⟨v', rfl, ho, hb⟩
        obtain ⟨va, vc, rfl⟩ := ownsRow_form ho
        have HP2 := Lib.hid ((Mod.of_same (S := fun _ => False) hb).heap HP.out (fun h => h))
        have HM2 : Hid (Mod (fun _ => False) wr W2) := HM1.out.trans (Mod.of_same hb)
        have HTB := Lib.hid (TB.of_own ho)
        obtain ⟨p0, p1, f0, f1⟩ := fld_all HP2.out
        clear ho hb
        go_upto_region 14 with fail
        have HM4 : Hid (Mod (fun _ => False) wr ((W2.setCell ⟨wr.heap.size, 0, none⟩ (.int .i64 10)).setCell ⟨wr.heap.size, 1, none⟩ (.slice va (sizeN N) vc))) := (HM2.out.setCell (p := ⟨wr.heap.size, 0, none⟩) (.inl (Nat.le_refl _)) _).setCell (p := ⟨wr.heap.size, 1, none⟩) (.inl (Nat.le_refl _)) _
        have HT4 : Hid (TB ((W2.setCell ⟨wr.heap.size, 0, none⟩ (.int .i64 10)).setCell ⟨wr.heap.size, 1, none⟩ (.slice va (sizeN N) vc)) (.slice va (sizeN N) vc) (fval r zs 10)) := by
          rw [HFV.out]
          refine HTB.out.keep (S := fun g => g = wr.heap.size) (((Mod.refl (fun g => g = wr.heap.size) _).setCell (p := ⟨wr.heap.size, 0, none⟩) (.inr rfl) _).setCell (p := ⟨wr.heap.size, 1, none⟩) (.inr rfl) _) (fun g cs fr hg e => ?_)
          subst e
          rw [HP2.out] at hg
          have := Option.some.inj hg
          injection this with _ h2
          exact absurd h2 (by decide)
        have HS4 := Lib.hid (HST.out.mod HM4.out)
        have HP4 : Hid (((W2.setCell ⟨wr.heap.size, 0, none⟩ (.int .i64 10)).setCell ⟨wr.heap.size, 1, none⟩ (.slice va (sizeN N) vc)).heap[wr.heap.size]? = some (.cells #[.int .i64 10, .slice va (sizeN N) vc] 141)) := by
          have := heap_set_ (heap_set_ HP2.out 0 (.int .i64 10)) 1 (.slice va (sizeN N) vc)
          rw [Hid]; simpa using this
        clear HTB HP2 p0 p1 f0 f1 HM2
        generalize (W2.setCell ⟨wr.heap.size, 0, none⟩ (.int .i64 10)).setCell ⟨wr.heap.size, 1, none⟩ (.slice va (sizeN N) vc) = W4 at *
        obtain ⟨p0, p1⟩ := fld_cells HP4.out
        obtain ⟨fn, tmps, assign, body, hy, hR⟩ := HY.out k _ wr _ hlt HJK.out HM4.out ⟨_, _, HTK.out, rfl, HT4.out, HS4.out⟩
        refine (wpIn_wide (n := m)).1 ?_
        gi_wp2
        refine hR.mono ?_
        rintro e W5 (⟨rfl, hJ5, hS5⟩ | ⟨rfl, hX5⟩)
        · gi_wp2
          have HS5 := Lib.hid hS5
          have HJ5 := Lib.hid hJ5
          clear hS5 hJ5 hR hy p0 p1
          go_wp2_with fail
          exact ⟨⟨k + 1, by omega, by simp, HJ5.out, HS5.out⟩, by simp [intOf]; omega⟩
        · gi_wp2
          have HX5 := Lib.hid hX5
          clear hX5 hR hy p0 p1
          go_wp2_with fail
          exact bodyPost_ret (results_none rfl _ _ _) rfl ⟨⟨_, rfl⟩, .inr HX5.out⟩
      · obtain ⟨-, -, -, -, -, -, -, -, -, -, -, c11⟩ := HST1.out.2.1.cells
        obtain ⟨p0, p1, f0, f1⟩ := fld_all HP.out
        have HFV : Hid (fval r zs 11 = zs) := by unfold Hid fval; rw [if_neg (by decide), if_neg (by decide), if_neg (by decide), if_pos rfl]
        go_upto_region 14 with fail
        have HM4 : Hid (Mod (fun _ => False) wr (wr.alloc (.cells #[.int .i64 11, .slice fa zs.length fc] 141))) := (Mod.refl _ _).alloc _
        have HP4 := Lib.hid (World.alloc_heap_new wr (.cells #[.int .i64 11, .slice fa zs.length fc] 141))
        have HS4 := Lib.hid (HST.out.mod HM4.out)
        have HT4 : Hid (TB (wr.alloc (.cells #[.int .i64 11, .slice fa zs.length fc] 141)) (.slice fa zs.length fc) (fval r zs 11)) := by
          rw [HFV.out]; exact HS4.out.2.2.2.2
        clear p0 p1 f0 f1
        generalize wr.alloc (.cells #[.int .i64 11, .slice fa zs.length fc] 141) = W4 at *
        obtain ⟨p0, p1⟩ := fld_cells HP4.out
        obtain ⟨fn, tmps, assign, body, hy, hR⟩ := HY.out k _ wr _ hlt HJK.out HM4.out ⟨_, _, HTK.out, rfl, HT4.out, HS4.out⟩
        refine (wpIn_wide (n := m)).1 ?_
        gi_wp2
        refine hR.mono ?_
        rintro e W5 (⟨rfl, hJ5, hS5⟩ | ⟨rfl, hX5⟩)
        · gi_wp2
          have HS5 := Lib.hid hS5
          have HJ5 := Lib.hid hJ5
          clear hS5 hJ5 hR hy p0 p1
          go_wp2_with fail
          exact ⟨⟨k + 1, by omega, by simp, HJ5.out, HS5.out⟩, by simp [intOf]; omega⟩
        · gi_wp2
          have HX5 := Lib.hid hX5
          clear hX5 hR hy p0 p1
          go_wp2_with fail
          exact bodyPost_ret (results_none rfl _ _ _) rfl ⟨⟨_, rfl⟩, .inr HX5.out⟩
      · have cN := (HST1.out.2.1.num hq3 hq9).1
        have cA := numsC_at br q hq3 hq9 HST1.out.2.2.1
        obtain ⟨N, hN⟩ : ∃ N : Nat, (getN r (q : Int) % 18446744073709551616).toNat = N := ⟨_, rfl⟩
        have hwr : IntKind.u64.wrap (getN r (q : Int)) = (N : Int) := by rw [IntKind.wrap_u64]; omega
        have hwb : N < 18446744073709551616 := by omega
        have t2 : ((q : Int) == 2) = false := by simp; omega
        have t11 : ((q : Int) == 11) = false := by simp; omega
        have t1 : ((q : Int) == 1) = false := by simp; omega
        have t10 : ((q : Int) == 10) = false := by simp; omega
        have HFV : Hid (fval r zs (q : Int) = numBytes N) := by unfold Hid fval; rw [if_neg (by omega), if_neg (by omega), if_neg (by omega), if_neg (by omega), hN]
        clear hN
        go_wp2_with fail
        refine (Number_any _ _ hwb _).mono ?_; rintro e W2 ⟨v', rfl, ho, hb⟩
        obtain ⟨va, vc, rfl⟩ := ownsRow_form ho
        have HP2 := Lib.hid ((Mod.of_same (S := fun _ => False) hb).heap HP.out (fun h => h))
        have HM2 : Hid (Mod (fun _ => False) wr W2) := HM1.out.trans (Mod.of_same hb)
        have HTB := Lib.hid (TB.of_own ho)
        obtain ⟨p0, p1, f0, f1⟩ := fld_all HP2.out
        clear ho hb
        go_upto_region 14 with fail
        have HM4 : Hid (Mod (fun _ => False) wr ((W2.setCell ⟨wr.heap.size, 0, none⟩ (.int .i64 (q : Int))).setCell ⟨wr.heap.size, 1, none⟩ (.slice va (sizeN N) vc))) := (HM2.out.setCell (p := ⟨wr.heap.size, 0, none⟩) (.inl (Nat.le_refl _)) _).setCell (p := ⟨wr.heap.size, 1, none⟩) (.inl (Nat.le_refl _)) _
        have HT4 : Hid (TB ((W2.setCell ⟨wr.heap.size, 0, none⟩ (.int .i64 (q : Int))).setCell ⟨wr.heap.size, 1, none⟩ (.slice va (sizeN N) vc)) (.slice va (sizeN N) vc) (fval r zs (q : Int))) := by
          rw [HFV.out]
          refine HTB.out.keep (S := fun g => g = wr.heap.size) (((Mod.refl (fun g => g = wr.heap.size) _).setCell (p := ⟨wr.heap.size, 0, none⟩) (.inr rfl) _).setCell (p := ⟨wr.heap.size, 1, none⟩) (.inr rfl) _) (fun g cs fr hg e => ?_)
          subst e
          rw [HP2.out] at hg
          have := Option.some.inj hg
          injection this with _ h2
          exact absurd h2 (by decide)
        have HS4 := Lib.hid (HST.out.mod HM4.out)
        have HP4 : Hid (((W2.setCell ⟨wr.heap.size, 0, none⟩ (.int .i64 (q : Int))).setCell ⟨wr.heap.size, 1, none⟩ (.slice va (sizeN N) vc)).heap[wr.heap.size]? = some (.cells #[.int .i64 (q : Int), .slice va (sizeN N) vc] 141)) := by
          have := heap_set_ (heap_set_ HP2.out 0 (.int .i64 (q : Int))) 1 (.slice va (sizeN N) vc)
          rw [Hid]; simpa using this
        clear HTB HP2 p0 p1 f0 f1 HM2
        generalize (W2.setCell ⟨wr.heap.size, 0, none⟩ (.int .i64 (q : Int))).setCell ⟨wr.heap.size, 1, none⟩ (.slice va (sizeN N) vc) = W4 at *
        obtain ⟨p0, p1⟩ := fld_cells HP4.out
        obtain ⟨fn, tmps, assign, body, hy, hR⟩ := HY.out k _ wr _ hlt HJK.out HM4.out ⟨_, _, HTK.out, rfl, HT4.out, HS4.out⟩
        refine (wpIn_wide (n := m)).1 ?_
        gi_wp2
        refine hR.mono ?_
        rintro e W5 (⟨rfl, hJ5, hS5⟩ | ⟨rfl, hX5⟩)
        · gi_wp2
          have HS5 := Lib.hid hS5
          have HJ5 := Lib.hid hJ5
          clear hS5 hJ5 hR hy p0 p1
          go_wp2_with fail
          exact ⟨⟨k + 1, by omega, by simp, HJ5.out, HS5.out⟩, by simp [intOf]; omega⟩
        · gi_wp2
          have HX5 := Lib.hid hX5
          clear hX5 hR hy p0 p1
          go_wp2_with fail
          exact bodyPost_ret (results_none rfl _ _ _) rfl ⟨⟨_, rfl⟩, .inr HX5.out⟩
    · obtain rfl : k = n := by omega
      go_wp2_with fail
      go_end0
      exact ⟨⟨_, rfl⟩, .inl ⟨HJK.out, HST.out⟩⟩
end Eng
end Go.Proofs.YtdfmgneicdpjmaaGreat
