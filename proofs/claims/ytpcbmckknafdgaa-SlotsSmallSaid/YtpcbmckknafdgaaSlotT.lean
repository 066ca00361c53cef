/- The reference of layer 9: its state in memory; own. -/
import Derived.Test.YtpcbmckknafdgaaSlotP
import Derived.BigRegion
import Derived.IntWalk
import Derived.Maps.AppendAt
import Derived.Deep.Cut
namespace Go.Proofs.Ytpcbmckknafdgaa
open Go.RowKit Go.Shelf
set_option linter.unusedVariables false
set_option linter.unusedSimpArgs false
set_option maxRecDepth 100000
namespace Slot

/-- A state in its box. -/
def BoxS (w : World) (B : Nat) (vl : Value) (k : Int) (vf vt : Value) : Prop := w.heap[B]? = some (.cells #[vl, .int .i64 k, vf, vt] 67 (0, 0))
namespace BoxS
variable {w w' : World} {B : Nat} {vl vf vt v : Value} {k : Int}
theorem c0 (h : BoxS w B vl k vf vt) : w.cell? ⟨B, 0, none⟩ = some vl := by simp [World.cell?, show w.heap[B]? = _ from h]
theorem c1 (h : BoxS w B vl k vf vt) : w.cell? ⟨B, 1, none⟩ = some (.int .i64 k) := by simp [World.cell?, show w.heap[B]? = _ from h]
theorem c2 (h : BoxS w B vl k vf vt) : w.cell? ⟨B, 2, none⟩ = some vf := by simp [World.cell?, show w.heap[B]? = _ from h]
theorem c3 (h : BoxS w B vl k vf vt) : w.cell? ⟨B, 3, none⟩ = some vt := by simp [World.cell?, show w.heap[B]? = _ from h]
theorem frozen (h : BoxS w B vl k vf vt) (i : Nat) : w.frozen? ⟨B, i, none⟩ = false := by simp [World.frozen?, show w.heap[B]? = _ from h]
theorem lt (h : BoxS w B vl k vf vt) : B < w.heap.size := (Array.getElem?_eq_some_iff.1 h).1
theorem mod {S : Nat → Prop} (h : BoxS w B vl k vf vt) (hm : Mod S w w') (hS : ¬ S B) : BoxS w' B vl k vf vt := hm.heap h hS
theorem set0 (h : BoxS w B vl k vf vt) : BoxS (w.setCell ⟨B, 0, none⟩ v) B v k vf vt := by
  obtain ⟨hlt, hk⟩ := Array.getElem?_eq_some_iff.1 h
  show (w.heap.modify B _)[B]? = _
  rw [Array.getElem?_eq_getElem (by rw [Array.size_modify]; exact hlt), Array.getElem_modify_self, hk]; rfl
theorem set2 (h : BoxS w B vl k vf vt) : BoxS (w.setCell ⟨B, 2, none⟩ v) B vl k v vt := by
  obtain ⟨hlt, hk⟩ := Array.getElem?_eq_some_iff.1 h
  show (w.heap.modify B _)[B]? = _
  rw [Array.getElem?_eq_getElem (by rw [Array.size_modify]; exact hlt), Array.getElem_modify_self, hk]; rfl
theorem set3 (h : BoxS w B vl k vf vt) : BoxS (w.setCell ⟨B, 3, none⟩ v) B vl k vf v := by
  obtain ⟨hlt, hk⟩ := Array.getElem?_eq_some_iff.1 h
  show (w.heap.modify B _)[B]? = _
  rw [Array.getElem?_eq_getElem (by rw [Array.size_modify]; exact hlt), Array.getElem_modify_self, hk]; rfl
theorem set1 {j : Int} (h : BoxS w B vl k vf vt) : BoxS (w.setCell ⟨B, 1, none⟩ (.int .i64 j)) B vl j vf vt := by
  obtain ⟨hlt, hk⟩ := Array.getElem?_eq_some_iff.1 h
  show (w.heap.modify B _)[B]? = _
  rw [Array.getElem?_eq_getElem (by rw [Array.size_modify]; exact hlt), Array.getElem_modify_self, hk]; rfl
/-- A whole state, stored. -/
theorem set4 {al af at_ : Value} {j : Int} (h : BoxS w B vl k vf vt) : BoxS ((((w.setCell ⟨B, 0, none⟩ al).setCell ⟨B, 1, none⟩ (.int .i64 j)).setCell ⟨B, 2, none⟩ af).setCell ⟨B, 3, none⟩ at_) B al j af at_ := h.set0.set1.set2.set3
end BoxS
theorem mod4 (w : World) (B : Nat) (a b c d : Value) : Mod (fun k => k = B) w ((((w.setCell ⟨B, 0, none⟩ a).setCell ⟨B, 1, none⟩ b).setCell ⟨B, 2, none⟩ c).setCell ⟨B, 3, none⟩ d) :=
  Mod.setCell (S := fun k => k = B) (p := ⟨B, 3, none⟩) (Mod.setCell (S := fun k => k = B) (p := ⟨B, 2, none⟩) (Mod.setCell (S := fun k => k = B) (p := ⟨B, 1, none⟩) (Mod.setCell (S := fun k => k = B) (p := ⟨B, 0, none⟩) (Mod.refl _ w) (.inr rfl) a) (.inr rfl) b) (.inr rfl) c) (.inr rfl) d
theorem own_results {W : World} {R : Nat} {vl vf vt : Value} {k : Int} {tmps : Array Value} (h : BoxS W R vl k vf vt) (e : tmps[2]? = some (.pointer (some ⟨R, 0, none⟩))) :
    (results Try.f51 tmps).run Try.prog W = .ok (.agg #[vl, .int .i64 k, vf, vt]) W := by
  have c0 := h.c0
  have c1 := h.c1
  have c2 := h.c2
  have c3 := h.c3
  simp [results, Try.results51, go_sem, e, c0, c1, c2, c3]

theorem infoBool : (Try.prog.info? 4).map (fun i => (i.zero, i.size, i.bytes)) = some (some (.bool false), 1, 1) := by kernel_rfl

/-- The cells of a row that lies somewhere. -/
def CellsAt (w : World) (b o n : Nat) (f : Nat → Value) : Prop := b < w.heap.size ∧ ∀ i, i < n → w.cell? ⟨b, o + i, none⟩ = some (f i)
theorem CellsAt.below {w w' : World} {b o n : Nat} {f : Nat → Value} (h : CellsAt w b o n f) (hb : Below w.heap.size w w') : CellsAt w' b o n f :=
  ⟨Nat.lt_of_lt_of_le h.1 hb.size, fun i hi => (hb.cell (p := ⟨b, o + i, none⟩) h.1).trans (h.2 i hi)⟩
theorem CellsAt.news {w : World} {b o n : Nat} {f : Nat → Value} (h : CellsAt w b o n f) (j : Nat) (u : Value) (hj : ((List.range n).map f)[j]? = some u) : w.cell? ((⟨b, o, none⟩ : Addr).add j) = some u := by
  have hn : j < n := by
    by_cases hn : j < n
    · exact hn
    · rw [List.getElem?_eq_none (by simp; omega)] at hj; cases hj
  have e : u = f j := by simpa [hn] using hj.symm
  subst e
  have := h.2 j hn
  rcases j with _ | j
  · simpa [Addr.add] using this
  · simpa [Addr.add] using this

/-- A row of its own with n cells. -/
theorem owns_none (w : World) (base : Nat) (h : base ≤ w.heap.size) (t : TypeId) : (w.alloc (.cells #[] t)).ownsRow base t 1 (.slice (some ⟨w.heap.size, 0, none⟩) 0 0) 0 [] :=
  ⟨rfl, .inr ⟨w.heap.size, 0, #[], rfl, h, World.alloc_heap_new w _, Nat.le_refl _, Nat.zero_le _, rfl, rfl⟩⟩
theorem owns_some {w : World} {base : Nat} {t : TypeId} {v v0 : Value} {n : Nat} {xs : List Value} (h : w.ownsRow base t 1 v n xs) (hn : v = .slice none 0 0 ↔ v0 = .slice none 0 0 ∧ n = 0) (h0 : v0 ≠ .slice none 0 0) :
    ∃ g c, v = .slice (some ⟨g, 0, none⟩) n c ∧ base ≤ g ∧ g < w.heap.size := by
  rcases h.2 with ⟨h1, _⟩ | ⟨g, c, cur, h1, h2, h3, _⟩
  · exact absurd (hn.1 h1).1 h0
  · exact ⟨g, c, h1, h2, (Array.getElem?_eq_some_iff.1 h3).1⟩

theorem below_stage {x w1 : World} {t : TypeId} (hg : (x.alloc (.cells #[] t)).grownBy w1 (some x.heap.size)) : Below x.heap.size x w1 :=
  ((Mod.of_same (S := fun k => some k = some x.heap.size) ((Below.refl _ x).alloc (Nat.le_refl _) (.cells #[] t))).trans (Mod.of_grownBy hg)).below (Nat.le_refl _) (fun k hk e => by injection e with e; omega)
/-- The row that an append to an empty one has made. -/
theorem stage_row {w1 : World} {base : Nat} {t : TypeId} {v : Value} {n X : Nat} {xs : List Value} (h : w1.ownsRow base t 1 v (0 + n) xs) (hn : v = .slice none 0 0 ↔ Value.slice (some ⟨X, 0, none⟩) 0 0 = .slice none 0 0 ∧ n = 0)
    (ha : v.ownBlock = (Value.slice (some ⟨X, 0, none⟩) 0 0).ownBlock ∨ v.ownBlock = some (X + 1)) : ∃ g c, v = .slice (some ⟨g, 0, none⟩) n c ∧ (g = X ∨ g = X + 1) ∧ g < w1.heap.size ∧ w1.ownsRow base t 1 (.slice (some ⟨g, 0, none⟩) n c) n xs := by
  rw [Nat.zero_add] at h
  rcases h.2 with ⟨h1, _⟩ | ⟨g, c, cur, h1, h2, h3, _⟩
  · exact absurd (hn.1 h1).1 (by simp)
  · subst h1
    refine ⟨g, c, rfl, ?_, (Array.getElem?_eq_some_iff.1 h3).1, h⟩
    rcases ha with ha | ha
    · exact .inl (by simpa [Value.ownBlock] using ha)
    · exact .inr (by simpa [Value.ownBlock] using ha)

set_option maxHeartbeats 4000000 in
theorem Own_any (fl ff ft : Nat → Value) (nl nf nt bl ol cl bf off cf bt ot ct : Nat) (k : Int) (w : World) (hnl : nl ≤ 1024) (hnf : nf ≤ 1024) (hnt : nt ≤ 1024)
    (hl : CellsAt w bl ol nl fl) (hf : CellsAt w bf off nf ff) (ht : CellsAt w bt ot nt ft) (ol1 : ∀ i, (fl i).oneCell' = true) (of1 : ∀ i, (ff i).oneCell' = true) (ot1 : ∀ i, (ft i).oneCell' = true) :
    Calls Try.prog 51 #[.agg #[.slice (some ⟨bl, ol, none⟩) nl cl, .int .i64 k, .slice (some ⟨bf, off, none⟩) nf cf, .slice (some ⟨bt, ot, none⟩) nt ct]] w fun e w' =>
      ∃ g1 c1 g2 c2 g3 c3, e = .returned (.agg #[.slice (some ⟨g1, 0, none⟩) nl c1, .int .i64 k, .slice (some ⟨g2, 0, none⟩) nf c2, .slice (some ⟨g3, 0, none⟩) nt c3]) ∧
        w'.ownsRow w.heap.size 3 1 (.slice (some ⟨g1, 0, none⟩) nl c1) nl ((List.range nl).map fl) ∧ w'.ownsRow w.heap.size 3 1 (.slice (some ⟨g2, 0, none⟩) nf c2) nf ((List.range nf).map ff) ∧
        w'.ownsRow w.heap.size 4 1 (.slice (some ⟨g3, 0, none⟩) nt c3) nt ((List.range nt).map ft) ∧ g1 ≠ g2 ∧ g1 ≠ g3 ∧ g2 ≠ g3 ∧ Below w.heap.size w w' := by
  obtain ⟨i0, hi, hz0, hz1, hz2⟩ := info_parts infoInt
  obtain ⟨j0, hj, hy0, hy1, hy2⟩ := info_parts infoBool
  have HL := Lib.hid (fun w' => CellsAt.below (w' := w') hl)
  have HF := Lib.hid (fun w' => CellsAt.below (w' := w') hf)
  have HT := Lib.hid (fun w' => CellsAt.below (w' := w') ht)
  clear hl hf ht
  have hB0 : Below w.heap.size w ((w.alloc (.cells #[.slice (some ⟨bl, ol, none⟩) nl cl, .int .i64 k, .slice (some ⟨bf, off, none⟩) nf cf, .slice (some ⟨bt, ot, none⟩) nt ct] 67)).alloc (.cells #[.slice none 0 0, .int .i64 0, .slice none 0 0, .slice none 0 0] 67)) := (((Below.refl _ w).alloc (Nat.le_refl _) _).alloc (by simp) _)
  have hb0 : BoxS ((w.alloc (.cells #[.slice (some ⟨bl, ol, none⟩) nl cl, .int .i64 k, .slice (some ⟨bf, off, none⟩) nf cf, .slice (some ⟨bt, ot, none⟩) nt ct] 67)).alloc (.cells #[.slice none 0 0, .int .i64 0, .slice none 0 0, .slice none 0 0] 67)) w.heap.size (.slice (some ⟨bl, ol, none⟩) nl cl) k (.slice (some ⟨bf, off, none⟩) nf cf) (.slice (some ⟨bt, ot, none⟩) nt ct) := (Below.heap_alloc _ _ _ (by simp)).trans (World.alloc_heap_new w _)
  have hr0 : BoxS ((w.alloc (.cells #[.slice (some ⟨bl, ol, none⟩) nl cl, .int .i64 k, .slice (some ⟨bf, off, none⟩) nf cf, .slice (some ⟨bt, ot, none⟩) nt ct] 67)).alloc (.cells #[.slice none 0 0, .int .i64 0, .slice none 0 0, .slice none 0 0] 67)) (w.heap.size + 1) (.slice none 0 0) 0 (.slice none 0 0) (.slice none 0 0) := by
    have := World.alloc_heap_new (w.alloc (.cells #[.slice (some ⟨bl, ol, none⟩) nl cl, .int .i64 k, .slice (some ⟨bf, off, none⟩) nf cf, .slice (some ⟨bt, ot, none⟩) nt ct] 67)) (.cells #[.slice none 0 0, .int .i64 0, .slice none 0 0, .slice none 0 0] 67)
    simpa [BoxS] using this
  have hs0 : ((w.alloc (.cells #[.slice (some ⟨bl, ol, none⟩) nl cl, .int .i64 k, .slice (some ⟨bf, off, none⟩) nf cf, .slice (some ⟨bt, ot, none⟩) nt ct] 67)).alloc (.cells #[.slice none 0 0, .int .i64 0, .slice none 0 0, .slice none 0 0] 67)).heap.size = w.heap.size + 1 + 1 := by simp
  go_enter Try.func51, Try.ntmps51
  go_upto_region 1 with (fail)
  generalize ((w.alloc (.cells #[.slice (some ⟨bl, ol, none⟩) nl cl, .int .i64 k, .slice (some ⟨bf, off, none⟩) nf cf, .slice (some ⟨bt, ot, none⟩) nt ct] 67)).alloc (.cells #[.slice none 0 0, .int .i64 0, .slice none 0 0, .slice none 0 0] 67)) = x0 at *
  have HS0 := Lib.hid hs0
  clear hs0
  have X0 := Lib.hid (show w.heap.size + 1 < x0.heap.size from by have := HS0.out; omega)
  have hown0 := owns_none x0 w.heap.size (by have := X0.out; omega) 3
  have hal0 : Below x0.heap.size x0 (x0.alloc (.cells #[] 3)) := (Below.refl _ x0).alloc (Nat.le_refl _) _
  have hn0 := (HL.out _ (hB0.trans (hal0.mono hB0.size))).news
  have q0 := BoxS.c0 (show BoxS (x0.alloc (.cells #[] 3)) w.heap.size (.slice (some ⟨bl, ol, none⟩) nl cl) k (.slice (some ⟨bf, off, none⟩) nf cf) (.slice (some ⟨bt, ot, none⟩) nt ct) from (hal0.block _ hb0.lt).trans hb0)
  go_upto_region 2 with (at_builtin; refine wpList_append_own_at _ rfl _ _ 29 rfl w.heap.size 3 i0 (.int .i64 0) 1 8 Try.underlying29 hi hz0 hz1 hz2 rfl (by decide) _ _ _ rfl hown0 ⟨bl, ol, none⟩ nl cl _ rfl (by simp) hn0 (by simp; intro a _; exact ol1 a) (by unfold maxLen; omega) (by omega) (by simp; have := X0.out; omega) ?_; intro v0 w1 how0 hgrow0 hnil0 hat0; obtain ⟨g0, c0, rfl, hg0, hgl0, hrow0⟩ := stage_row how0 hnil0 (hat0.imp (fun h => h) (fun h => by simpa using h)); have hbs0 := below_stage hgrow0; have hbb0 : BoxS w1 w.heap.size (.slice (some ⟨bl, ol, none⟩) nl cl) k (.slice (some ⟨bf, off, none⟩) nf cf) (.slice (some ⟨bt, ot, none⟩) nt ct) := (hbs0.block _ hb0.lt).trans hb0; have hff0 := hbb0.frozen 0; have hcc0 := hbb0.c0)
  have hb1 := hbb0.set0 (v := .slice (some ⟨g0, 0, none⟩) nl c0)
  have hm0 := Mod.setCell (S := fun k => k = w.heap.size) (p := ⟨w.heap.size, 0, none⟩) (Mod.refl _ w1) (.inr rfl) (.slice (some ⟨g0, 0, none⟩) nl c0)
  have hB1 := (hB0.trans (hbs0.mono hB0.size)).trans (hm0.below (Nat.le_trans hB0.size hbs0.size) (fun k hk e => by omega))
  have hxs0 := hbs0.size
  have hrw0 := ownsRow_mod hrow0 hm0 (fun g e => by have e' : some g0 = some g := e; injection e' with e'; have := X0.out; omega)
  have hr1x := (hbs0.block _ (by have := X0.out; omega)).trans hr0
  have hr1 : BoxS _ (w.heap.size + 1) (.slice none 0 0) 0 (.slice none 0 0) (.slice none 0 0) := BoxS.mod hr1x hm0 (by omega)
  have hz0s : (w1.setCell ⟨w.heap.size, 0, none⟩ (.slice (some ⟨g0, 0, none⟩) nl c0)).heap.size = w1.heap.size := by simp
  generalize w1.setCell ⟨w.heap.size, 0, none⟩ (.slice (some ⟨g0, 0, none⟩) nl c0) = x1 at *
  have Z1 := Lib.hid (show w.heap.size + 1 < x1.heap.size ∧ g0 < x1.heap.size ∧ x0.heap.size ≤ g0 ∧ x0.heap.size ≤ x1.heap.size from by have := X0.out; omega)
  clear hown0 hal0 hn0 q0 how0 hgrow0 hnil0 hat0 hbs0 hbb0 hff0 hcc0 hrow0 hm0 hxs0 hr1x hr0 hz0s hg0 hgl0 hB0 hb0
  have X1 := Lib.hid (show w.heap.size + 1 < x1.heap.size from by have := HS0.out; have := Z1.out; omega)
  have hown1 := owns_none x1 w.heap.size (by have := X1.out; omega) 3
  have hal1 : Below x1.heap.size x1 (x1.alloc (.cells #[] 3)) := (Below.refl _ x1).alloc (Nat.le_refl _) _
  have hn1 := (HF.out _ (hB1.trans (hal1.mono hB1.size))).news
  have q1 := BoxS.c2 (show BoxS (x1.alloc (.cells #[] 3)) w.heap.size (.slice (some ⟨g0, 0, none⟩) nl c0) k (.slice (some ⟨bf, off, none⟩) nf cf) (.slice (some ⟨bt, ot, none⟩) nt ct) from (hal1.block _ hb1.lt).trans hb1)
  go_upto_region 3 with (at_builtin; refine wpList_append_own_at _ rfl _ _ 29 rfl w.heap.size 3 i0 (.int .i64 0) 1 8 Try.underlying29 hi hz0 hz1 hz2 rfl (by decide) _ _ _ rfl hown1 ⟨bf, off, none⟩ nf cf _ rfl (by simp) hn1 (by simp; intro a _; exact of1 a) (by unfold maxLen; omega) (by omega) (by simp; have := X1.out; omega) ?_; intro v1 w2 how1 hgrow1 hnil1 hat1; obtain ⟨g1, c1, rfl, hg1, hgl1, hrow1⟩ := stage_row how1 hnil1 (hat1.imp (fun h => h) (fun h => by simpa using h)); have hbs1 := below_stage hgrow1; have hbb1 : BoxS w2 w.heap.size (.slice (some ⟨g0, 0, none⟩) nl c0) k (.slice (some ⟨bf, off, none⟩) nf cf) (.slice (some ⟨bt, ot, none⟩) nt ct) := (hbs1.block _ hb1.lt).trans hb1; have hff1 := hbb1.frozen 2; have hcc1 := hbb1.c2)
  have hb2 := hbb1.set2 (v := .slice (some ⟨g1, 0, none⟩) nf c1)
  have hm1 := Mod.setCell (S := fun k => k = w.heap.size) (p := ⟨w.heap.size, 2, none⟩) (Mod.refl _ w2) (.inr rfl) (.slice (some ⟨g1, 0, none⟩) nf c1)
  have hB2 := (hB1.trans (hbs1.mono hB1.size)).trans (hm1.below (Nat.le_trans hB1.size hbs1.size) (fun k hk e => by omega))
  have hxs1 := hbs1.size
  have hrw1 := ownsRow_mod hrow1 hm1 (fun g e => by have e' : some g1 = some g := e; injection e' with e'; have := X1.out; omega)
  have hrw0' := ownsRow_mod (S := fun _ => False) hrw0 (Mod.of_same hbs1) (by simp)
  have hrw0'' := ownsRow_mod hrw0' hm1 (fun g e => by have e' : some g0 = some g := e; injection e' with e'; have := X0.out; have := Z1.out; omega)
  have hr2x := (hbs1.block _ (by have := X1.out; omega)).trans hr1
  have hr2 : BoxS _ (w.heap.size + 1) (.slice none 0 0) 0 (.slice none 0 0) (.slice none 0 0) := BoxS.mod hr2x hm1 (by omega)
  have hz1s : (w2.setCell ⟨w.heap.size, 2, none⟩ (.slice (some ⟨g1, 0, none⟩) nf c1)).heap.size = w2.heap.size := by simp
  generalize w2.setCell ⟨w.heap.size, 2, none⟩ (.slice (some ⟨g1, 0, none⟩) nf c1) = x2 at *
  have Z2 := Lib.hid (show w.heap.size + 1 < x2.heap.size ∧ g1 < x2.heap.size ∧ x1.heap.size ≤ g1 ∧ x1.heap.size ≤ x2.heap.size from by have := X1.out; omega)
  clear hown1 hal1 hn1 q1 how1 hgrow1 hnil1 hat1 hbs1 hbb1 hff1 hcc1 hrow1 hm1 hxs1 hr2x hr1 hz1s hg1 hgl1 hB1 hb1
  clear hrw0 hrw0'
  have hrw0 := hrw0''
  clear hrw0''
  have X2 := Lib.hid (show w.heap.size + 1 < x2.heap.size from by have := HS0.out; have := Z2.out; omega)
  have hown2 := owns_none x2 w.heap.size (by have := X2.out; omega) 4
  have hal2 : Below x2.heap.size x2 (x2.alloc (.cells #[] 4)) := (Below.refl _ x2).alloc (Nat.le_refl _) _
  have hn2 := (HT.out _ (hB2.trans (hal2.mono hB2.size))).news
  have q2 := BoxS.c3 (show BoxS (x2.alloc (.cells #[] 4)) w.heap.size (.slice (some ⟨g0, 0, none⟩) nl c0) k (.slice (some ⟨g1, 0, none⟩) nf c1) (.slice (some ⟨bt, ot, none⟩) nt ct) from (hal2.block _ hb2.lt).trans hb2)
  go_upto_region 4 with (at_builtin; refine wpList_append_own_at _ rfl _ _ 65 rfl w.heap.size 4 j0 (.bool false) 1 1 Try.underlying65 hj hy0 hy1 hy2 rfl (by decide) _ _ _ rfl hown2 ⟨bt, ot, none⟩ nt ct _ rfl (by simp) hn2 (by simp; intro a _; exact ot1 a) (by unfold maxLen; omega) (by omega) (by simp; have := X2.out; omega) ?_; intro v2 w3 how2 hgrow2 hnil2 hat2; obtain ⟨g2, c2, rfl, hg2, hgl2, hrow2⟩ := stage_row how2 hnil2 (hat2.imp (fun h => h) (fun h => by simpa using h)); have hbs2 := below_stage hgrow2; have hbb2 : BoxS w3 w.heap.size (.slice (some ⟨g0, 0, none⟩) nl c0) k (.slice (some ⟨g1, 0, none⟩) nf c1) (.slice (some ⟨bt, ot, none⟩) nt ct) := (hbs2.block _ hb2.lt).trans hb2; have hff2 := hbb2.frozen 3; have hcc2 := hbb2.c3)
  have hb3 := hbb2.set3 (v := .slice (some ⟨g2, 0, none⟩) nt c2)
  have hm2 := Mod.setCell (S := fun k => k = w.heap.size) (p := ⟨w.heap.size, 3, none⟩) (Mod.refl _ w3) (.inr rfl) (.slice (some ⟨g2, 0, none⟩) nt c2)
  have hB3 := (hB2.trans (hbs2.mono hB2.size)).trans (hm2.below (Nat.le_trans hB2.size hbs2.size) (fun k hk e => by omega))
  have hxs2 := hbs2.size
  have hrw2 := ownsRow_mod hrow2 hm2 (fun g e => by have e' : some g2 = some g := e; injection e' with e'; have := X2.out; omega)
  have hrw0' := ownsRow_mod (S := fun _ => False) hrw0 (Mod.of_same hbs2) (by simp)
  have hrw0'' := ownsRow_mod hrw0' hm2 (fun g e => by have e' : some g0 = some g := e; injection e' with e'; have := X0.out; have := Z1.out; omega)
  have hrw1' := ownsRow_mod (S := fun _ => False) hrw1 (Mod.of_same hbs2) (by simp)
  have hrw1'' := ownsRow_mod hrw1' hm2 (fun g e => by have e' : some g1 = some g := e; injection e' with e'; have := X1.out; have := Z2.out; omega)
  have hr3x := (hbs2.block _ (by have := X2.out; omega)).trans hr2
  have hr3 : BoxS _ (w.heap.size + 1) (.slice none 0 0) 0 (.slice none 0 0) (.slice none 0 0) := BoxS.mod hr3x hm2 (by omega)
  have hz2s : (w3.setCell ⟨w.heap.size, 3, none⟩ (.slice (some ⟨g2, 0, none⟩) nt c2)).heap.size = w3.heap.size := by simp
  generalize w3.setCell ⟨w.heap.size, 3, none⟩ (.slice (some ⟨g2, 0, none⟩) nt c2) = x3 at *
  have Z3 := Lib.hid (show w.heap.size + 1 < x3.heap.size ∧ g2 < x3.heap.size ∧ x2.heap.size ≤ g2 ∧ x2.heap.size ≤ x3.heap.size from by have := X2.out; omega)
  clear hown2 hal2 hn2 q2 how2 hgrow2 hnil2 hat2 hbs2 hbb2 hff2 hcc2 hrow2 hm2 hxs2 hr3x hr2 hz2s hg2 hgl2 hB2 hb2
  clear hrw0 hrw0'
  clear hrw1 hrw1'
  have hrw0 := hrw0''
  clear hrw0''
  have hrw1 := hrw1''
  clear hrw1''
  have q0 := hb3.c0
  have q1 := hb3.c1
  have q2 := hb3.c2
  have q3 := hb3.c3
  have f0 := hr3.frozen 0
  have f1 := hr3.frozen 1
  have f2 := hr3.frozen 2
  have f3 := hr3.frozen 3
  have r0 := hr3.c0
  have r1 := hr3.c1
  have r2 := hr3.c2
  have r3 := hr3.c3
  have HBX := Lib.hid (hr3.set4 (al := .slice (some ⟨g0, 0, none⟩) nl c0) (j := k) (af := .slice (some ⟨g1, 0, none⟩) nf c1) (at_ := .slice (some ⟨g2, 0, none⟩) nt c2))
  have HM := Lib.hid (mod4 x3 (w.heap.size + 1) (.slice (some ⟨g0, 0, none⟩) nl c0) (.int .i64 k) (.slice (some ⟨g1, 0, none⟩) nf c1) (.slice (some ⟨g2, 0, none⟩) nt c2))
  have H0 := Lib.hid hrw0
  have H1 := Lib.hid hrw1
  have H2 := Lib.hid hrw2
  have HB := Lib.hid hB3
  clear hb3 hr3 hrw0 hrw1 hrw2 hB3
  go_wp2_with fail
  refine bodyPost_ret (v := .agg #[.slice (some ⟨g0, 0, none⟩) nl c0, .int .i64 k, .slice (some ⟨g1, 0, none⟩) nf c1, .slice (some ⟨g2, 0, none⟩) nt c2]) (own_results HBX.out rfl) rfl ?_
  have z1 := Z1.out
  have z2 := Z2.out
  have z3 := Z3.out
  have zz := X0.out
  refine ⟨g0, c0, g1, c1, g2, c2, rfl, ?_, ?_, ?_, by omega, by omega, by omega, ?_⟩
  · exact ownsRow_mod H0.out HM.out (fun g e => by have e' : some g0 = some g := e; injection e' with e'; omega)
  · exact ownsRow_mod H1.out HM.out (fun g e => by have e' : some g1 = some g := e; injection e' with e'; omega)
  · exact ownsRow_mod H2.out HM.out (fun g e => by have e' : some g2 = some g := e; injection e' with e'; omega)
  · exact HB.out.trans (HM.out.below HB.out.size (fun k hk e => by omega))
end Slot
end Go.Proofs.Ytpcbmckknafdgaa
