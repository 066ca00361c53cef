/- Slots: the chapter's example. -/
import Derived.Test.YtpcbmckknafdgaaSlotK
namespace Go.Proofs.Ytpcbmckknafdgaa
open Go.RowKit Go.Shelf
set_option linter.unusedVariables false
set_option linter.unusedSimpArgs false
set_option maxRecDepth 100000
namespace Slot

def tk : Nat → Tab
  | 0 => newT 3 2
  | j + 1 => (takeT (tk j)).1
def gotT (j : Nat) : List R := upto (fun i => ((i : Int), 1)) j
theorem tk_step (j : Nat) (h : j < 3) : takeT (tk j) = (tk (j + 1), ((j : Int), 1), 0) := by
  rcases (by omega : j = 0 ∨ j = 1 ∨ j = 2) with rfl | rfl | rfl <;> rfl

theorem ReadsRefs.base {z : Nat} {w : World} {v : Value} {l : List R} (h : ReadsRefs z w v l) : ReadsRefs 0 w v l := by
  rcases h with h | ⟨b, cap, rfl, hb, h⟩
  · exact .inl h
  · exact .inr ⟨b, cap, rfl, Nat.zero_le _, h⟩
theorem lit3 {W : World} {B : Nat} {t : TypeId} (h : W.heap[B]? = some (.cells #[.int .i64 0, .int .i64 1, .int .i64 1, .int .i64 1, .int .i64 2, .int .i64 1] t (0, 0))) : ReadsRefs 0 W (.slice (some ⟨B, 0, none⟩) 3 3) [(0, 1), (1, 1), (2, 1)] := by
  refine .inr ⟨B, 3, rfl, Nat.zero_le _, (Array.getElem?_eq_some_iff.1 h).1, fun i hi => ?_⟩
  rcases (by simp at hi; omega : i = 0 ∨ i = 1 ∨ i = 2) with rfl | rfl | rfl <;> simp [World.cell?, h]
theorem litI {W : World} {B : Nat} {t : TypeId} (l : List Int) (hl : l.length ≤ maxLen) (h : W.heap[B]? = some (.cells (l.map (Value.int .i64)).toArray t (0, 0))) : Reads .i64 W (.slice (some ⟨B, 0, none⟩) l.length l.length) l := by
  refine .inr ⟨B, 0, l.length, rfl, hl, fun i hi => ?_⟩
  simp [World.cell?, h, List.getElem?_eq_getElem hi]

def s7 : Tab := (takeT (giveT 3 (giveT 3 (tk 3) (1, 1)).1 (0, 1)).1).1
def s9 : Tab := (giveT 3 s7 (0, 2)).1
def s11 : Tab := (takeT s9).1
def s13 : Tab := clearT 3 s11

set_option maxHeartbeats 8000000 in
theorem awake_any (w : World) : Calls Try.prog 12 #[] w fun e w' => e = .returned (.bool true) ∧ Below w.heap.size w w' := by
  obtain ⟨i0, hi, hz0, hz1, hz2⟩ := info_parts infoRef
  go_enter Try.func12, Try.ntmps12
  go_wp2_with fail
  refine (New_yes 3 2 _ (by omega) (by omega)).mono ?_; rintro e w1 ⟨rfl, h1, hB1⟩
  have hlt := h1.lt
  have hp : w.heap.size ≤ w.heap.size + 1 := by omega
  have hq : w.heap.size ≤ w.heap.size := by omega
  generalize w.heap.size + 1 = p at *
  generalize hqe : w.heap.size = q at h1 hlt hq hp
  have hqw : w.heap.size ≤ q := by omega
  have hpw : w.heap.size ≤ p := by omega
  clear hqe
  go_wp2_with fail
  go_loopw [3, 4, 5, 32] (fun v _ _ i wr => ∃ j : Nat, j ≤ 3 ∧ i = .int .i64 j ∧ TableAt wr p q 3 (tk j) ∧ wr.ownsRow w1.heap.size 26 2 v j (refCells (gotT j)) ∧ Mod (fun k => k = p ∨ k = q) w1 wr) (fun _ _ _ i _ => 3 - (intOf i).toNat)
  case atStart => exact ⟨0, by omega, rfl, h1, World.ownsRow_nil _ _ _ _, Mod.refl _ _⟩
  case round =>
    obtain ⟨j, hj, rfl, hT, hrow, hM⟩ := hrel
    by_cases hjl : j < 3
    · have hjI : (j : Int) < 3 := by omega
      have E := Lib.hid (tk_step j hjl)
      go_wp2_with fail
      refine (Take_any p q 3 _ _ hT).mono ?_; rintro e w2 ⟨rfl, hT2, hM2⟩
      rw [E.out] at hT2 ⊢
      have hrow2 := ownsRow_mod hrow hM2 (fun g e => by have := (hrow.lt g e).1; omega)
      have hsz := hM.size
      have hsz2 := hM2.size
      have hsA : (w2.alloc (.cells #[.int .i64 (j : Int), .int .i64 1] 26)).heap.size = w2.heap.size + 1 := by simp
      have hcell : ∀ (k : Nat) (u : Value), [Value.int .i64 (j : Int), .int .i64 1][k]? = some u → ((w2.alloc (.cells #[.int .i64 (j : Int), .int .i64 1] 26)).alloc (.cells #[.int .i64 (j : Int), .int .i64 1] 26)).cell? ((⟨w2.heap.size + 1, 0, none⟩ : Addr).add k) = some u := by
        have := cell_two (w2.alloc (.cells #[.int .i64 (j : Int), .int .i64 1] 26)) (.int .i64 (j : Int)) (.int .i64 1) 26
        rw [hsA] at this
        exact this
      go_wp2_with (at_builtin; refine wpList_append_own _ rfl _ _ 44 rfl w1.heap.size 26 i0 (.agg #[.int .i64 0, .int .i64 0]) 2 16 Try.underlying44 hi hz0 hz1 hz2 rfl (by decide) _ _ _ rfl ((hrow2.alloc _).alloc _) ⟨w2.heap.size + 1, 0, none⟩ 1 1 [.int .i64 (j : Int), .int .i64 1] rfl rfl hcell (by simp [Value.oneCell']) (by unfold maxLen; omega) (by omega) (by simp; omega) ?_; intro v' w3 hown' hgrow _)
      have hS' : ∀ k, k < w1.heap.size → (k = p ∨ k = q ∨ w1.heap.size ≤ k) → (k = p ∨ k = q) := fun k hk h => by omega
      have m1 : Mod (fun k => w1.heap.size ≤ k) w2 w3 := (((Mod.refl _ w2).alloc _).alloc _).trans ((Mod.of_grownBy hgrow).mono fun k _ hk => (hrow.lt k hk.symm).1)
      have m2 : Mod (fun k => k = p ∨ k = q ∨ w1.heap.size ≤ k) w1 w3 := ((hM.trans hM2).mono (fun k _ h => by rcases h with h | h <;> simp [h])).trans (m1.mono (fun k _ h => by simp [h]))
      refine ⟨⟨j + 1, by omega, by simp, hT2.mod m1 (by omega) (by omega), ?_, m2.mono hS'⟩, ?_⟩
      · rw [gotT, upto_succ, refCells_snoc]; exact hown'
      · simp [intOf]; omega
    · have hjI : ¬ (j : Int) < 3 := by omega
      obtain rfl : j = 3 := by omega
      have hgg := ReadsRefs.of_owns hrow
      obtain ⟨a1, k1, rfl⟩ := ownsRow_val hrow
      clear hrow
      go_wp2_with fail
      refine (Take_any p q 3 _ _ hT).mono ?_; rintro e w2 ⟨rfl, hT2, hM2⟩
      rw [show takeT (tk 3) = (tk 3, (0, 0), 4) from rfl] at hT2 ⊢
      have hT3 := hT2.below ((Below.refl _ w2).alloc (Nat.le_refl _) (.cells #[.int .i64 0, .int .i64 0] 26))
      go_wp2_with fail
      have hN : ∀ g, w1.heap.size ≤ g → ¬ (g = p ∨ g = q) := fun g hg e => by omega
      have hM3 := (hM.trans hM2).alloc (.cells #[.int .i64 0, .int .i64 0] 26)
      have hgg3 := (hgg.mod hM2 hN).below ((Below.refl _ w2).alloc (Nat.le_refl _) (.cells #[.int .i64 0, .int .i64 0] 26))
      generalize w2.alloc (.cells #[.int .i64 0, .int .i64 0] 26) = w3 at *
      refine (Give_any p q 3 _ _ _ _ hT3).mono ?_; rintro e w4 ⟨rfl, hT4, hM4⟩
      rw [show (giveT 3 (tk 3) (1, 1)).2 = 0 from rfl]
      go_wp2_with fail
      refine (Give_any p q 3 _ _ _ _ hT4).mono ?_; rintro e w5 ⟨rfl, hT5, hM5⟩
      rw [show (giveT 3 (giveT 3 (tk 3) (1, 1)).1 (0, 1)).2 = 0 from rfl]
      go_wp2_with fail
      refine (Free_any p q 3 _ _ hT5).mono ?_; rintro e w6 ⟨vf, rfl, hrf, hb6⟩
      have hT6 := hT5.below hb6
      have hM6 := ((hM3.trans hM4).trans hM5).trans (Mod.of_same hb6)
      have hrd6 := Reads.of_owns (zs := [0, 1]) hrf
      have hgg6 := ((hgg3.mod hM4 hN).mod hM5 hN).below hb6
      obtain ⟨a2, k2, rfl⟩ := ownsRow_val hrf
      have hlf : w1.heap.size ≤ w5.heap.size := by have := ((hM3.trans hM4).trans hM5).size; exact this
      have hown2 : ∀ g, (Value.slice a2 (giveT 3 (giveT 3 (tk 3) (1, 1)).1 (0, 1)).1.free.length k2).ownBlock = some g → w1.heap.size ≤ g := fun g e => by have := (hrf.lt g e).1; omega
      rw [show (giveT 3 (giveT 3 (tk 3) (1, 1)).1 (0, 1)).1.free.length = 2 from rfl] at *
      clear hrf
      go_wp2_with fail
      refine (Take_any p q 3 _ _ hT6).mono ?_; rintro e w7 ⟨rfl, hT7, hM7⟩
      rw [show (takeT (giveT 3 (giveT 3 (tk 3) (1, 1)).1 (0, 1)).1).2 = ((0, 2), 0) from rfl]
      have hT8 := hT7.below ((Below.refl _ w7).alloc (Nat.le_refl _) (.cells #[.int .i64 0, .int .i64 2] 26))
      have hM8 := (hM6.trans hM7).alloc (.cells #[.int .i64 0, .int .i64 2] 26)
      have hgg8 := (hgg6.mod hM7 hN).below ((Below.refl _ w7).alloc (Nat.le_refl _) (.cells #[.int .i64 0, .int .i64 2] 26))
      have hrd8 := (hrd6.mod hM7 (fun g e => hN g (hown2 g e))).mod (S := fun _ => False) ((Mod.refl _ w7).alloc (.cells #[.int .i64 0, .int .i64 2] 26)) (by simp)
      have x8 : RefAt (w7.alloc (.cells #[.int .i64 0, .int .i64 2] 26)) w7.heap.size (0, 2) := World.alloc_heap_new w7 _
      have hle7 : w1.heap.size ≤ w7.heap.size := (hM6.trans hM7).size
      go_wp2_with fail
      generalize w7.alloc (.cells #[.int .i64 0, .int .i64 2] 26) = w8 at *
      generalize w7.heap.size = B7 at *
      have hT8' : TableAt w8 p q 3 s7 := hT8
      clear hT8 hT7 hT6 hT5 hT4 hT3 hT2 hT hM2 hM4 hM5 hM7 hM6 hM3 hgg hgg3 hgg6 hrd6 hb6
      refine (Live_any p q 3 _ _ _ _ hT8').mono ?_; rintro e w9 ⟨rfl, hb9⟩
      rw [show liveT 3 s7 (0, 1) = false from rfl]
      have hT9 := hT8'.below hb9
      have hM9 := hM8.trans (Mod.of_same hb9)
      have hgg9 := hgg8.below hb9
      have hrd9 := hrd8.mod (S := fun _ => False) (Mod.of_same hb9) (by simp)
      have x9 : RefAt w9 B7 (0, 2) := (hb9.block _ (Array.getElem?_eq_some_iff.1 x8).1).trans x8
      have y9 := x9.c0
      have y9' := x9.c1
      go_wp2_with fail
      refine (Give_any p q 3 _ _ _ _ hT9).mono ?_; rintro e w10 ⟨rfl, hT10, hM10⟩
      rw [show (giveT 3 s7 (0, 2)).2 = 0 from rfl]
      have hT10' : TableAt w10 p q 3 s9 := hT10
      go_wp2_with fail
      refine (Counts_any p q 3 _ _ hT10').mono ?_; rintro e w11 ⟨rfl, hb11⟩
      rw [show countsT 3 s9 = (1, 1, 1) from rfl]
      have hT11 := hT10'.below hb11
      have hM11 := (hM9.trans hM10).trans (Mod.of_same hb11)
      have hgg11 := (hgg9.mod hM10 hN).below hb11
      have hrd11 := (hrd9.mod hM10 (fun g e => hN g (hown2 g e))).mod (S := fun _ => False) (Mod.of_same hb11) (by simp)
      have x10 : RefAt w10 B7 (0, 2) := hM10.heap x9 (hN _ hle7)
      have x11 : RefAt w11 B7 (0, 2) := (hb11.block _ (Array.getElem?_eq_some_iff.1 x10).1).trans x10
      go_wp2_with fail
      refine (Take_any p q 3 _ _ hT11).mono ?_; rintro e w12 ⟨rfl, hT12, hM12⟩
      rw [show (takeT s9).2 = ((1, 2), 0) from rfl]
      have hT12' : TableAt w12 p q 3 s11 := hT12
      have al := (Mod.refl (fun k => k = p ∨ k = q) w12).alloc (.cells #[.int .i64 1, .int .i64 2] 26)
      have bl := (Below.refl w12.heap.size w12).alloc (Nat.le_refl _) (.cells #[.int .i64 1, .int .i64 2] 26)
      have hT13 := hT12'.below bl
      have hM13 := (hM11.trans hM12).trans al
      have hgg13 := (hgg11.mod hM12 hN).mod al hN
      have hrd13 := ((hrd11.mod hM12 (fun g e => hN g (hown2 g e))).mod al (fun g e => hN g (hown2 g e)))
      have x12 : RefAt w12 B7 (0, 2) := hM12.heap x11 (hN _ hle7)
      have x13 : RefAt (w12.alloc (.cells #[.int .i64 1, .int .i64 2] 26)) B7 (0, 2) := al.heap x12 (hN _ hle7)
      have z13 : RefAt (w12.alloc (.cells #[.int .i64 1, .int .i64 2] 26)) w12.heap.size (1, 2) := World.alloc_heap_new w12 _
      have hle12 : w1.heap.size ≤ w12.heap.size := (hM11.trans hM12).size
      go_wp2_with fail
      generalize w12.alloc (.cells #[.int .i64 1, .int .i64 2] 26) = w13 at *
      generalize w12.heap.size = B12 at *
      clear hT9 hT10 hT10' hT11 hT12 hT12' hM9 hM10 hM11 hM12 hgg8 hgg9 hgg11 hrd8 hrd9 hrd11 x8 x9 x10 x11 x12 y9 y9' hb9 hb11 al bl hT8' hM8
      refine (Clear_any p q 3 _ _ hT13).mono ?_; rintro e w14 ⟨rfl, hT14, hM14⟩
      rw [show (refsT 3 s11).length = 2 from rfl]
      have hT14' : TableAt w14 p q 3 s13 := hT14
      have hgg14 := hgg13.mod hM14 hN
      have hrd14 := hrd13.mod hM14 (fun g e => hN g (hown2 g e))
      have x14 : RefAt w14 B7 (0, 2) := hM14.heap x13 (hN _ hle7)
      have z14 : RefAt w14 B12 (1, 2) := hM14.heap z13 (hN _ hle12)
      have hM15 := hM13.trans hM14
      clear hT13 hT14 hM13 hM14 hgg13 hrd13 x13 z13
      go_wp2_with fail
      have hB15 : Below w14.heap.size w14 (w14.alloc (.cells #[.int .i64 0, .int .i64 1, .int .i64 1, .int .i64 1, .int .i64 2, .int .i64 1] 26)) := (Below.refl _ w14).alloc (Nat.le_refl _) _
      have hl15 : ReadsRefs 0 (w14.alloc (.cells #[.int .i64 0, .int .i64 1, .int .i64 1, .int .i64 1, .int .i64 2, .int .i64 1] 26)) (.slice (some ⟨w14.heap.size, 0, none⟩) 3 3) [(0, 1), (1, 1), (2, 1)] := lit3 (World.alloc_heap_new w14 _)
      have hgg15 := (hgg14.below hB15).base
      have hrd15 := hrd14.mod (S := fun _ => False) (Mod.of_same hB15) (by simp)
      have hT15 := hT14'.below hB15
      have x15 : RefAt (w14.alloc (.cells #[.int .i64 0, .int .i64 1, .int .i64 1, .int .i64 1, .int .i64 2, .int .i64 1] 26)) B7 (0, 2) := (hB15.block _ (Array.getElem?_eq_some_iff.1 x14).1).trans x14
      have z15 : RefAt (w14.alloc (.cells #[.int .i64 0, .int .i64 1, .int .i64 1, .int .i64 1, .int .i64 2, .int .i64 1] 26)) B12 (1, 2) := (hB15.block _ (Array.getElem?_eq_some_iff.1 z14).1).trans z14
      have hM16 := hM15.trans (Mod.of_same (S := fun k => k = p ∨ k = q) hB15)
      generalize w14.alloc (.cells #[.int .i64 0, .int .i64 1, .int .i64 1, .int .i64 1, .int .i64 2, .int .i64 1] 26) = w15 at *
      generalize w14.heap.size = B14 at *
      clear hT14' hgg14 hrd14 x14 z14 hM15 hB15
      refine (EqualRefs_any 0 _ _ _ _ _ hgg15 hl15 (by decide)).mono ?_; rintro e w' ⟨rfl, m16, rfl⟩
      rw [show decide (gotT 3 = [(0, 1), (1, 1), (2, 1)]) = true from rfl]
      go_wp2_with fail
      have hB17 : Below w15.heap.size w15 ((w15.drewN m16).alloc (.cells #[.int .i64 0, .int .i64 1] 3)) := (below_drewN (Below.refl _ w15) m16).alloc (Nat.le_refl _) _
      have hl17 : Reads .i64 ((w15.drewN m16).alloc (.cells #[.int .i64 0, .int .i64 1] 3)) (.slice (some ⟨w15.heap.size, 0, none⟩) 2 2) [0, 1] := litI (W := (w15.drewN m16).alloc (.cells #[.int .i64 0, .int .i64 1] 3)) [0, 1] (by decide) (World.alloc_heap_new (w15.drewN m16) _)
      have hrd17 := hrd15.mod (S := fun _ => False) (Mod.of_same hB17) (by simp)
      have hT17 := hT15.below hB17
      have x17 : RefAt ((w15.drewN m16).alloc (.cells #[.int .i64 0, .int .i64 1] 3)) B7 (0, 2) := (hB17.block _ (Array.getElem?_eq_some_iff.1 x15).1).trans x15
      have z17 : RefAt ((w15.drewN m16).alloc (.cells #[.int .i64 0, .int .i64 1] 3)) B12 (1, 2) := (hB17.block _ (Array.getElem?_eq_some_iff.1 z15).1).trans z15
      have hM17 := hM16.trans (Mod.of_same (S := fun k => k = p ∨ k = q) hB17)
      generalize (w15.drewN m16).alloc (.cells #[.int .i64 0, .int .i64 1] 3) = w17 at *
      generalize w15.heap.size = B15 at *
      clear hT15 hgg15 hrd15 x15 z15 hM16 hB17 hl15
      refine (Equal_any _ _ _ _ _ hrd17 hl17).mono ?_; rintro e w' ⟨rfl, m18, rfl⟩
      rw [show decide (([0, 1] : List Int) = [0, 1]) = true from rfl]
      have x18 : RefAt (w17.drewN m18) B7 (0, 2) := x17
      have z18 : RefAt (w17.drewN m18) B12 (1, 2) := z17
      have u0' := x18.c0
      have u1' := x18.c1
      have u2' := z18.c0
      have u3' := z18.c1
      have hT18 : TableAt (w17.drewN m18) p q 3 s13 := hT17
      have hM18 : Mod (fun k => k = p ∨ k = q) w1 (w17.drewN m18) := ⟨hM17.os, hM17.tape, hM17.output, hM17.size, hM17.block⟩
      generalize w17.drewN m18 = w18 at *
      clear x17 z17 hT17 hM17 hl17 hrd17
      go_wp2_with fail
      refine (Free_any p q 3 _ _ hT18).mono ?_; rintro e w19 ⟨vf, rfl, hrf, hb19⟩
      have hM19 := hM18.trans (Mod.of_same hb19)
      have hrd19 := Reads.of_owns (zs := [2]) hrf
      obtain ⟨a3, k3, rfl⟩ := ownsRow_val hrf
      rw [show s13.free.length = 1 from rfl] at *
      clear hrf hT18 hM18 x18 z18 u0' u1' u2' u3'
      go_wp2_with fail
      have hl20 : Reads .i64 (w19.alloc (.cells #[.int .i64 2] 3)) (.slice (some ⟨w19.heap.size, 0, none⟩) 1 1) [2] := litI (W := w19.alloc (.cells #[.int .i64 2] 3)) [2] (by decide) (World.alloc_heap_new w19 _)
      have hrd20 := hrd19.mod (S := fun _ => False) ((Mod.refl _ w19).alloc (.cells #[.int .i64 2] 3)) (by simp)
      have hM20 := hM19.alloc (.cells #[.int .i64 2] 3)
      generalize w19.alloc (.cells #[.int .i64 2] 3) = w20 at *
      generalize w19.heap.size = B19 at *
      refine (Equal_any _ _ _ _ _ hrd20 hl20).mono ?_; rintro e w' ⟨rfl, m21, rfl⟩
      rw [show decide (([2] : List Int) = [2]) = true from rfl]
      go_wp2_with fail
      go_ret
      exact ⟨rfl, below_drewN (hB1.trans (hM20.below hB1.size (fun k hk e => by omega))) m21⟩
end Slot
end Go.Proofs.Ytpcbmckknafdgaa
