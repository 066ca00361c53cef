/- One act, done with both. -/
import Derived.Test.YtpcbmckknafdgaaSlotZ
namespace Go.Proofs.Ytpcbmckknafdgaa
open Go.RowKit Go.Shelf
set_option linter.unusedVariables false
set_option linter.unusedSimpArgs false
set_option maxRecDepth 100000
namespace Slot

theorem give_dead {n : Nat} {T : Tab} (hv : Valid n T) (r : R) : liveT n (giveT n T r).1 r = false := by
  cases hl : liveT n T r with
  | false => rw [giveT_no hl]; exact hl
  | true =>
    obtain ⟨a, b⟩ := r
    obtain ⟨k, rfl, hk, ht, hb⟩ := live_of hl
    cases hl2 : liveT n (giveT n T ((k : Int), b)).1 ((k : Int), b) with
    | false => rfl
    | true =>
      obtain ⟨j, e, hj, ht2, _⟩ := live_of hl2
      obtain rfl : k = j := by omega
      rw [giveT_yes hl] at ht2
      have ht3 : (T.taken.set k false).getD k false = true := ht2
      rw [getD_set _ _ _ _ _ (by rw [hv.lt]; exact hk), if_pos rfl] at ht3
      cases ht3

theorem mod_new {S : Nat → Prop} {a b c : World} {z : Nat} (h1 : Mod S a b) (h2 : Mod (fun k => k = z) b c) (hz : a.heap.size ≤ z) : Mod S a c :=
  ⟨h2.os.trans h1.os, h2.tape.trans h1.tape, h2.output.trans h1.output, Nat.le_trans h1.size h2.size, fun k hk hS => (h2.block k (Nat.lt_of_lt_of_le hk h1.size) (by omega)).trans (h1.block k hk hS)⟩
theorem do_results {W : World} {R : Nat} {vl vf vt : Value} {k : Int} {d : Bool} {tmps : Array Value} (h : BoxS W R vl k vf vt) (e1 : tmps[6]? = some (.pointer (some ⟨R, 0, none⟩))) (e3 : tmps[7]? = some (.bool d)) :
    (results Try.f31 tmps).run Try.prog W = .ok (.tuple #[.agg #[vl, .int .i64 k, vf, vt], .bool d]) W := by
  have c0 := h.c0
  have c1 := h.c1
  have c2 := h.c2
  have c3 := h.c3
  simp [results, Try.results31, go_sem, e1, e3, c0, c1, c2, c3]

set_option maxHeartbeats 16000000 in
theorem Do_take (base : Nat → Prop) (p q n : Nat) (T : Tab) (vl vf vt : Value) (kd at_ ra rb : Int) (hk0 : 0 ≤ kd) (hk1 : kd ≤ 255) (hkd : kd % 5 = 0 ∨ kd % 5 = 1) (w : World) (h : TableAt w p q n T) (hs : StateS base w vl vf vt n T) (hbase : ∀ g, w.heap.size ≤ g → base g) (hpq : ∀ g, base g → g ≠ p ∧ g ≠ q) :
    Calls Try.prog 31 #[.pointer (some ⟨p, 0, none⟩), .agg #[vl, .int .i64 T.most, vf, vt], .agg #[.int .u8 kd, .int .i64 at_, .int .i64 ra, .int .i64 rb]] w fun e w' =>
      ∃ vl' vf' vt' T', e = .returned (.tuple #[.agg #[vl', .int .i64 T.most, vf', vt'], .bool true]) ∧ T'.most = T.most ∧ TableAt w' p q n T' ∧ StateS base w' vl' vf' vt' n T' ∧ Mod (fun k => k = p ∨ k = q) w w' := by
  have hv := h.2.1
  have hB : Below w.heap.size w ((((w.alloc (.cells #[vl, .int .i64 T.most, vf, vt] 67)).alloc (.cells #[.int .u8 kd, .int .i64 at_, .int .i64 ra, .int .i64 rb] 28)).alloc (.cells #[.slice none 0 0, .int .i64 0, .slice none 0 0, .slice none 0 0] 67)).alloc (.cells #[.int .i64 ra, .int .i64 rb] 26)) := ((((Below.refl _ w).alloc (Nat.le_refl _) _).alloc (by simp) _).alloc (by simp; omega) _).alloc (by simp; omega) _
  have hR : BoxS ((((w.alloc (.cells #[vl, .int .i64 T.most, vf, vt] 67)).alloc (.cells #[.int .u8 kd, .int .i64 at_, .int .i64 ra, .int .i64 rb] 28)).alloc (.cells #[.slice none 0 0, .int .i64 0, .slice none 0 0, .slice none 0 0] 67)).alloc (.cells #[.int .i64 ra, .int .i64 rb] 26)) (w.heap.size + 1 + 1) (.slice none 0 0) 0 (.slice none 0 0) (.slice none 0 0) := (Below.heap_alloc _ _ _ (by simp)).trans (by have := World.alloc_heap_new ((w.alloc (.cells #[vl, .int .i64 T.most, vf, vt] 67)).alloc (.cells #[.int .u8 kd, .int .i64 at_, .int .i64 ra, .int .i64 rb] 28)) (.cells #[.slice none 0 0, .int .i64 0, .slice none 0 0, .slice none 0 0] 67); simpa using this)
  have h0 := h.below hB
  have hs0 := (hs.imp (base' := (fun g => base g ∧ g ≠ w.heap.size + 1 + 1)) (fun g hg hl => ⟨hg, by omega⟩)).below hB
  obtain ⟨r1, r2, er, hte⟩ : ∃ a b c, (takeT T).2 = ((a, b), c) := ⟨_, _, _, rfl⟩
  have HTE := Lib.hid hte
  have HTM := Lib.hid (take_most T)
  have hlt := h.lt
  clear h hs hte
  rcases hkd with hkd | hkd
  all_goals (
    go_enter Try.func31, Try.ntmps31
    go_wp2_with fail
    generalize ((((w.alloc (.cells #[vl, .int .i64 T.most, vf, vt] 67)).alloc (.cells #[.int .u8 kd, .int .i64 at_, .int .i64 ra, .int .i64 rb] 28)).alloc (.cells #[.slice none 0 0, .int .i64 0, .slice none 0 0, .slice none 0 0] 67)).alloc (.cells #[.int .i64 ra, .int .i64 rb] 26)) = x0 at *
    refine (TakeR_any (fun g => base g ∧ g ≠ w.heap.size + 1 + 1) n T _ _ _ _ hs0 hv (fun g hg => ⟨hbase g (Nat.le_trans hB.size hg), by have := hR.lt; omega⟩)).mono ?_
    rintro e w1 ⟨vl', vf', vt', rfl, hs1, hb1⟩
    rw [HTE.out]
    obtain ⟨al, cl, e⟩ := hs1.s.lives.form
    obtain ⟨af, cf, e'⟩ := hs1.s.free.form
    obtain ⟨at2, ct, e''⟩ := hs1.s.taken.form
    subst e e' e''
    dsimp only
    have bl : Below w1.heap.size w1 ((w1.alloc (.cells #[.slice al n cl, .int .i64 T.most, .slice af (takeT T).1.free.length cf, .slice at2 n ct] 67)).alloc (.cells #[.int .i64 r1, .int .i64 r2] 88)) := ((Below.refl _ w1).alloc (Nat.le_refl _) _).alloc (by simp) _
    have hN : BoxS ((w1.alloc (.cells #[.slice al n cl, .int .i64 T.most, .slice af (takeT T).1.free.length cf, .slice at2 n ct] 67)).alloc (.cells #[.int .i64 r1, .int .i64 r2] 88)) w1.heap.size (.slice al n cl) T.most (.slice af (takeT T).1.free.length cf) (.slice at2 n ct) := (Below.heap_alloc _ _ _ (by simp)).trans (World.alloc_heap_new w1 _)
    have hM : RefAtR ((w1.alloc (.cells #[.slice al n cl, .int .i64 T.most, .slice af (takeT T).1.free.length cf, .slice at2 n ct] 67)).alloc (.cells #[.int .i64 r1, .int .i64 r2] 88)) (w1.heap.size + 1) r1 r2 := by have := World.alloc_heap_new (w1.alloc (.cells #[.slice al n cl, .int .i64 T.most, .slice af (takeT T).1.free.length cf, .slice at2 n ct] 67)) (.cells #[.int .i64 r1, .int .i64 r2] 88); simpa [RefAtR] using this
    have h1 := (h0.below hb1).below bl
    have hs1' := hs1.below bl
    have hR1 : BoxS w1 (w.heap.size + 1 + 1) (.slice none 0 0) 0 (.slice none 0 0) (.slice none 0 0) := (hb1.block _ hR.lt).trans hR
    have hR2 : BoxS ((w1.alloc (.cells #[.slice al n cl, .int .i64 T.most, .slice af (takeT T).1.free.length cf, .slice at2 n ct] 67)).alloc (.cells #[.int .i64 r1, .int .i64 r2] 88)) (w.heap.size + 1 + 1) (.slice none 0 0) 0 (.slice none 0 0) (.slice none 0 0) := (bl.block _ hR1.lt).trans hR1
    have hB2 := (hB.trans (hb1.mono hB.size)).trans (bl.mono (Nat.le_trans hB.size hb1.size))
    have hz1 : w.heap.size + 1 + 1 < w1.heap.size := hR1.lt
    have hB2z := hB2.size
    clear h0 hs0 hR hR1 hB hb1 bl hs1
    go_wp2_with fail
    generalize ((w1.alloc (.cells #[.slice al n cl, .int .i64 T.most, .slice af (takeT T).1.free.length cf, .slice at2 n ct] 67)).alloc (.cells #[.int .i64 r1, .int .i64 r2] 88)) = w2 at *
    generalize w1.heap.size = BN at *
    refine (Take_any p q n T _ h1).mono ?_; rintro e w3 ⟨rfl, h3, hM3⟩
    rw [HTE.out]
    dsimp only
    have hN3 := hN.mod hM3 (by omega)
    have hNlt := hN3.lt
    have hMM3 := hM.mod hM3 (by omega)
    have hR3 := hR2.mod hM3 (by omega)
    have hRlt := hR3.lt
    have hs3 := hs1'.mod hM3 (fun g hg e => by have := hpq g hg.1; omega)
    have hMW := (Mod.of_same (S := fun k => k = p ∨ k = q) hB2).trans hM3
    have bl3 : Below w3.heap.size w3 (w3.alloc (.cells #[.int .i64 r1, .int .i64 r2] 26)) := (Below.refl _ w3).alloc (Nat.le_refl _) _
    have hG4 : RefAt (w3.alloc (.cells #[.int .i64 r1, .int .i64 r2] 26)) w3.heap.size (r1, r2) := World.alloc_heap_new w3 _
    have hN4 : BoxS (w3.alloc (.cells #[.int .i64 r1, .int .i64 r2] 26)) BN (.slice al n cl) T.most (.slice af (takeT T).1.free.length cf) (.slice at2 n ct) := (bl3.block _ hN3.lt).trans hN3
    have hMM4 : RefAtR (w3.alloc (.cells #[.int .i64 r1, .int .i64 r2] 26)) (BN + 1) r1 r2 := (bl3.block _ hMM3.lt).trans hMM3
    have hR4 : BoxS (w3.alloc (.cells #[.int .i64 r1, .int .i64 r2] 26)) (w.heap.size + 1 + 1) (.slice none 0 0) 0 (.slice none 0 0) (.slice none 0 0) := (bl3.block _ hR3.lt).trans hR3
    have h4 := h3.below bl3
    have hs4 := hs3.below bl3
    have hMW4 := hMW.alloc (.cells #[.int .i64 r1, .int .i64 r2] 26)
    clear hN hM hR2 h1 hs1' hN3 hMM3 hR3 hs3 hMW h3 hM3 bl3 hB2
    go_wp2_with fail
    have hBN : BN < w3.heap.size ∧ w.heap.size + 1 + 1 < w3.heap.size := ⟨hNlt, hRlt⟩
    generalize w3.alloc (.cells #[.int .i64 r1, .int .i64 r2] 26) = w4 at *
    generalize w3.heap.size = BG at *
    have q0 := hN4.c0
    have q1 := hN4.c1
    have q2 := hN4.c2
    have q3 := hN4.c3
    have g0 := hG4.c0
    have g1 := hG4.c1
    have m0 := hMM4.c0
    have m1 := hMM4.c1
    have f0 := hR4.frozen 0
    have f1 := hR4.frozen 1
    have f2 := hR4.frozen 2
    have f3 := hR4.frozen 3
    have c0 := hR4.c0
    have c1 := hR4.c1
    have c2 := hR4.c2
    have c3 := hR4.c3
    generalize (takeT T).1.free.length = F at *
    have hm := mod4 w4 (w.heap.size + 1 + 1) (.slice al n cl) (.int .i64 T.most) (.slice af F cf) (.slice at2 n ct)
    have g0' := hm.cell (p := ⟨BG, 0, none⟩) (by show ¬ BG = _; omega) g0
    have g1' := hm.cell (p := ⟨BG, 1, none⟩) (by show ¬ BG = _; omega) g1
    have m0' := hm.cell (p := ⟨BN + 1, 0, none⟩) (by show ¬ BN + 1 = _; omega) m0
    have m1' := hm.cell (p := ⟨BN + 1, 1, none⟩) (by show ¬ BN + 1 = _; omega) m1
    have HX := Lib.hid (hR4.set4 (al := .slice al n cl) (j := T.most) (af := .slice af F cf) (at_ := .slice at2 n ct)).drew
    have hz0 := hB2z
    have HM := Lib.hid (Mod.drew hm)
    have H4 := Lib.hid (TableAt.mod h4 (Mod.drew hm) (by omega) (by omega))
    have HS := Lib.hid ((hs4.mod (Mod.drew hm) (fun g hg => hg.2)).imp (base' := base) (fun g hg _ => hg.1))
    have HMW := Lib.hid hMW4
    clear hN4 hG4 hMM4 hR4 h4 hs4 hMW4 hm hBN
    have k1 : (r1 == r1) = true := by simp
    have k2 : (r2 == r2) = true := by simp
    have k3 : (er == er) = true := by simp
    go_region
    generalize ((((w4.setCell ⟨w.heap.size + 1 + 1, 0, none⟩ (.slice al n cl)).setCell ⟨w.heap.size + 1 + 1, 1, none⟩ (.int .i64 T.most)).setCell ⟨w.heap.size + 1 + 1, 2, none⟩ (.slice af F cf)).setCell ⟨w.heap.size + 1 + 1, 3, none⟩ (.slice at2 n ct)).drew = Y at *
    clear q0 q1 q2 q3 g0 g1 m0 m1 f0 f1 f2 f3 c0 c1 c2 c3 g0' g1' m0' m1' k1 k2 k3
    go_wp2_with fail
    refine bodyPost_ret (v := .tuple #[.agg #[.slice al n cl, .int .i64 T.most, .slice af F cf, .slice at2 n ct], .bool true]) (do_results HX.out rfl rfl) rfl ?_
    exact ⟨_, _, _, _, rfl, HTM.out, H4.out, HS.out, mod_new HMW.out HM.out (by omega)⟩)

set_option maxHeartbeats 16000000 in
theorem Do_look (base : Nat → Prop) (p q n : Nat) (T : Tab) (vl vf vt : Value) (kd at_ ra rb : Int) (hk0 : 0 ≤ kd) (hk1 : kd ≤ 255) (hkd : kd % 5 = 4) (hat : at_ ≠ 0) (w : World) (h : TableAt w p q n T) (hs : StateS base w vl vf vt n T) (hbase : ∀ g, w.heap.size ≤ g → base g) (hpq : ∀ g, base g → g ≠ p ∧ g ≠ q) :
    Calls Try.prog 31 #[.pointer (some ⟨p, 0, none⟩), .agg #[vl, .int .i64 T.most, vf, vt], .agg #[.int .u8 kd, .int .i64 at_, .int .i64 ra, .int .i64 rb]] w fun e w' =>
      ∃ vl' vf' vt' T', e = .returned (.tuple #[.agg #[vl', .int .i64 T.most, vf', vt'], .bool true]) ∧ T'.most = T.most ∧ TableAt w' p q n T' ∧ StateS base w' vl' vf' vt' n T' ∧ Mod (fun k => k = p ∨ k = q) w w' := by
  have hv := h.2.1
  have hB : Below w.heap.size w ((((w.alloc (.cells #[vl, .int .i64 T.most, vf, vt] 67)).alloc (.cells #[.int .u8 kd, .int .i64 at_, .int .i64 ra, .int .i64 rb] 28)).alloc (.cells #[.slice none 0 0, .int .i64 0, .slice none 0 0, .slice none 0 0] 67)).alloc (.cells #[.int .i64 ra, .int .i64 rb] 26)) := ((((Below.refl _ w).alloc (Nat.le_refl _) _).alloc (by simp) _).alloc (by simp; omega) _).alloc (by simp; omega) _
  have hS : BoxS ((((w.alloc (.cells #[vl, .int .i64 T.most, vf, vt] 67)).alloc (.cells #[.int .u8 kd, .int .i64 at_, .int .i64 ra, .int .i64 rb] 28)).alloc (.cells #[.slice none 0 0, .int .i64 0, .slice none 0 0, .slice none 0 0] 67)).alloc (.cells #[.int .i64 ra, .int .i64 rb] 26)) w.heap.size vl T.most vf vt := ((Below.trans (Below.trans ((Below.refl _ (w.alloc (.cells #[vl, .int .i64 T.most, vf, vt] 67))).alloc (Nat.le_refl _) _) (((Below.refl _ _).alloc (Nat.le_refl _) _).mono (by simp))) (((Below.refl _ _).alloc (Nat.le_refl _) _).mono (by simp))).block _ (by simp)).trans (World.alloc_heap_new w _)
  have hR : BoxS ((((w.alloc (.cells #[vl, .int .i64 T.most, vf, vt] 67)).alloc (.cells #[.int .u8 kd, .int .i64 at_, .int .i64 ra, .int .i64 rb] 28)).alloc (.cells #[.slice none 0 0, .int .i64 0, .slice none 0 0, .slice none 0 0] 67)).alloc (.cells #[.int .i64 ra, .int .i64 rb] 26)) (w.heap.size + 1 + 1) (.slice none 0 0) 0 (.slice none 0 0) (.slice none 0 0) := (Below.heap_alloc _ _ _ (by simp)).trans (by have := World.alloc_heap_new ((w.alloc (.cells #[vl, .int .i64 T.most, vf, vt] 67)).alloc (.cells #[.int .u8 kd, .int .i64 at_, .int .i64 ra, .int .i64 rb] 28)) (.cells #[.slice none 0 0, .int .i64 0, .slice none 0 0, .slice none 0 0] 67); simpa using this)
  have hA : ((((w.alloc (.cells #[vl, .int .i64 T.most, vf, vt] 67)).alloc (.cells #[.int .u8 kd, .int .i64 at_, .int .i64 ra, .int .i64 rb] 28)).alloc (.cells #[.slice none 0 0, .int .i64 0, .slice none 0 0, .slice none 0 0] 67)).alloc (.cells #[.int .i64 ra, .int .i64 rb] 26)).heap[w.heap.size + 1]? = some (.cells #[.int .u8 kd, .int .i64 at_, .int .i64 ra, .int .i64 rb] 28 (0, 0)) := ((Below.trans ((Below.refl _ ((w.alloc (.cells #[vl, .int .i64 T.most, vf, vt] 67)).alloc (.cells #[.int .u8 kd, .int .i64 at_, .int .i64 ra, .int .i64 rb] 28))).alloc (Nat.le_refl _) _) (((Below.refl _ _).alloc (Nat.le_refl _) _).mono (by simp))).block _ (by simp)).trans (by have := World.alloc_heap_new (w.alloc (.cells #[vl, .int .i64 T.most, vf, vt] 67)) (.cells #[.int .u8 kd, .int .i64 at_, .int .i64 ra, .int .i64 rb] 28); simpa using this)
  have hF : RefAt ((((w.alloc (.cells #[vl, .int .i64 T.most, vf, vt] 67)).alloc (.cells #[.int .u8 kd, .int .i64 at_, .int .i64 ra, .int .i64 rb] 28)).alloc (.cells #[.slice none 0 0, .int .i64 0, .slice none 0 0, .slice none 0 0] 67)).alloc (.cells #[.int .i64 ra, .int .i64 rb] 26)) (w.heap.size + 1 + 1 + 1) (ra, rb) := by have := World.alloc_heap_new (((w.alloc (.cells #[vl, .int .i64 T.most, vf, vt] 67)).alloc (.cells #[.int .u8 kd, .int .i64 at_, .int .i64 ra, .int .i64 rb] 28)).alloc (.cells #[.slice none 0 0, .int .i64 0, .slice none 0 0, .slice none 0 0] 67)) (.cells #[.int .i64 ra, .int .i64 rb] 26); simpa [RefAt] using this
  have hsz0 : ((((w.alloc (.cells #[vl, .int .i64 T.most, vf, vt] 67)).alloc (.cells #[.int .u8 kd, .int .i64 at_, .int .i64 ra, .int .i64 rb] 28)).alloc (.cells #[.slice none 0 0, .int .i64 0, .slice none 0 0, .slice none 0 0] 67)).alloc (.cells #[.int .i64 ra, .int .i64 rb] 26)).heap.size = w.heap.size + 1 + 1 + 1 + 1 := by simp
  have h0 := h.below hB
  have hs0 := (hs.imp (base' := (fun g => base g ∧ g ≠ w.heap.size + 1 + 1)) (fun g hg hl => ⟨hg, by omega⟩)).below hB
  have hlt := h.lt
  obtain ⟨al, cl, e⟩ := hs.s.lives.form
  obtain ⟨af, cf, e'⟩ := hs.s.free.form
  obtain ⟨at2, ct, e''⟩ := hs.s.taken.form
  subst e e' e''
  generalize T.free.length = F at *
  clear h hs
  have hd : (at_ != 0) = true := by simpa using hat
  obtain ⟨la, lb, hlk⟩ : ∃ a b, lookT n T at_ = (a, b) := ⟨_, _, rfl⟩
  have HLK := Lib.hid hlk
  clear hlk
  go_enter Try.func31, Try.ntmps31
  go_wp2_with fail
  generalize ((((w.alloc (.cells #[.slice al n cl, .int .i64 T.most, .slice af F cf, .slice at2 n ct] 67)).alloc (.cells #[.int .u8 kd, .int .i64 at_, .int .i64 ra, .int .i64 rb] 28)).alloc (.cells #[.slice none 0 0, .int .i64 0, .slice none 0 0, .slice none 0 0] 67)).alloc (.cells #[.int .i64 ra, .int .i64 rb] 26)) = x0 at *
  refine (Look_any p q n T at_ _ h0).mono ?_; rintro e w' ⟨rfl, m1, rfl⟩
  rw [HLK.out]
  dsimp only
  have md : Mod (fun _ => False) x0 (x0.drewN m1) := ⟨rfl, rfl, rfl, Nat.le_refl _, fun _ _ _ => rfl⟩
  have h1 := h0.mod md (by simp) (by simp)
  have hs1 := hs0.mod md (by simp)
  have hS1 := hS.mod md (by simp)
  have hR1 := hR.mod md (by simp)
  have hA1 := md.heap hA (by simp)
  have hB1 := hB.trans (md.below hB.size (by simp))
  clear md h0 hs0 hS hR hF hA hB
  generalize x0.drewN m1 = w1 at *
  have q0 := hS1.c0
  have q1 := hS1.c1
  have q2 := hS1.c2
  have q3 := hS1.c3
  have a1 : w1.cell? ⟨w.heap.size + 1, 1, none⟩ = some (.int .i64 at_) := by simp only [World.cell?, hA1]; rfl
  go_wp2_with fail
  refine (LookR_any _ n T _ _ _ at_ _ hs1.s hv).mono ?_; rintro e w2 ⟨rfl, hb2⟩
  rw [HLK.out]
  dsimp only
  have h2 := h1.below hb2
  have hs2 := hs1.below hb2
  have hS2 : BoxS w2 w.heap.size (.slice al n cl) T.most (.slice af F cf) (.slice at2 n ct) := (hb2.block _ hS1.lt).trans hS1
  have hR2 : BoxS w2 (w.heap.size + 1 + 1) (.slice none 0 0) 0 (.slice none 0 0) (.slice none 0 0) := (hb2.block _ hR1.lt).trans hR1
  have hB2 := hB1.trans (hb2.mono hB1.size)
  clear q0 q1 q2 q3 a1 h1 hs1 hS1 hR1 hA1 hB1 hb2
  have q0 := BoxS.c0 hS2
  have q1 := BoxS.c1 hS2
  have q2 := BoxS.c2 hS2
  have q3 := BoxS.c3 hS2
  have f0 := BoxS.frozen hR2 0
  have f1 := BoxS.frozen hR2 1
  have f2 := BoxS.frozen hR2 2
  have f3 := BoxS.frozen hR2 3
  have c0 := BoxS.c0 hR2
  have c1 := BoxS.c1 hR2
  have c2 := BoxS.c2 hR2
  have c3 := BoxS.c3 hR2
  have hm := mod4 w2 (w.heap.size + 1 + 1) (.slice al n cl) (.int .i64 T.most) (.slice af F cf) (.slice at2 n ct)
  have HX := Lib.hid (BoxS.set4 hR2 (al := .slice al n cl) (j := T.most) (af := .slice af F cf) (at_ := .slice at2 n ct))
  have H4 := Lib.hid (TableAt.mod h2 hm (by omega) (by omega))
  have HS := Lib.hid ((hs2.mod hm (fun g hg => hg.2)).imp (base' := base) (fun g hg _ => hg.1))
  have HM := Lib.hid hm
  have HB := Lib.hid hB2
  have k1 : (la == la) = true := by simp
  have k2 : (lb == lb) = true := by simp
  clear h2 hs2 hS2 hR2 hB2 hm
  go_wp2_with fail
  refine bodyPost_ret (v := .tuple #[.agg #[.slice al n cl, .int .i64 T.most, .slice af F cf, .slice at2 n ct], .bool true]) (do_results HX.out rfl rfl) rfl ?_
  exact ⟨_, _, _, T, rfl, rfl, H4.out, HS.out, mod_new (Mod.of_same HB.out) HM.out (by omega)⟩

set_option maxHeartbeats 16000000 in
theorem Do_clear (base : Nat → Prop) (p q n : Nat) (T : Tab) (vl vf vt : Value) (kd ra rb : Int) (hk0 : 0 ≤ kd) (hk1 : kd ≤ 255) (hkd : kd % 5 = 4) (w : World) (h : TableAt w p q n T) (hs : StateS base w vl vf vt n T) (hbase : ∀ g, w.heap.size ≤ g → base g) (hpq : ∀ g, base g → g ≠ p ∧ g ≠ q) :
    Calls Try.prog 31 #[.pointer (some ⟨p, 0, none⟩), .agg #[vl, .int .i64 T.most, vf, vt], .agg #[.int .u8 kd, .int .i64 0, .int .i64 ra, .int .i64 rb]] w fun e w' =>
      ∃ vl' vf' vt' T', e = .returned (.tuple #[.agg #[vl', .int .i64 T.most, vf', vt'], .bool true]) ∧ T'.most = T.most ∧ TableAt w' p q n T' ∧ StateS base w' vl' vf' vt' n T' ∧ Mod (fun k => k = p ∨ k = q) w w' := by
  have hv := h.2.1
  have hB : Below w.heap.size w ((((w.alloc (.cells #[vl, .int .i64 T.most, vf, vt] 67)).alloc (.cells #[.int .u8 kd, .int .i64 0, .int .i64 ra, .int .i64 rb] 28)).alloc (.cells #[.slice none 0 0, .int .i64 0, .slice none 0 0, .slice none 0 0] 67)).alloc (.cells #[.int .i64 ra, .int .i64 rb] 26)) := ((((Below.refl _ w).alloc (Nat.le_refl _) _).alloc (by simp) _).alloc (by simp; omega) _).alloc (by simp; omega) _
  have hS : BoxS ((((w.alloc (.cells #[vl, .int .i64 T.most, vf, vt] 67)).alloc (.cells #[.int .u8 kd, .int .i64 0, .int .i64 ra, .int .i64 rb] 28)).alloc (.cells #[.slice none 0 0, .int .i64 0, .slice none 0 0, .slice none 0 0] 67)).alloc (.cells #[.int .i64 ra, .int .i64 rb] 26)) w.heap.size vl T.most vf vt := ((Below.trans (Below.trans ((Below.refl _ (w.alloc (.cells #[vl, .int .i64 T.most, vf, vt] 67))).alloc (Nat.le_refl _) _) (((Below.refl _ _).alloc (Nat.le_refl _) _).mono (by simp))) (((Below.refl _ _).alloc (Nat.le_refl _) _).mono (by simp))).block _ (by simp)).trans (World.alloc_heap_new w _)
  have hR : BoxS ((((w.alloc (.cells #[vl, .int .i64 T.most, vf, vt] 67)).alloc (.cells #[.int .u8 kd, .int .i64 0, .int .i64 ra, .int .i64 rb] 28)).alloc (.cells #[.slice none 0 0, .int .i64 0, .slice none 0 0, .slice none 0 0] 67)).alloc (.cells #[.int .i64 ra, .int .i64 rb] 26)) (w.heap.size + 1 + 1) (.slice none 0 0) 0 (.slice none 0 0) (.slice none 0 0) := (Below.heap_alloc _ _ _ (by simp)).trans (by have := World.alloc_heap_new ((w.alloc (.cells #[vl, .int .i64 T.most, vf, vt] 67)).alloc (.cells #[.int .u8 kd, .int .i64 0, .int .i64 ra, .int .i64 rb] 28)) (.cells #[.slice none 0 0, .int .i64 0, .slice none 0 0, .slice none 0 0] 67); simpa using this)
  have hA : ((((w.alloc (.cells #[vl, .int .i64 T.most, vf, vt] 67)).alloc (.cells #[.int .u8 kd, .int .i64 0, .int .i64 ra, .int .i64 rb] 28)).alloc (.cells #[.slice none 0 0, .int .i64 0, .slice none 0 0, .slice none 0 0] 67)).alloc (.cells #[.int .i64 ra, .int .i64 rb] 26)).heap[w.heap.size + 1]? = some (.cells #[.int .u8 kd, .int .i64 0, .int .i64 ra, .int .i64 rb] 28 (0, 0)) := ((Below.trans ((Below.refl _ ((w.alloc (.cells #[vl, .int .i64 T.most, vf, vt] 67)).alloc (.cells #[.int .u8 kd, .int .i64 0, .int .i64 ra, .int .i64 rb] 28))).alloc (Nat.le_refl _) _) (((Below.refl _ _).alloc (Nat.le_refl _) _).mono (by simp))).block _ (by simp)).trans (by have := World.alloc_heap_new (w.alloc (.cells #[vl, .int .i64 T.most, vf, vt] 67)) (.cells #[.int .u8 kd, .int .i64 0, .int .i64 ra, .int .i64 rb] 28); simpa using this)
  have hF : RefAt ((((w.alloc (.cells #[vl, .int .i64 T.most, vf, vt] 67)).alloc (.cells #[.int .u8 kd, .int .i64 0, .int .i64 ra, .int .i64 rb] 28)).alloc (.cells #[.slice none 0 0, .int .i64 0, .slice none 0 0, .slice none 0 0] 67)).alloc (.cells #[.int .i64 ra, .int .i64 rb] 26)) (w.heap.size + 1 + 1 + 1) (ra, rb) := by have := World.alloc_heap_new (((w.alloc (.cells #[vl, .int .i64 T.most, vf, vt] 67)).alloc (.cells #[.int .u8 kd, .int .i64 0, .int .i64 ra, .int .i64 rb] 28)).alloc (.cells #[.slice none 0 0, .int .i64 0, .slice none 0 0, .slice none 0 0] 67)) (.cells #[.int .i64 ra, .int .i64 rb] 26); simpa [RefAt] using this
  have hsz0 : ((((w.alloc (.cells #[vl, .int .i64 T.most, vf, vt] 67)).alloc (.cells #[.int .u8 kd, .int .i64 0, .int .i64 ra, .int .i64 rb] 28)).alloc (.cells #[.slice none 0 0, .int .i64 0, .slice none 0 0, .slice none 0 0] 67)).alloc (.cells #[.int .i64 ra, .int .i64 rb] 26)).heap.size = w.heap.size + 1 + 1 + 1 + 1 := by simp
  have h0 := h.below hB
  have hs0 := (hs.imp (base' := (fun g => base g ∧ g ≠ w.heap.size + 1 + 1)) (fun g hg hl => ⟨hg, by omega⟩)).below hB
  have hlt := h.lt
  obtain ⟨al, cl, e⟩ := hs.s.lives.form
  obtain ⟨af, cf, e'⟩ := hs.s.free.form
  obtain ⟨at2, ct, e''⟩ := hs.s.taken.form
  subst e e' e''
  generalize T.free.length = F at *
  clear h hs
  have hrl := refs_le n T
  have hnn := hv.n
  obtain ⟨T2, hT2⟩ : ∃ T2, T2 = clearT n T := ⟨_, rfl⟩
  have hmo2 : T2.most = T.most := by rw [hT2]; exact (giveAll_valid _ T hv).2
  obtain ⟨L, hL⟩ : ∃ L, L = (refsT n T).length := ⟨_, rfl⟩
  have HT2 := Lib.hid hT2
  have HL := Lib.hid hL
  rw [← hL] at hrl
  clear hT2 hL
  go_enter Try.func31, Try.ntmps31
  go_wp2_with fail
  generalize ((((w.alloc (.cells #[.slice al n cl, .int .i64 T.most, .slice af F cf, .slice at2 n ct] 67)).alloc (.cells #[.int .u8 kd, .int .i64 0, .int .i64 ra, .int .i64 rb] 28)).alloc (.cells #[.slice none 0 0, .int .i64 0, .slice none 0 0, .slice none 0 0] 67)).alloc (.cells #[.int .i64 ra, .int .i64 rb] 26)) = x0 at *
  refine (ClearR_any (fun g => base g ∧ g ≠ w.heap.size + 1 + 1) n T _ _ _ _ hs0 hv (fun g hg => ⟨hbase g (by omega), by omega⟩)).mono ?_
  rintro e w1 ⟨ul, uf, ut, rfl, hs1, hb1⟩
  rw [← HT2.out] at hs1
  rw [← HL.out]
  obtain ⟨al2, cl2, e⟩ := hs1.s.lives.form
  obtain ⟨af2, cf2, e'⟩ := hs1.s.free.form
  obtain ⟨at3, ct2, e''⟩ := hs1.s.taken.form
  subst e e' e''
  generalize T2.free.length = F2 at *
  have bl : Below w1.heap.size w1 (w1.alloc (.cells #[.slice al2 n cl2, .int .i64 T.most, .slice af2 F2 cf2, .slice at3 n ct2] 67)) := (Below.refl _ w1).alloc (Nat.le_refl _) _
  have hN : BoxS (w1.alloc (.cells #[.slice al2 n cl2, .int .i64 T.most, .slice af2 F2 cf2, .slice at3 n ct2] 67)) w1.heap.size (.slice al2 n cl2) T.most (.slice af2 F2 cf2) (.slice at3 n ct2) := World.alloc_heap_new w1 _
  have h1 := (h0.below hb1).below bl
  have hs1' := hs1.below bl
  have hR1 : BoxS w1 (w.heap.size + 1 + 1) (.slice none 0 0) 0 (.slice none 0 0) (.slice none 0 0) := (hb1.block _ hR.lt).trans hR
  have hR2 : BoxS (w1.alloc (.cells #[.slice al2 n cl2, .int .i64 T.most, .slice af2 F2 cf2, .slice at3 n ct2] 67)) (w.heap.size + 1 + 1) (.slice none 0 0) 0 (.slice none 0 0) (.slice none 0 0) := (bl.block _ hR1.lt).trans hR1
  have hB2 := (hB.trans (hb1.mono hB.size)).trans (bl.mono (Nat.le_trans hB.size hb1.size))
  have hz1 : w.heap.size + 1 + 1 < w1.heap.size := hR1.lt
  clear h0 hs0 hS hR hA hF hR1 hB hb1 bl hs1
  go_wp2_with fail
  generalize (w1.alloc (.cells #[.slice al2 n cl2, .int .i64 T.most, .slice af2 F2 cf2, .slice at3 n ct2] 67)) = w2 at *
  generalize w1.heap.size = BN at *
  refine (Clear_any p q n T _ h1).mono ?_; rintro e w3 ⟨rfl, h3, hM3⟩
  rw [← HT2.out] at h3
  rw [← HL.out]
  have hN3 := hN.mod hM3 (by omega)
  have hR3 := hR2.mod hM3 (by omega)
  have hs3 := hs1'.mod hM3 (fun g hg e => by have := hpq g hg.1; omega)
  have hMW := (Mod.of_same (S := fun k => k = p ∨ k = q) hB2).trans hM3
  have q0 := hN3.c0
  have q1 := hN3.c1
  have q2 := hN3.c2
  have q3 := hN3.c3
  have f0 := BoxS.frozen hR3 0
  have f1 := BoxS.frozen hR3 1
  have f2 := BoxS.frozen hR3 2
  have f3 := BoxS.frozen hR3 3
  have c0 := BoxS.c0 hR3
  have c1 := BoxS.c1 hR3
  have c2 := BoxS.c2 hR3
  have c3 := BoxS.c3 hR3
  have hm := mod4 w3 (w.heap.size + 1 + 1) (.slice al2 n cl2) (.int .i64 T.most) (.slice af2 F2 cf2) (.slice at3 n ct2)
  have HX := Lib.hid (BoxS.set4 hR3 (al := .slice al2 n cl2) (j := T.most) (af := .slice af2 F2 cf2) (at_ := .slice at3 n ct2))
  have H4 := Lib.hid (TableAt.mod h3 hm (by omega) (by omega))
  have HS := Lib.hid ((hs3.mod hm (fun g hg => hg.2)).imp (base' := base) (fun g hg _ => hg.1))
  have HM := Lib.hid hm
  have HMW := Lib.hid hMW
  have k1 : ((L : Int) == (L : Int)) = true := by simp
  clear hN hR2 h1 hs1' hN3 hR3 hs3 hMW h3 hM3 hB2 hm
  go_wp2_with fail
  refine bodyPost_ret (v := .tuple #[.agg #[.slice al2 n cl2, .int .i64 T.most, .slice af2 F2 cf2, .slice at3 n ct2], .bool true]) (do_results HX.out rfl rfl) rfl ?_
  exact ⟨_, _, _, T2, rfl, hmo2, H4.out, HS.out, mod_new HMW.out HM.out (by omega)⟩
end Slot
end Go.Proofs.Ytpcbmckknafdgaa
