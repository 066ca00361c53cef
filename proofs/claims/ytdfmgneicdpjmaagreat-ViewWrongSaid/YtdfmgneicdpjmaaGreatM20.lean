import Derived.Test.YtdfmgneicdpjmaaGreatM19
import Derived.BigQuiet
import Derived.Test.YtdfmgneicdpjmaaGreatM18
/- request.Same. -/
namespace Go.Proofs.YtdfmgneicdpjmaaGreat
open Go.RowKit Go.Shelf
attribute [local go_sem] Oper.semAt_some
set_option linter.unusedVariables false
set_option linter.unusedSimpArgs false
set_option maxRecDepth 100000
namespace Eng
open Resp App

theorem idx_nil (B tag : Nat) (h : tag < 12) (h3 : ¬ (3 ≤ tag ∧ tag ≤ 9)) (w : World) : (Instr.index 307 (numsV B) (.int .i64 (tag : Int))).run Tryz.prog w = .ok (.pointer none) w := by
  have hk : tag = 0 ∨ tag = 1 ∨ tag = 2 ∨ tag = 10 ∨ tag = 11 := by omega
  rcases hk with rfl | rfl | rfl | rfl | rfl <;> (with_unfolding_all exact rfl)
theorem numsC_nil (B k : Nat) (h : k < 12) (h3 : ¬ (3 ≤ k ∧ k ≤ 9)) {W : World} {ba : Nat} (hh : W.heap[ba]? = some (.cells (numsC B) 307)) : W.cell? ⟨ba, k, none⟩ = some (.pointer none) := by
  have hk : k = 0 ∨ k = 1 ∨ k = 2 ∨ k = 10 ∨ k = 11 := by omega
  rcases hk with rfl | rfl | rfl | rfl | rfl <;> simp [World.cell?, hh, numsC]
/-- All that is compared but the numbers. -/
def headE (r s : Rq) (z1 z2 : ByteArray) : Prop := z1 = z2 ∧ r.kind = s.kind ∧ r.what = s.what ∧ r.name = s.name ∧ r.value = s.value
instance (r s : Rq) (z1 z2 : ByteArray) : Decidable (headE r s z1 z2) := by unfold headE; infer_instance
def numsE (r s : Rq) : Prop := ∀ k : Nat, 3 ≤ k → k ≤ 9 → getN r (k : Int) = getN s (k : Int)
theorem numsE_iff (r s : Rq) : numsE r s ↔ r.process = s.process ∧ r.handle = s.handle ∧ r.holder = s.holder ∧ r.rights = s.rights ∧ r.time = s.time ∧ r.source = s.source ∧ r.seq = s.seq := by
  constructor
  · intro h
    exact ⟨h 3 (by omega) (by omega), h 4 (by omega) (by omega), h 5 (by omega) (by omega), h 6 (by omega) (by omega), h 7 (by omega) (by omega), h 8 (by omega) (by omega), h 9 (by omega) (by omega)⟩
  · rintro ⟨h3, h4, h5, h6, h7, h8, h9⟩ k hk3 hk9
    have hk : k = 3 ∨ k = 4 ∨ k = 5 ∨ k = 6 ∨ k = 7 ∨ k = 8 ∨ k = 9 := by omega
    rcases hk with rfl | rfl | rfl | rfl | rfl | rfl | rfl <;> assumption
/-- What lies there while Same goes round. -/
structure SmC (W0 : World) (PB RB : Nat) (r s : Rq) (v1 v2 : Value) (w : World) : Prop where
  p : w.heap[PB]? = some (.cells (numsC RB) 307)
  q : w.heap[PB + 1]? = some (.cells (numsC (RB + 1)) 307)
  r : RqAt w RB r v1
  s : RqAt w (RB + 1) s v2
  b : Below W0.heap.size W0 w
theorem SmC.drewN {W0 : World} {PB RB : Nat} {r s : Rq} {v1 v2 : Value} {w : World} (h : SmC W0 PB RB r s v1 v2 w) (n : Nat) : SmC W0 PB RB r s v1 v2 (w.drewN n) :=
  ⟨h.p, h.q, h.r, h.s, h.b.trans ⟨rfl, rfl, rfl, Nat.le_refl _, fun _ _ => rfl⟩⟩
/-- What Same says. -/
def SameP (r s : Rq) (z1 z2 : ByteArray) (w : World) (e : Ending) (w' : World) : Prop := ∃ b : Bool, e = .returned (.bool b) ∧ (b = true ↔ headE r s z1 z2 ∧ numsE r s) ∧ Below w.heap.size w w'
set_option maxHeartbeats 4000000 in
theorem Same_any (r s : Rq) (fv gv : Value) (z1 z2 : ByteArray) (W : World) (hf : StrAt W fv z1) (hg : StrAt W gv z2) :
    Calls Tryz.prog 194 #[.agg (rqC r fv), .agg (rqC s gv)] W (SameP r s z1 z2 W) := by
  obtain ⟨a1, c1, rfl⟩ := hf.form
  obtain ⟨a2, c2, rfl⟩ := hg.form
  have HF := Lib.hid hf
  have HG := Lib.hid hg
  clear hf hg
  unfold rqC
  go_enter Tryz.func194, Tryz.ntmps194
  go_wp2_with fail
  have hs1 : (W.alloc (.cells (rqC r (.slice a1 z1.size c1)) 165)).heap.size = W.heap.size + 1 := alloc_size_ _ _
  have HR : Hid (RqAt ((W.alloc (.cells (rqC r (.slice a1 z1.size c1)) 165)).alloc (.cells (rqC s (.slice a2 z2.size c2)) 165)) W.heap.size r (.slice a1 z1.size c1)) :=
    ((Mod.refl (fun _ => False) _).alloc _).heap (World.alloc_heap_new W _) (fun h => h)
  have HS : Hid (RqAt ((W.alloc (.cells (rqC r (.slice a1 z1.size c1)) 165)).alloc (.cells (rqC s (.slice a2 z2.size c2)) 165)) (W.heap.size + 1) s (.slice a2 z2.size c2)) := by
    have := World.alloc_heap_new (W.alloc (.cells (rqC r (.slice a1 z1.size c1)) 165)) (.cells (rqC s (.slice a2 z2.size c2)) 165)
    rw [hs1] at this
    exact this
  have hb : Below W.heap.size W ((W.alloc (.cells (rqC r (.slice a1 z1.size c1)) 165)).alloc (.cells (rqC s (.slice a2 z2.size c2)) 165)) := ((Below.refl _ _).alloc (Nat.le_refl _) _).alloc (by omega) _
  have HB := Lib.hid hb
  replace HF := Lib.hid (HF.out.mod (S := fun _ => False) (Mod.of_same hb) (fun _ h => h))
  replace HG := Lib.hid (HG.out.mod (S := fun _ => False) (Mod.of_same hb) (fun _ h => h))
  unfold rqC at HR HS HF HG HB
  clear hb hs1
  generalize (W.alloc (.cells #[.int .u8 r.kind, .int .u8 r.what, .string r.name, .int .i64 r.process, .int .i64 r.handle, .int .i64 r.holder, .int .i64 r.rights, .int .i64 r.time, .int .i64 r.source, .int .i64 r.seq, .int .i64 r.value, .slice a1 z1.size c1] 165)).alloc (.cells #[.int .u8 s.kind, .int .u8 s.what, .string s.name, .int .i64 s.process, .int .i64 s.handle, .int .i64 s.holder, .int .i64 s.rights, .int .i64 s.time, .int .i64 s.source, .int .i64 s.seq, .int .i64 s.value, .slice a2 z2.size c2] 165) = W1 at *
  refine (EqualB_any _ _ z1 z2 _ HF.out HG.out).mono ?_; rintro e _ ⟨rfl, rfl⟩
  obtain ⟨r0, r1, r2, -, -, -, -, -, -, -, r10, -⟩ := HR.out.cells
  obtain ⟨s0, s1, s2, -, -, -, -, -, -, -, s10, -⟩ := HS.out.cells
  by_cases hh : headE r s z1 z2
  · have HH := Lib.hid hh
    obtain ⟨e1, e2, e3, e4, e5⟩ := hh
    rw [e2] at r0
    rw [e3] at r1
    rw [e4] at r2
    rw [e5] at r10
    rw [decide_eq_true e1]
    clear e1 e2 e3 e4 e5
    go_wp2_with fail
    refine (numbers_any _ _).mono ?_; rintro e w2 ⟨rfl, hb2⟩
    have HR2 := Lib.hid (HR.out.below hb2)
    have HS2 := Lib.hid (HS.out.below hb2)
    have HB2 := Lib.hid (HB.out.trans (hb2.mono HB.out.size))
    clear hb2
    go_wp2_with fail
    refine (numbers_any _ _).mono ?_; rintro e w3 ⟨rfl, hb3⟩
    have HR3 := Lib.hid (HR2.out.below hb3)
    have HS3 := Lib.hid (HS2.out.below hb3)
    have HB3 := Lib.hid (HB2.out.trans (hb3.mono HB2.out.size))
    clear hb3 HR2 HS2 HB2 HR HS HB r0 r1 r2 r10 s0 s1 s2 s10
    unfold numsV
    go_wp2_with fail
    have hm4 : Mod (fun _ => False) w3 ((w3.alloc (.cells (numsC W.heap.size) 307)).alloc (.cells (numsC (W.heap.size + 1)) 307)) := ((Mod.refl _ _).alloc _).alloc _
    have HP4 : Hid (((w3.alloc (.cells (numsC W.heap.size) 307)).alloc (.cells (numsC (W.heap.size + 1)) 307)).heap[w3.heap.size]? = some (.cells (numsC W.heap.size) 307)) := ((Mod.refl (fun _ => False) _).alloc _).heap (World.alloc_heap_new w3 _) (fun h => h)
    have HQ4 : Hid (((w3.alloc (.cells (numsC W.heap.size) 307)).alloc (.cells (numsC (W.heap.size + 1)) 307)).heap[w3.heap.size + 1]? = some (.cells (numsC (W.heap.size + 1)) 307)) := by
      have := World.alloc_heap_new (w3.alloc (.cells (numsC W.heap.size) 307)) (.cells (numsC (W.heap.size + 1)) 307)
      rw [alloc_size_] at this
      exact this
    have HR4 : Hid (RqAt ((w3.alloc (.cells (numsC W.heap.size) 307)).alloc (.cells (numsC (W.heap.size + 1)) 307)) W.heap.size r (.slice a1 z1.size c1)) := hm4.heap HR3.out (fun h => h)
    have HS4 : Hid (RqAt ((w3.alloc (.cells (numsC W.heap.size) 307)).alloc (.cells (numsC (W.heap.size + 1)) 307)) (W.heap.size + 1) s (.slice a2 z2.size c2)) := hm4.heap HS3.out (fun h => h)
    have HB4 : Hid (Below W.heap.size W ((w3.alloc (.cells (numsC W.heap.size) 307)).alloc (.cells (numsC (W.heap.size + 1)) 307))) := HB3.out.trans (hm4.below HB3.out.size (fun _ _ h => h))
    unfold numsC at HR4 HS4 HB4
    have hun : ((w3.alloc (.cells (numsC W.heap.size) 307)).alloc (.cells (numsC (W.heap.size + 1)) 307)) = ((w3.alloc (.cells #[.pointer none, .pointer none, .pointer none, .pointer (some ⟨W.heap.size, 3, none⟩), .pointer (some ⟨W.heap.size, 4, none⟩), .pointer (some ⟨W.heap.size, 5, none⟩), .pointer (some ⟨W.heap.size, 6, none⟩), .pointer (some ⟨W.heap.size, 7, none⟩), .pointer (some ⟨W.heap.size, 8, none⟩), .pointer (some ⟨W.heap.size, 9, none⟩), .pointer none, .pointer none] 307)).alloc (.cells #[.pointer none, .pointer none, .pointer none, .pointer (some ⟨W.heap.size + 1, 3, none⟩), .pointer (some ⟨W.heap.size + 1, 4, none⟩), .pointer (some ⟨W.heap.size + 1, 5, none⟩), .pointer (some ⟨W.heap.size + 1, 6, none⟩), .pointer (some ⟨W.heap.size + 1, 7, none⟩), .pointer (some ⟨W.heap.size + 1, 8, none⟩), .pointer (some ⟨W.heap.size + 1, 9, none⟩), .pointer none, .pointer none] 307)) := rfl
    rw [hun] at HP4 HQ4
    clear hm4 hun HR3 HS3 HB3
    generalize ((w3.alloc (.cells #[.pointer none, .pointer none, .pointer none, .pointer (some ⟨W.heap.size, 3, none⟩), .pointer (some ⟨W.heap.size, 4, none⟩), .pointer (some ⟨W.heap.size, 5, none⟩), .pointer (some ⟨W.heap.size, 6, none⟩), .pointer (some ⟨W.heap.size, 7, none⟩), .pointer (some ⟨W.heap.size, 8, none⟩), .pointer (some ⟨W.heap.size, 9, none⟩), .pointer none, .pointer none] 307)).alloc (.cells #[.pointer none, .pointer none, .pointer none, .pointer (some ⟨W.heap.size + 1, 3, none⟩), .pointer (some ⟨W.heap.size + 1, 4, none⟩), .pointer (some ⟨W.heap.size + 1, 5, none⟩), .pointer (some ⟨W.heap.size + 1, 6, none⟩), .pointer (some ⟨W.heap.size + 1, 7, none⟩), .pointer (some ⟨W.heap.size + 1, 8, none⟩), .pointer (some ⟨W.heap.size + 1, 9, none⟩), .pointer none, .pointer none] 307)) = W4 at *
    generalize w3.heap.size = PB at *
    obtain ⟨RB, hRB⟩ : ∃ RB, W.heap.size = RB := ⟨_, rfl⟩
    rw [hRB] at HP4 HQ4 HR4 HS4 ⊢
    have HM4 : Hid (SmC W PB RB r s (.slice a1 z1.size c1) (.slice a2 z2.size c2) W4) := ⟨HP4.out, HQ4.out, HR4.out, HS4.out, HB4.out⟩
    clear HP4 HQ4 HR4 HS4 HB4
    go_loopw [44] (fun i wr => ∃ k : Nat, k ≤ 12 ∧ i = .int .i64 k ∧ Hid (SmC W PB RB r s (.slice a1 z1.size c1) (.slice a2 z2.size c2) wr) ∧ Hid (∀ j : Nat, j < k → 3 ≤ j → j ≤ 9 → getN r (j : Int) = getN s (j : Int))) (fun i _ => 12 - (intOf i).toNat)
    case atStart => exact ⟨0, by omega, rfl, HM4, fun j hj => absurd hj (Nat.not_lt_zero _)⟩
    case round =>
      obtain ⟨k, hk, rfl, HM, HE⟩ := hrel
      by_cases hlt : k < 12
      · have hltI : (k : Int) < 12 := by omega
        by_cases h39 : 3 ≤ k ∧ k ≤ 9
        · have cp := numsC_at RB k h39.1 h39.2 HM.out.p
          have cq := numsC_at (RB + 1) k h39.1 h39.2 HM.out.q
          have cr := (HM.out.r.num h39.1 h39.2).1
          have cs := (HM.out.s.num h39.1 h39.2).1
          by_cases he : getN r (k : Int) = getN s (k : Int)
          · have HEN : Hid (∀ j : Nat, j < k + 1 → 3 ≤ j → j ≤ 9 → getN r (j : Int) = getN s (j : Int)) := fun j hj h3 h9 => by
              by_cases hjk : j = k
              · subst hjk; exact he
              · exact HE.out j (by omega) h3 h9
            rw [he] at cr
            clear he
            go_wp2_with fail
            go_quiet (fail)
            go_wp2_with fail
            exact ⟨⟨k + 1, by omega, by simp, HM.out.drewN _, HEN.out⟩, by simp [intOf]; omega⟩
          · have hne := beq_false_of_ne he
            have HNE := Lib.hid (show ¬ numsE r s from fun h => he (h k h39.1 h39.2))
            clear he
            go_wp2_with fail
            go_quiet (fail)
            go_wp2_with fail
            go_ret
            exact ⟨false, rfl, by simp [HNE.out], (HM.out.drewN _).b⟩
        · have cp := numsC_nil RB k hlt h39 HM.out.p
          have HEN : Hid (∀ j : Nat, j < k + 1 → 3 ≤ j → j ≤ 9 → getN r (j : Int) = getN s (j : Int)) := fun j hj h3 h9 => HE.out j (by omega) h3 h9
          clear h39
          go_wp2_with fail
          go_quiet (fail)
          go_wp2_with fail
          exact ⟨⟨k + 1, by omega, by simp, HM.out.drewN _, HEN.out⟩, by simp [intOf]; omega⟩
      · obtain rfl : k = 12 := by omega
        have HNE := Lib.hid (show numsE r s from fun j h3 h9 => HE.out j (by omega) h3 h9)
        go_wp2_with fail
        go_ret
        exact ⟨true, rfl, by simp [HNE.out, HH.out], HM.out.b⟩
  · have HH := Lib.hid hh
    have hx : ¬ z1 = z2 ∨ z1 = z2 ∧ ¬ r.kind = s.kind ∨ z1 = z2 ∧ r.kind = s.kind ∧ ¬ r.what = s.what ∨ z1 = z2 ∧ r.kind = s.kind ∧ r.what = s.what ∧ ¬ r.name = s.name ∨ z1 = z2 ∧ r.kind = s.kind ∧ r.what = s.what ∧ r.name = s.name ∧ ¬ r.value = s.value := by
      unfold headE at hh
      by_cases h1 : z1 = z2 <;> by_cases h2 : r.kind = s.kind <;> by_cases h3 : r.what = s.what <;> by_cases h4 : r.name = s.name <;> by_cases h5 : r.value = s.value <;> simp_all
    clear hh
    have HN : Hid (∀ e w', (e = .returned (.bool false) ∧ Below W.heap.size W w') → SameP r s z1 z2 W e w') := by
      rintro e w' ⟨rfl, h⟩
      exact ⟨false, rfl, by simp [HH.out], h⟩
    rcases hx with h1 | ⟨h1, h2⟩ | ⟨h1, h2, h3⟩ | ⟨h1, h2, h3, h4⟩ | ⟨h1, h2, h3, h4, h5⟩
    · rw [decide_eq_false h1]
      clear h1
      go_wp2_with fail
      all_goals go_ret
      all_goals exact HN.out _ _ ⟨rfl, HB.out⟩
    · rw [decide_eq_true h1]
      have hk := beq_false_of_ne h2
      clear h1 h2
      go_wp2_with fail
      all_goals go_ret
      all_goals exact HN.out _ _ ⟨rfl, HB.out⟩
    · rw [decide_eq_true h1]
      rw [h2] at r0
      have hk := beq_false_of_ne h3
      clear h1 h2 h3
      go_wp2_with fail
      all_goals go_ret
      all_goals exact HN.out _ _ ⟨rfl, HB.out⟩
    · rw [decide_eq_true h1]
      rw [h2] at r0
      rw [h3] at r1
      have hk := streq_ r.name s.name
      rw [decide_eq_false h4] at hk
      clear h1 h2 h3 h4
      go_wp2_with fail
      all_goals go_ret
      all_goals exact HN.out _ _ ⟨rfl, HB.out⟩
    · rw [decide_eq_true h1]
      rw [h2] at r0
      rw [h3] at r1
      rw [h4] at r2
      have hk := beq_false_of_ne h5
      clear h1 h2 h3 h4 h5
      go_wp2_with fail
      all_goals go_ret
      all_goals exact HN.out _ _ ⟨rfl, HB.out⟩
end Eng
end Go.Proofs.YtdfmgneicdpjmaaGreat

/- The iterator of view.chosen. -/
namespace Go.Proofs.YtdfmgneicdpjmaaGreat
open Go.RowKit Go.Shelf
attribute [local go_sem] Oper.semAt_some
set_option linter.unusedVariables false
set_option linter.unusedSimpArgs false
set_option maxRecDepth 100000
namespace View
open Resp

def ChSt (a : Option Addr) (n c : Nat) (iv : Value) (es : List Ent) (bl bi : Nat) (G : World → Prop) (W : World) : Prop :=
  W.heap[bl]? = some (.cells #[.slice a n c] 27) ∧ W.heap[bi]? = some (.cells #[iv] 117) ∧ ScrAt W a n es ∧ G W
theorem ChSt.mod {a : Option Addr} {n c : Nat} {iv : Value} {es : List Ent} {bl bi : Nat} {G : World → Prop} (hG : ∀ A B, G A → Mod (fun _ => False) A B → G B) {W W' : World} (h : ChSt a n c iv es bl bi G W) (hm : Mod (fun _ => False) W W') : ChSt a n c iv es bl bi G W' :=
  ⟨hm.heap h.1 (by simp), hm.heap h.2.1 (by simp), h.2.2.1.mod hm (by simp), hG _ _ h.2.2.2 hm⟩
def ChYa (a : Option Addr) (n c : Nat) (iv : Value) (es : List Ent) (p : Ent → Bool) (bl bi : Nat) (G : World → Prop) (k : Nat) (x : Value) (W0 W : World) : Prop :=
  ∃ e v, (es.filter p)[k]? = some e ∧ x = entV e v ∧ FreshB W W0.heap.size v e.bytes ∧ ChSt a n c iv es bl bi G W
theorem filter_take_succ {p : Ent → Bool} {es : List Ent} {k : Nat} (hk : k < es.length) : (es.take (k + 1)).filter p = (es.take k).filter p ++ if p es[k] then [es[k]] else [] := by
  rw [List.take_succ_eq_append_getElem hk, List.filter_append]
  congr 1
  by_cases h : p es[k] = true <;> simp [h]
theorem filter_at {p : Ent → Bool} {es : List Ent} {k : Nat} (hk : k < es.length) (hp : p es[k] = true) : (es.filter p)[((es.take k).filter p).length]? = some es[k] := by
  have h1 : es.filter p = (es.take (k + 1)).filter p ++ (es.drop (k + 1)).filter p := by rw [← List.filter_append, List.take_append_drop]
  rw [h1, filter_take_succ hk, if_pos hp]
  simp
theorem quad_cells_ {W : World} {g : Nat} {a b c d : Value} {T : TypeId} (h : W.heap[g]? = some (.cells #[a, b, c, d] T)) : W.cell? ⟨g, 0, none⟩ = some a ∧ W.cell? ⟨g, 1, none⟩ = some b ∧ W.cell? ⟨g, 2, none⟩ = some c ∧ W.cell? ⟨g, 3, none⟩ = some d ∧ W.frozen? ⟨g, 3, none⟩ = false := by
  refine ⟨?_, ?_, ?_, ?_, ?_⟩ <;> first | simp [World.cell?, h] | simp [World.frozen?, h]
set_option maxHeartbeats 4000000 in
theorem chosen1_fr (m : Nat) (hm : 1 ≤ m) (a : Option Addr) (n c : Nat) (iv : Value) (es : List Ent) (p : Ent → Bool) (bl bi : Nat) (G : World → Prop) (hG : ∀ A B, G A → Mod (fun _ => False) A B → G B) (hI : IsAt iv p G) (hb : ∀ e ∈ es, e.bytes.size ≤ 140737488351232) (hn : n ≤ maxLen) :
    SeqFr Fence.wide m Tryz.prog 101 #[.pointer (some ⟨bl, 0, none⟩), .pointer (some ⟨bi, 0, none⟩)] (fun x : Value => #[x]) (fun _ => False) (fun _ => ChSt a n c iv es bl bi G) (ChYa a n c iv es p bl bi G) (es.filter p).length := by
  intro l J W hS hJ hY h0
  obtain ⟨f, cs, rfl, eg, hcall⟩ := hI
  have HCALL := Lib.hid hcall
  have HS := Lib.hid hS
  have HJ := Lib.hid hJ
  have HY := Lib.hid hY
  have H0 := Lib.hid h0
  have HG := Lib.hid hG
  have HBY := Lib.hid hb
  obtain ⟨hh1, hh2, hsc, -⟩ := hS
  have HL := Lib.hid hsc.1
  have k1 := cell_of_heap_ hh1
  unfold maxLen at hn
  clear hcall hJ hY h0 hG hb hh1 hh2 hsc
  refine callsIn_of_wp Tryz.func101 rfl trivial ?_ rfl
  simp only [Tryz.ntmps101, List.size_toArray, List.length_cons, List.length_nil, Nat.reduceAdd, Nat.reduceSub, Array.replicate_succ, Array.replicate_zero, List.push_toArray, List.append_toArray, List.nil_append, List.cons_append]
  refine wpIn_wide.2 ?_
  go_wp2_with fail
  clear k1
  go_loopw [8] (fun i wr => ∃ k : Nat, k ≤ n ∧ i = .int .i64 k ∧ Hid (J ((es.take k).filter p).length wr) ∧ Hid (ChSt a n c (.func (.func f) #[] cs) es bl bi G wr)) (fun i _ => n - (intOf i).toNat)
  case atStart => exact ⟨0, Nat.zero_le _, rfl, by simpa using H0, HS⟩
  case round =>
    clear HS H0
    obtain ⟨k, hk, rfl, HJK, HST⟩ := hrel
    by_cases hlt : k < n
    · have hltI : (k : Int) < n := by omega
      have hk2 : k < es.length := by have := HL.out; omega
      obtain ⟨hh1, hh2, hsc, hg⟩ := HST.out
      have k2 := cell_of_heap_ hh2
      obtain ⟨b, o, v, sa, sc, rfl, hbl, c0, c1, c2, c3, hst, rfl⟩ := hsc.at_ hk2
      have hPne : ¬ bi = wr.heap.size := fun e => by have := (Array.getElem?_eq_some_iff.1 hh2).1; omega
      clear hh1 hh2 hsc hbl
      go_upto_region 3 with fail
      have hm1 : Mod (fun _ => False) wr (wr.alloc (.cells #[.int .u8 es[k].kind, .int .i64 es[k].slot, .int .i64 es[k].n, .slice sa es[k].bytes.size sc] 38)) := (Mod.refl _ _).alloc _
      have HP := Lib.hid (World.alloc_heap_new wr (.cells #[.int .u8 es[k].kind, .int .i64 es[k].slot, .int .i64 es[k].n, .slice sa es[k].bytes.size sc] 38))
      have HM1 := Lib.hid hm1
      have HST1 := Lib.hid (HST.out.mod HG.out hm1)
      have HV1 := Lib.hid (hst.mod hm1 (by simp))
      have HSZ := Lib.hid (HBY.out _ (List.getElem_mem hk2))
      have HFS := Lib.hid (filter_take_succ (p := p) hk2)
      have HFA := Lib.hid (filter_at (p := p) hk2)
      clear hm1 hst k2 c0 c1 c2 c3
      generalize hez : es[k] = e at *
      clear hez hk2
      generalize wr.alloc (.cells #[.int .u8 e.kind, .int .i64 e.slot, .int .i64 e.n, .slice sa e.bytes.size sc] 38) = W1 at *
      generalize hPw : wr.heap.size = P at *
      have HPW := Lib.hid hPw
      clear hPw
      have k2 := cell_of_heap_ HST1.out.2.1
      obtain ⟨p0, p1, p2, p3, pf⟩ := quad_cells_ HP.out
      go_wp2_with fail
      refine (HCALL.out e _ W1 HST1.out.2.2.2 HV1.out).mono ?_; rintro r W2 ⟨rfl, hb2⟩
      have HM2 : Hid (Mod (fun _ => False) W1 W2) := Mod.of_same hb2
      have HST2 := Lib.hid (HST1.out.mod HG.out HM2.out)
      have HP2 := Lib.hid (HM2.out.heap HP.out (by simp))
      have HV2 := Lib.hid (HV1.out.mod HM2.out (by simp))
      obtain ⟨p0, p1, p2, p3, pf⟩ := quad_cells_ HP2.out
      clear hb2 HST1 HP HV1
      by_cases hp : p e = true
      · rw [hp]
        have HFS2 : Hid (((es.take (k + 1)).filter p).length = ((es.take k).filter p).length + 1) := by rw [Hid, HFS.out, hp]; simp
        have HFA2 := Lib.hid (HFA.out hp)
        clear HFS HFA hp
        go_wp2_with fail
        refine (CloneB_any _ e.bytes W2 HV2.out HSZ.out).mono ?_; rintro r W3 ⟨v3, rfl, hf3, hb3⟩
        have HM3 : Hid (Mod (fun _ => False) W2 W3) := Mod.of_same hb3
        have HST3 := Lib.hid (HST2.out.mod HG.out HM3.out)
        have HP3 := Lib.hid (HM3.out.heap HP2.out (by simp))
        have HF3 := Lib.hid hf3
        have hPs : P < W2.heap.size := (Array.getElem?_eq_some_iff.1 HP2.out).1
        obtain ⟨q0, q1, q2, q3, qf⟩ := quad_cells_ HP3.out
        obtain ⟨a3, c3, rfl⟩ := hf3.str.form
        clear hf3 hb3 p0 p1 p2 p3 pf HP2
        go_upto_region 5 with fail
        have HP4 : Hid ((W3.setCell ⟨P, 3, none⟩ (.slice a3 e.bytes.size c3)).heap[P]? = some (.cells #[.int .u8 e.kind, .int .i64 e.slot, .int .i64 e.n, .slice a3 e.bytes.size c3] 38)) := by
          have := heap_set_ HP3.out 3 (.slice a3 e.bytes.size c3)
          rw [Hid]; simpa using this
        have hmP := mod_set_ W3 P 3 (.slice a3 e.bytes.size c3)
        have HM4 : Hid (Mod (fun _ => False) wr (W3.setCell ⟨P, 3, none⟩ (.slice a3 e.bytes.size c3))) := ((HM1.out.trans HM2.out).trans HM3.out).setCell (.inl (Nat.le_of_eq HPW.out)) _
        have HF4 : Hid (FreshB (W3.setCell ⟨P, 3, none⟩ (.slice a3 e.bytes.size c3)) wr.heap.size (.slice a3 e.bytes.size c3) e.bytes) := by
          refine (HF3.out.mod hmP (fun g hg he => ?_)).base (HM1.out.trans HM2.out).size
          obtain ⟨zs, ho, -⟩ := HF3.out
          exact own_other_ ho HP3.out (by decide) (by rw [hg, he])
        have HST4 := Lib.hid (HST.out.mod HG.out HM4.out)
        obtain ⟨q0, q1, q2, q3, qf⟩ := quad_cells_ HP4.out
        clear hmP HST3 HST2 HM1 HM2 HM3 HV2 HF3 HP3
        generalize W3.setCell ⟨P, 3, none⟩ (.slice a3 e.bytes.size c3) = W4 at *
        obtain ⟨fn, tmps, assign, body, hy, hR⟩ := HY.out _ (entV e (.slice a3 e.bytes.size c3)) wr W4 (by
            have := (List.getElem?_eq_some_iff.1 HFA2.out).1
            exact this) HJK.out HM4.out ⟨e, .slice a3 e.bytes.size c3, HFA2.out, rfl, HF4.out, HST4.out⟩
        unfold entV at hy
        refine (wpIn_wide (n := m)).1 ?_
        gi_wp2
        refine hR.mono ?_
        rintro r W5 ⟨rfl, hJ5, hS5⟩
        gi_wp2
        have HS5 := Lib.hid hS5
        have HJ5 := Lib.hid hJ5
        clear hS5 hJ5 hR hy q0 q1 q2 q3 qf
        go_wp2_with fail
        exact ⟨⟨k + 1, by omega, by simp, by rw [HFS2.out]; exact HJ5.out, HS5.out⟩, by simp [intOf]; omega⟩
      · have hp' : p e = false := by simpa using hp
        have HFS2 : Hid (((es.take (k + 1)).filter p).length = ((es.take k).filter p).length) := by rw [Hid, HFS.out, hp']; simp
        rw [hp']
        clear HFS HFA hp hp'
        go_wp2_with fail
        have HMt := Lib.hid (HM1.out.trans HM2.out)
        exact ⟨⟨k + 1, by omega, by simp, by rw [HFS2.out]; exact HJ.out _ _ _ HJK.out HMt.out, HST2.out⟩, by simp [intOf]; omega⟩
    · obtain rfl : k = n := by omega
      have HT : Hid (es.take k = es) := by
        have := HL.out
        exact List.take_of_length_le (by omega)
      rw [HT.out] at HJK
      go_wp2_with fail
      go_end0
      exact ⟨⟨_, rfl⟩, HJK.out, HST.out⟩
end View
end Go.Proofs.YtdfmgneicdpjmaaGreat

/- Scripts in rows of their own; slices.AppendSeq and Collect over view.chosen. -/
namespace Go.Proofs.YtdfmgneicdpjmaaGreat
open Go.RowKit Go.Shelf
attribute [local go_sem] Oper.semAt_some
set_option linter.unusedVariables false
set_option linter.unusedSimpArgs false
set_option maxRecDepth 100000
namespace View
open Resp

theorem infoEnt : (Tryz.prog.info? 38).map (fun i => (i.zero, i.size, i.bytes)) = some (some (.agg #[.int .u8 0, .int .i64 0, .int .i64 0, .slice none 0 0]), 4, 48) := by kernel_rfl
def entC (e : Ent) (v : Value) : List Value := [.int .u8 e.kind, .int .i64 e.slot, .int .i64 e.n, v]
def entCs (l : List (Ent × Value)) : List Value := l.flatMap fun x => entC x.1 x.2
theorem entCs_append (a b : List (Ent × Value)) : entCs (a ++ b) = entCs a ++ entCs b := by simp [entCs]
theorem entCs_length : ∀ l : List (Ent × Value), (entCs l).length = l.length * 4
  | [] => rfl
  | x :: t => by
    have := entCs_length t
    simp only [entCs, List.flatMap_cons, List.length_append, List.length_cons] at this ⊢
    rw [this]; simp [entC]; omega
/-- A script in a row of its own, its bytes in rows of their own, each another one. -/
def OwnScr (W : World) (base : Nat) (v : Value) (es : List Ent) : Prop := ∃ l : List (Ent × Value), l.map (·.1) = es ∧ W.ownsRow base 38 4 v l.length (entCs l) ∧ (∀ x ∈ l, FreshB W base x.2 x.1.bytes) ∧ l.Pairwise fun x y => ∀ g, x.2.ownBlock = some g → ¬ y.2.ownBlock = some g
theorem OwnScr.form {W : World} {base : Nat} {v : Value} {es : List Ent} (h : OwnScr W base v es) : ∃ a c, v = .slice a es.length c := by
  obtain ⟨l, rfl, ho, -⟩ := h
  obtain ⟨a, c, rfl⟩ := ownsRow_form ho
  exact ⟨a, c, by simp⟩
theorem OwnScr.mod {S : Nat → Prop} {W W' : World} {base : Nat} {v : Value} {es : List Ent} (h : OwnScr W base v es) (hm : Mod S W W') (hS : ∀ g, base ≤ g → ¬ S g) : OwnScr W' base v es := by
  obtain ⟨l, h1, h2, h3, h4⟩ := h
  refine ⟨l, h1, ownsRow_mod h2 hm (fun g hg => hS g (ownBlock_ge_ h2 hg)), fun x hx => ?_, h4⟩
  obtain ⟨zs, h5, h6⟩ := h3 x hx
  exact ⟨zs, ownsRow_mod h5 hm (fun g hg => hS g (ownBlock_ge_ h5 hg)), h6⟩
theorem OwnScr.base {W : World} {base base' : Nat} {v : Value} {es : List Ent} (h : OwnScr W base v es) (hb : base' ≤ base) : OwnScr W base' v es := by
  obtain ⟨l, h1, h2, h3, h4⟩ := h
  exact ⟨l, h1, ownsRow_base h2 hb, fun x hx => (h3 x hx).base hb, h4⟩
theorem OwnScr.nil (W : World) (base : Nat) : OwnScr W base (.slice none 0 0) [] := ⟨[], rfl, owns_nil _ _ _ _, by simp, .nil⟩
theorem ownsRow_put_ {W : World} {base : Nat} {e : TypeId} {size : Nat} {v : Value} {n : Nat} {xs : List Value} (h : W.ownsRow base e size v n xs) {l : Nat} {o : Obj} (o' : Obj) (hl : W.heap[l]? = some o) (ho : o.isCells = false) : (W.putObj l o').ownsRow base e size v n xs := by
  rcases h.2 with ⟨rfl, h0⟩ | ⟨g, cap, cur, rfl, hb, hgg, rest⟩
  · exact ⟨h.1, .inl ⟨rfl, h0⟩⟩
  · have hne : ¬ l = g := fun e => by rw [e, hgg] at hl; cases hl; cases ho
    exact ⟨h.1, .inr ⟨g, cap, cur, rfl, hb, (mod_put_ W l o').heap hgg (fun e => hne e.symm), rest⟩⟩
theorem OwnScr.put {W : World} {base : Nat} {v : Value} {es : List Ent} (h : OwnScr W base v es) {l : Nat} {o : Obj} (o' : Obj) (hl : W.heap[l]? = some o) (ho : o.isCells = false) : OwnScr (W.putObj l o') base v es := by
  obtain ⟨l, h1, h2, h3, h4⟩ := h
  refine ⟨l, h1, ownsRow_put_ h2 o' hl ho, fun x hx => ?_, h4⟩
  obtain ⟨zs, h5, h6⟩ := h3 x hx
  exact ⟨zs, ownsRow_put_ h5 o' hl ho, h6⟩
/-- A turn of one cell that lies in no row of ints, and in none of entries. -/
theorem OwnScr.keep_at {W W' : World} {base : Nat} {v : Value} {es : List Ent} (h : OwnScr W base v es) {B : Nat} {cs : Array Value} {t : TypeId} {fr : Nat × Nat} (hB : W.heap[B]? = some (.cells cs t fr)) (hm : Mod (fun g => g = B) W W') (ht : ¬ 38 = t) (ht2 : ¬ 5 = t) : OwnScr W' base v es := by
  obtain ⟨l, h1, h2, h3, h4⟩ := h
  refine ⟨l, h1, owns_keep_at_ h2 hB hm ht, fun x hx => ?_, h4⟩
  obtain ⟨zs, h5, h6⟩ := h3 x hx
  exact ⟨zs, owns_keep_at_ h5 hB hm ht2, h6⟩
theorem OwnScr.scr {W : World} {base : Nat} {v : Value} {es : List Ent} (h : OwnScr W base v es) : ∃ a c, v = .slice a es.length c ∧ es.length ≤ c ∧ c ≤ maxLen ∧ ScrAt W a es.length es := by
  obtain ⟨l, rfl, ho, hf, -⟩ := h
  rcases ho.2 with ⟨rfl, h0⟩ | ⟨g, cap, cur, rfl, hb, hgg, hcap, h2, h3, h4⟩
  · have hl : l.length = 0 := by have := entCs_length l; rw [h0] at this; have h9 : ([] : List Value).length = 0 := rfl; omega
    obtain rfl := List.length_eq_zero_iff.1 hl
    exact ⟨none, 0, rfl, Nat.le_refl _, Nat.zero_le _, rfl, fun i e he => by simp at he⟩
  · refine ⟨some ⟨g, 0, none⟩, cap, by simp, by simpa using hcap, by omega, rfl, fun i e he => ⟨g, 0, rfl, ?_⟩⟩
    have hi : i < l.length := by have := (List.getElem?_eq_some_iff.1 he).1; simpa using this
    have he2 : l[i].1 = e := by
      rw [List.getElem?_map, List.getElem?_eq_getElem hi] at he
      simpa using he
    have hcell : ∀ j u, j < 4 → (entC l[i].1 l[i].2)[j]? = some u → W.cell? ⟨g, i * 4 + j, none⟩ = some u := by
      intro j u hj hu
      have h5 : (entCs l)[i * 4 + j]? = some u := by
        have hsp : l = l.take i ++ l[i] :: l.drop (i + 1) := by rw [List.getElem_cons_drop, List.take_append_drop]
        rw [hsp, entCs_append]
        have hlen : (entCs (l.take i)).length = i * 4 := by rw [entCs_length, List.length_take_of_le (by omega)]
        rw [List.getElem?_append_right (by omega), hlen, Nat.add_sub_cancel_left]
        simp only [entCs, List.flatMap_cons]
        rw [List.getElem?_append_left (by simp [entC]; omega)]
        exact hu
      have h6 : (cur.toList.take (l.length * 4))[i * 4 + j]? = some u := by rw [h4]; exact h5
      rw [List.getElem?_take, if_pos (by omega)] at h6
      simp [World.cell?, hgg]; simpa using h6
    refine ⟨l[i].2, ?_, ?_, ?_, ?_, ?_⟩
    · have := hcell 0 _ (by omega) (by simp [entC]; rfl); rw [he2] at this; simpa using this
    · have := hcell 1 _ (by omega) (by simp [entC]; rfl); rw [he2] at this; simpa using this
    · have := hcell 2 _ (by omega) (by simp [entC]; rfl); rw [he2] at this; simpa using this
    · have := hcell 3 _ (by omega) (by simp [entC]; rfl); simpa using this
    · rw [← he2]; exact (hf _ (List.getElem_mem hi)).str
end View
end Go.Proofs.YtdfmgneicdpjmaaGreat
