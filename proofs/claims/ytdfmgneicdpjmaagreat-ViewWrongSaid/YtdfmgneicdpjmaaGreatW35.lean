import Derived.Test.YtdfmgneicdpjmaaGreatW34
import Derived.Test.YtdfmgneicdpjmaaGreatM23
import Derived.Deep.RegionWith
namespace Go.Proofs.YtdfmgneicdpjmaaGreat
open Go.RowKit Go.Shelf
attribute [local go_sem] Oper.semAt_some
set_option linter.unusedVariables false
set_option linter.unusedSimpArgs false
set_option maxRecDepth 100000
namespace Eng
open Resp
theorem whys_any (a : Option Addr) (n c : Nat) (p : List Ins) (l : Lm) (W : World) (h : PrgAt W a n p) :
   Calls Tryz.prog 328 #[lmV l, .slice a n c] W fun e w' => ∃ bp bl, e = .returned (.func (.func 376) #[] #[.pointer (some ⟨bp, 0, none⟩), .pointer (some ⟨bl, 0, none⟩)]) ∧ WhSt bp bl a n c p l W.heap.size w' ∧ (W.heap.size ≤ bp ∧ W.heap.size ≤ bl) ∧ Below W.heap.size W w' := by
 have H := Lib.hid h
 clear h
 unfold lmV
 go_enter Tryz.func328, Tryz.ntmps328
 go_wp2_with fail
 go_ret
 obtain ⟨h1, h2, hs, hb⟩ := two_blocks W (.cells #[.int .i64 l.cells, .int .i64 l.ports, .int .i64 l.ahead] 415) (.cells #[.slice a n c] 170)
 exact ⟨_, _, rfl, ⟨h2, h1, H.out.below hb, by omega⟩, ⟨by omega, by omega⟩, hb⟩
noncomputable def ckV (l : Lm) (p : List Ins) : Int × Int := if fitE l p = 0 then (((whyN l p (fctF p) p.length).find? fun x => decide (¬ x.2 = 176)).getD (-1, 0)) else (-1, fitE l p)
def CkqP (l : Lm) (p : List Ins) (W : World) (e : Ending) (w' : World) : Prop := e = .returned (.tuple #[.int .i64 (ckV l p).1, .int .i64 (ckV l p).2]) ∧ Below W.heap.size W w'
theorem results_two_int {fn : Func} {p q : Tmp} (h : fn.results = #[.cell p 3, .cell q 34]) (tmps : Array Value) (w : World) (g1 g2 : Nat) (x y : Int)
   (hp : tmps.getD p undef = .pointer (some ⟨g1, 0, none⟩)) (hq : tmps.getD q undef = .pointer (some ⟨g2, 0, none⟩)) (h1 : w.heap[g1]? = some (.cells #[.int .i64 x] 3)) (h2 : w.heap[g2]? = some (.cells #[.int .i64 y] 34)) :
   (results fn tmps).run Tryz.prog w = .ok (.tuple #[.int .i64 x, .int .i64 y]) w := by
 have hp' : tmps[p]?.getD undef = .pointer (some ⟨g1, 0, none⟩) := by simpa using hp
 have hq' : tmps[q]?.getD undef = .pointer (some ⟨g2, 0, none⟩) := by simpa using hq
 have hc1 := cell_of_heap_ h1
 have hc2 := cell_of_heap_ h2
 simp [results, h, hp', hq', asAddr]
 simp [go_sem, hc1, hc2]
theorem leaves_two {F : Fence} {m : Nat} {fn : Func} {p q : Tmp} (h : fn.results = #[.cell p 3, .cell q 34]) {tm : Array Value} {R : Ending → World → Prop} {W w : World} {g1 g2 : Nat} {x y : Int} {ds : List Deferred}
   (hp : tm.getD p undef = .pointer (some ⟨g1, 0, none⟩)) (hq : tm.getD q undef = .pointer (some ⟨g2, 0, none⟩)) (h1 : w.heap[g1]? = some (.cells #[.int .i64 x] 3)) (h2 : w.heap[g2]? = some (.cells #[.int .i64 y] 34))
   (hB : Below W.heap.size W w) (hM : Marks W.heap.size ds w) (hR : ∀ w', Below W.heap.size W w' → R (.returned (.tuple #[.int .i64 x, .int .i64 y])) w') : LeavesInM F m Tryz.prog fn tm R ds .returning w := by
 refine leaves_marks (m := W.heap.size) (Q := fun w' => w'.heap[g1]? = some (.cells #[.int .i64 x] 3) ∧ w'.heap[g2]? = some (.cells #[.int .i64 y] 34) ∧ Below W.heap.size W w') (fun w' D hD hw hq => ?_) (fun w' hq' => ?_) hM ⟨h1, h2, hB⟩
 · have hm := mod_put_ w' D (.deferred none)
   exact ⟨hm.heap hq.1 (fun e => by have h1 := hq.1; rw [e, hw] at h1; cases h1), hm.heap hq.2.1 (fun e => by have h1 := hq.2.1; rw [e, hw] at h1; cases h1), hq.2.2.trans (hm.below hq.2.2.size (fun q hq' e => by omega))⟩
 · exact ⟨_, results_two_int h tm w' g1 g2 x y hp hq hq'.1 hq'.2.1, hR w' hq'.2.2⟩
theorem leaves_two_set {F : Fence} {m : Nat} {fn : Func} {p q : Tmp} (h : fn.results = #[.cell p 3, .cell q 34]) {tm : Array Value} {R : Ending → World → Prop} {W w : World} {g1 g2 : Nat} {x y x0 y0 : Int} {ds : List Deferred}
   (hp : tm.getD p undef = .pointer (some ⟨g1, 0, none⟩)) (hq : tm.getD q undef = .pointer (some ⟨g2, 0, none⟩)) (h1 : w.heap[g1]? = some (.cells #[.int .i64 x0] 3)) (h2 : w.heap[g2]? = some (.cells #[.int .i64 y0] 34)) (hg : ¬ g1 = g2) (hg1 : W.heap.size ≤ g1) (hg2 : W.heap.size ≤ g2)
   (hB : Below W.heap.size W w) (hM : Marks W.heap.size ds w) (hR : ∀ w', Below W.heap.size W w' → R (.returned (.tuple #[.int .i64 x, .int .i64 y])) w') : LeavesInM F m Tryz.prog fn tm R ds .returning ((w.setCell ⟨g1, 0, none⟩ (.int .i64 x)).setCell ⟨g2, 0, none⟩ (.int .i64 y)) := by
 have e1 := heap_set_ h1 0 (.int .i64 x)
 have hms1 := mod_set_ w g1 0 (.int .i64 x)
 have hms2 := mod_set_ (w.setCell ⟨g1, 0, none⟩ (.int .i64 x)) g2 0 (.int .i64 y)
 have e2 := heap_set_ (hms1.heap h2 (fun e => hg e.symm)) 0 (.int .i64 y)
 have hmt : Mod (fun g => g = g1 ∨ g = g2) w ((w.setCell ⟨g1, 0, none⟩ (.int .i64 x)).setCell ⟨g2, 0, none⟩ (.int .i64 y)) := (hms1.mono (fun _ _ h => .inl h)).trans (hms2.mono (fun _ _ h => .inr h))
 refine leaves_two h hp hq (hms2.heap (by simpa using e1) hg) (by simpa using e2) (hB.trans (hmt.below hB.size (fun q hq e => by omega))) (hM.mod hmt (fun D _ hD e => ?_)) hR
 rcases e with e | e
 · rw [e, h1] at hD; cases hD
 · rw [e, h2] at hD; cases hD
def CyI (L : List (Int × Int)) (w2 : World) (j : Nat) (A : World) : Prop := Mod (fun _ => False) w2 A ∧ ∀ x ∈ L.take j, x.2 = 176
def CyX (L : List (Int × Int)) (w2 : World) (E1 E2 : Nat) (c : Code) (A : World) : Prop := c = .ret ∧ ∃ x, L.find? (fun x => decide (¬ x.2 = 176)) = some x ∧ A.heap[E1]? = some (.cells #[.int .i64 x.1] 3) ∧ A.heap[E2]? = some (.cells #[.int .i64 x.2] 34) ∧ Mod (fun g => g = E1 ∨ g = E2) w2 A
def CyAs (F : Int × Int → Act) (L : List (Int × Int)) (w2 : World) (j : Nat) (a' : Act) (A : World) : Prop := ∃ x, L[j]? = some x ∧ a' = F x ∧ CyI L w2 j A
theorem find_first {α : Type} {q : α → Bool} {L : List α} {j : Nat} {x : α} (hx : L[j]? = some x) (hq : q x = true) (h : ∀ y ∈ L.take j, q y = false) : L.find? q = some x := by
 obtain ⟨hj, rfl⟩ := List.getElem?_eq_some_iff.1 hx
 rw [List.find?_eq_some_iff_getElem]
 refine ⟨hq, j, hj, rfl, fun i hi => ?_⟩
 have := h L[i] (by rw [List.mem_take_iff_getElem]; exact ⟨i, by omega, rfl⟩)
 rw [this]
 rfl
set_option maxHeartbeats 4000000 in
theorem ChkCheck_any (a : Option Addr) (n c : Nat) (p : List Ins) (l : Lm) (W : World) (h : PrgAt W a n p) (ho : PrgOk p) (hn : n ≤ maxLen) :
   Calls Tryz.prog 277 #[.slice a n c, lmV l] W (CkqP l p W) := by
 have HP := Lib.hid h
 have HO := Lib.hid ho
 have HFT := Lib.hid (fun W h => fits_any l a n c p W h ho hn)
 have HWS := Lib.hid (fun W h => whys_any a n c p l W h)
 clear h ho hn
 unfold lmV at HFT HWS ⊢
 refine (callsIn_wide (n := 8)).1 ?_
 refine callsIn_of_wp_marks Tryz.func277 rfl trivial ?_ rfl
 simp only [Tryz.ntmps277, List.size_toArray, List.length_cons, List.length_nil, Nat.reduceAdd, Nat.reduceSub, Array.replicate_succ, Array.replicate_zero, List.push_toArray, List.append_toArray, List.nil_append, List.cons_append]
 refine wpIn_wide.2 ?_
 go_wp2_with fail
 obtain ⟨h1, h2, h3, hs, hb⟩ := three_blocks W (.cells #[.int .i64 l.cells, .int .i64 l.ports, .int .i64 l.ahead] 415) (.cells #[.int .i64 0] 3) (.cells #[.int .i64 0] 34)
 have HL := Lib.hid h1
 have HE1 := Lib.hid h2
 have HE2 := Lib.hid h3
 have HB := Lib.hid hb
 have HSZ := Lib.hid hs
 clear h1 h2 h3 hs hb
 generalize ((W.alloc (.cells #[.int .i64 l.cells, .int .i64 l.ports, .int .i64 l.ahead] 415)).alloc (.cells #[.int .i64 0] 3)).alloc (.cells #[.int .i64 0] 34) = w1 at *
 refine (HFT.out w1 (HP.out.below HB.out)).mono ?_; rintro e w2 ⟨rfl, hb2⟩
 have hm2 : Mod (fun _ => False) w1 w2 := Mod.of_same hb2
 have HL2 : Hid (w2.heap[W.heap.size]? = some (.cells #[.int .i64 l.cells, .int .i64 l.ports, .int .i64 l.ahead] 415)) := hm2.heap HL.out (fun h => h)
 have HE12 : Hid (w2.heap[W.heap.size + 1]? = some (.cells #[.int .i64 0] 3)) := hm2.heap HE1.out (fun h => h)
 have HE22 : Hid (w2.heap[W.heap.size + 1 + 1]? = some (.cells #[.int .i64 0] 34)) := hm2.heap HE2.out (fun h => h)
 have HB2 : Hid (Below W.heap.size W w2) := HB.out.trans (hb2.mono HB.out.size)
 have HS2 : Hid (W.heap.size + 3 ≤ w2.heap.size) := by have h1 := HSZ.out; have h2 := hm2.size; unfold Hid; omega
 have c1 := cell_of_heap_ HE12.out
 have c2 := cell_of_heap_ HE22.out
 have z1 : w2.frozen? ⟨W.heap.size + 1, 0, none⟩ = false := by simp [World.frozen?, HE12.out]
 have z2 : w2.frozen? ⟨W.heap.size + 1 + 1, 0, none⟩ = false := by simp [World.frozen?, HE22.out]
 clear hm2 hb2 HL HE1 HE2 HB HSZ HFT
 by_cases hf : fitE l p = 0
 · have HFE := Lib.hid hf
   have hcp : cpE p = 0 := by
     unfold fitE at hf
     split at hf
     · cases hf
     · rename_i h9; simpa using h9
   have HCP := Lib.hid hcp
   rw [hf]
   have l0 : w2.cell? ⟨W.heap.size, 0, none⟩ = some (.int .i64 l.cells) := by simp [World.cell?, HL2.out]
   have l1 : w2.cell? ⟨W.heap.size, 1, none⟩ = some (.int .i64 l.ports) := by simp [World.cell?, HL2.out]
   have l2 : w2.cell? ⟨W.heap.size, 2, none⟩ = some (.int .i64 l.ahead) := by simp [World.cell?, HL2.out]
   clear hf hcp
   go_wp2_with fail
   refine (HWS.out w2 (HP.out.below HB2.out)).mono ?_; rintro e w3 ⟨bp, bl, rfl, hws, ⟨s1, s2⟩, hb3⟩
   have hm3 : Mod (fun _ => False) w2 w3 := Mod.of_same hb3
   have HE13 : Hid (w3.heap[W.heap.size + 1]? = some (.cells #[.int .i64 0] 3)) := hm3.heap HE12.out (fun h => h)
   have HE23 : Hid (w3.heap[W.heap.size + 1 + 1]? = some (.cells #[.int .i64 0] 34)) := hm3.heap HE22.out (fun h => h)
   have HB3 : Hid (Below W.heap.size W w3) := HB2.out.trans (hb3.mono HB2.out.size)
   have HWT := Lib.hid hws
   have HS3 : Hid (W.heap.size + 3 ≤ w3.heap.size) := by have h1 := HS2.out; have h2 := hm3.size; unfold Hid; omega
   have HPN : Hid (p.length = n) := HP.out.1
   clear hm3 hb3 hws s1 s2 c1 c2 z1 z2 l0 l1 l2
   go_wp2_with fail
   refine (wpIn_wide (n := 8)).1 ?_
   refine wpIn_rangeFunc_k rfl (by omega) (gf := 376) (lb := #[.pointer (some ⟨bp, 0, none⟩), .pointer (some ⟨bl, 0, none⟩)]) rfl trivial (enters_of Tryz.func376 (by kernel_rfl) rfl) (fun _ => rfl)
     (whys1_k 7 (by omega) bp bl a n c p l HCP.out HO.out 0 (fun _ _ => False) (fun q t h => h.elim) (fun _ h => h) (fun _ h => h) (fun _ _ _ _ h => h))
     (fun q hq => hq.elim)
     (fun A' hA => by
       have hm : Mod (fun _ => False) w3 A' := Mod.of_same hA
       exact ⟨hm.heap HWT.out.1 (fun h => h), hm.heap HWT.out.2.1 (fun h => h), HWT.out.2.2.1.below hA, Nat.zero_le _⟩)
     (CyI (whyN l p (fctF p) n) w3)
     (fun j A' A'' hI' hm => ⟨hI'.1.trans hm, hI'.2⟩)
     (fun j A' lq o1 o' hl hlo ho hI' => ⟨hI'.1.putObj (.inl hl) o', hI'.2⟩)
     (CyX (whyN l p (fctF p) n) w3 (W.heap.size + 1) (W.heap.size + 1 + 1))
     (fun c' A' A'' hI' hm => by
       obtain ⟨h1, x, h2, h3, h4, h5⟩ := hI'
       exact ⟨h1, x, h2, hm.heap h3 (fun h => h), hm.heap h4 (fun h => h), h5.trans (hm.mono (fun _ _ h => h.elim))⟩)
     (fun c' A' lq o1 o' hl hlo ho hI' => by
       obtain ⟨h1, x, h2, h3, h4, h5⟩ := hI'
       exact ⟨h1, x, h2, (mod_put_ A' lq o').heap h3 (fun e => by rw [e, hlo] at h3; cases h3; cases ho), (mod_put_ A' lq o').heap h4 (fun e => by rw [e, hlo] at h4; cases h4; cases ho), h5.putObj (.inl hl) o'⟩)
     ⟨Mod.refl _ _, fun x hx => by simp at hx⟩
     (CyAs (fun x => { tmps := List.toArray (.slice a n c :: .agg #[.int .i64 l.cells, .int .i64 l.ports, .int .i64 l.ahead] :: undef :: .pointer (some ⟨W.heap.size, 0, none⟩) :: .pointer (some ⟨W.heap.size + 1, 0, none⟩) :: .pointer (some ⟨W.heap.size + 1 + 1, 0, none⟩) :: .int .i64 0 :: .int .i64 x.1 :: .int .i64 x.2 :: .agg #[.int .i64 l.cells, .int .i64 l.ports, .int .i64 l.ahead] :: .slice a n c :: .int .i64 0 :: .int .i64 0 :: .bool false :: undef :: .agg #[.int .i64 l.cells, .int .i64 l.ports, .int .i64 l.ahead] :: .slice a n c :: .func (.func 376) #[] #[.pointer (some ⟨bp, 0, none⟩), .pointer (some ⟨bl, 0, none⟩)] :: .int .i64 x.1 :: .int .i64 x.2 :: undef :: undef :: undef :: undef :: []), defers := [] }) (whyN l p (fctF p) n) w3)
     (fun j a' A' lq o1 o' hl hlo ho hA => by
       obtain ⟨x, h1, h2, h3⟩ := hA
       exact ⟨x, h1, h2, h3.1.putObj (.inl hl) o', h3.2⟩)
     ?assign ?body ?done ?stop
   case assign =>
     intro lq j x W0 Wc K hk hsz hI' hm0 hY hK
     have HAS : Hid (CyAs (fun x => { tmps := List.toArray (.slice a n c :: .agg #[.int .i64 l.cells, .int .i64 l.ports, .int .i64 l.ahead] :: undef :: .pointer (some ⟨W.heap.size, 0, none⟩) :: .pointer (some ⟨W.heap.size + 1, 0, none⟩) :: .pointer (some ⟨W.heap.size + 1 + 1, 0, none⟩) :: .int .i64 0 :: .int .i64 x.1 :: .int .i64 x.2 :: .agg #[.int .i64 l.cells, .int .i64 l.ports, .int .i64 l.ahead] :: .slice a n c :: .int .i64 0 :: .int .i64 0 :: .bool false :: undef :: .agg #[.int .i64 l.cells, .int .i64 l.ports, .int .i64 l.ahead] :: .slice a n c :: .func (.func 376) #[] #[.pointer (some ⟨bp, 0, none⟩), .pointer (some ⟨bl, 0, none⟩)] :: .int .i64 x.1 :: .int .i64 x.2 :: undef :: undef :: undef :: undef :: []), defers := [] }) (whyN l p (fctF p) n) w3 j { tmps := List.toArray (.slice a n c :: .agg #[.int .i64 l.cells, .int .i64 l.ports, .int .i64 l.ahead] :: undef :: .pointer (some ⟨W.heap.size, 0, none⟩) :: .pointer (some ⟨W.heap.size + 1, 0, none⟩) :: .pointer (some ⟨W.heap.size + 1 + 1, 0, none⟩) :: .int .i64 0 :: .int .i64 x.1 :: .int .i64 x.2 :: .agg #[.int .i64 l.cells, .int .i64 l.ports, .int .i64 l.ahead] :: .slice a n c :: .int .i64 0 :: .int .i64 0 :: .bool false :: undef :: .agg #[.int .i64 l.cells, .int .i64 l.ports, .int .i64 l.ahead] :: .slice a n c :: .func (.func 376) #[] #[.pointer (some ⟨bp, 0, none⟩), .pointer (some ⟨bl, 0, none⟩)] :: .int .i64 x.1 :: .int .i64 x.2 :: undef :: undef :: undef :: undef :: []), defers := [] } Wc) := ⟨x, hY, rfl, hI'.1.trans hm0, hI'.2⟩
     have HKF : Hid (KeepsFrom w3.heap.size Wc Wc) := keepsFrom_mod_ (Mod.refl (fun _ => False) Wc) (fun q o1 _ h => h.elim)
     clear hI' hm0 hY
     gi_wp2
     exact hK _ _ HKF.out (Mod.refl _ _) HAS.out
   case body =>
     intro lq j a' Wc hj hA
     obtain ⟨x, hx, rfl, hI'⟩ := hA
     have HI := Lib.hid hI'
     have HX := Lib.hid hx
     have HE1c : Hid (Wc.heap[W.heap.size + 1]? = some (.cells #[.int .i64 0] 3)) := hI'.1.heap HE13.out (fun h => h)
     have HE2c : Hid (Wc.heap[W.heap.size + 1 + 1]? = some (.cells #[.int .i64 0] 34)) := hI'.1.heap HE23.out (fun h => h)
     have c1 := cell_of_heap_ HE1c.out
     have c2 := cell_of_heap_ HE2c.out
     have z1 : Wc.frozen? ⟨W.heap.size + 1, 0, none⟩ = false := by simp [World.frozen?, HE1c.out]
     have z2 : Wc.frozen? ⟨W.heap.size + 1 + 1, 0, none⟩ = false := by simp [World.frozen?, HE2c.out]
     obtain ⟨xk, xe⟩ := x
     clear hI' hx
     by_cases he : xe = 176
     · subst he
       gi_wp2
       refine ⟨keepsFrom_mod_ (Mod.refl (fun _ => False) Wc) (fun q o1 _ h => h.elim), ⟨HI.out.1, fun y hy => ?_⟩, CellsK.refl _ _⟩
       rw [List.take_add_one, HX.out] at hy
       rcases List.mem_append.1 hy with hy | hy
       · exact HI.out.2 y hy
       · have e : y = (xk, 176) := by simpa using hy
         rw [e]
     · have he' : (xe == 176) = false := by simpa using he
       have HFD : Hid ((whyN l p (fctF p) n).find? (fun x => decide (¬ x.2 = 176)) = some (xk, xe)) := find_first HX.out (decide_eq_true he) (fun y hy => decide_eq_false (fun h => h (HI.out.2 y hy)))
       gi_wp2
       have hg1 := heap_set_ HE1c.out 0 (.int .i64 xk)
       have hms1 := mod_set_ Wc (W.heap.size + 1) 0 (.int .i64 xk)
       have hms2 := mod_set_ (Wc.setCell ⟨W.heap.size + 1, 0, none⟩ (.int .i64 xk)) (W.heap.size + 1 + 1) 0 (.int .i64 xe)
       have hg2 := heap_set_ (hms1.heap HE2c.out (by omega)) 0 (.int .i64 xe)
       have hmt : Mod (fun g => g = W.heap.size + 1 ∨ g = W.heap.size + 1 + 1) Wc ((Wc.setCell ⟨W.heap.size + 1, 0, none⟩ (.int .i64 xk)).setCell ⟨W.heap.size + 1 + 1, 0, none⟩ (.int .i64 xe)) := (hms1.mono (fun _ _ h => .inl h)).trans (hms2.mono (fun _ _ h => .inr h))
       refine ⟨keepsFrom_mod_ hmt (fun q o1 h1 h2 h3 => by have := HS3.out; omega), rfl, (xk, xe), HFD.out, hms2.heap (by simpa using hg1) (by omega), by simpa using hg2, (HI.out.1.mono (fun _ _ h => h.elim)).trans hmt⟩
   case done =>
     intro D W' hD hI' hK
     obtain ⟨hmI, hall⟩ := hI'
     rw [List.take_of_length_le (Nat.le_refl _)] at hall
     have HV : Hid (ckV l p = (-1, 0)) := by
       unfold Hid ckV
       rw [if_pos HFE.out, HPN.out, List.find?_eq_none.2 (fun x hx => by simp [hall x hx])]
       rfl
     have HE1d : Hid (W'.heap[W.heap.size + 1]? = some (.cells #[.int .i64 0] 3)) := hmI.heap HE13.out (fun h => h)
     have HE2d : Hid (W'.heap[W.heap.size + 1 + 1]? = some (.cells #[.int .i64 0] 34)) := hmI.heap HE23.out (fun h => h)
     have HBd : Hid (Below W.heap.size W W') := HB3.out.trans (hmI.below HB3.out.size (fun _ _ h => h))
     have HMK : Hid (Marks W.heap.size [{ target := .collected D, args := #[] }] W') := ⟨[D], rfl, by simp, fun E hE => by obtain rfl := List.mem_singleton.1 hE; exact ⟨by have := HB3.out.size; omega, hK⟩⟩
     have c1 := cell_of_heap_ HE1d.out
     have c2 := cell_of_heap_ HE2d.out
     have z1 : W'.frozen? ⟨W.heap.size + 1, 0, none⟩ = false := by simp [World.frozen?, HE1d.out]
     have z2 : W'.frozen? ⟨W.heap.size + 1 + 1, 0, none⟩ = false := by simp [World.frozen?, HE2d.out]
     clear hmI hall hK
     simp only [Exit.inBlock, Exit.then]
     go_wp2_with fail
     exact leaves_two_set rfl rfl rfl HE1d.out HE2d.out (by omega) (by omega) (by omega) HBd.out HMK.out (fun w' hb => ⟨by rw [HV.out], hb⟩)
   case stop =>
     intro D c' W' hD hX' hK
     obtain ⟨rfl, x, hfd, h1, h2, hmX⟩ := hX'
     have HV : Hid (ckV l p = x) := by
       unfold Hid ckV
       rw [if_pos HFE.out, HPN.out, hfd]
       rfl
     have HBd : Hid (Below W.heap.size W W') := HB3.out.trans (hmX.below HB3.out.size (fun q hq e => by omega))
     have HMK : Hid (Marks W.heap.size [{ target := .collected D, args := #[] }] W') := ⟨[D], rfl, by simp, fun E hE => by obtain rfl := List.mem_singleton.1 hE; exact ⟨by have := HB3.out.size; omega, hK⟩⟩
     have H1 := Lib.hid h1
     have H2 := Lib.hid h2
     clear hmX hK h1 h2 hfd
     gi_wp2
     exact leaves_two rfl rfl rfl H1.out H2.out HBd.out HMK.out (fun w' hb => ⟨by rw [HV.out], hb⟩)
 · have hfe : (fitE l p == 0) = false := by simpa using hf
   have HV : Hid (ckV l p = (-1, fitE l p)) := by unfold Hid ckV; rw [if_neg hf]
   clear hf
   go_wp2_with fail
   exact leaves_two_set rfl rfl rfl HE12.out HE22.out (by omega) (by omega) (by omega) HB2.out (Marks.nil _ _) (fun w' hb => ⟨by rw [HV.out], hb⟩)
end Eng
end Go.Proofs.YtdfmgneicdpjmaaGreat

namespace Go.Proofs.YtdfmgneicdpjmaaGreat
open Go.RowKit Go.Shelf
attribute [local go_sem] Oper.semAt_some
set_option linter.unusedVariables false
set_option linter.unusedSimpArgs false
set_option maxRecDepth 100000
namespace Eng
open Resp
structure Prc where
 name : ByteArray
 cells : Int
 prog : List Ins
structure Fdn where
 seed : Int
 ahead : Int
 events : Int
 cells : Int
 ports : Int
 fuel : Int
 windows : Int
structure FdnOk (f : Fdn) : Prop where
 seed : 0 ≤ f.seed ∧ f.seed < 18446744073709551616
 ahead : -9223372036854775808 ≤ f.ahead ∧ f.ahead < 9223372036854775808
 events : -9223372036854775808 ≤ f.events ∧ f.events < 9223372036854775808
 cells : -9223372036854775808 ≤ f.cells ∧ f.cells < 9223372036854775808
 ports : -9223372036854775808 ≤ f.ports ∧ f.ports < 9223372036854775808
 fuel : -9223372036854775808 ≤ f.fuel ∧ f.fuel < 9223372036854775808
 windows : -9223372036854775808 ≤ f.windows ∧ f.windows < 9223372036854775808
structure PrcOk (x : Prc) : Prop where
 prog : PrgOk x.prog
 len : x.prog.length ≤ 1000000
 name : x.name.size ≤ 1000000
 cells : -9223372036854775808 ≤ x.cells ∧ x.cells < 9223372036854775808
def fedL (f : Fdn) (pv : Value) : List Value := [.int .u64 f.seed, .int .i64 f.ahead, .int .i64 f.events, .int .i64 f.cells, .int .i64 f.ports, .int .i64 f.fuel, .int .i64 f.windows, pv]
def fedV (f : Fdn) (pv : Value) : Value := .agg (fedL f pv).toArray
theorem fed_cells (f : Fdn) (pv : Value) : (fedV f pv).cells = (fedL f pv).toArray := rfl
def FedAt (W : World) (B : Nat) (f : Fdn) (pv : Value) : Prop := W.heap[B]? = some (.cells (fedL f pv).toArray 84)
theorem infoFed : (Tryz.prog.info? 84).map (·.size) = some 8 := by kernel_rfl
theorem ld_fed {W : World} {B : Nat} {f : Fdn} {pv : Value} (h : FedAt W B f pv) : (Instr.loadAt 84 (.pointer (some ⟨B, 0, none⟩))).run Tryz.prog W = .ok (fedV f pv) W :=
 ld_row W B _ _ (fedL f pv) _ _ Tryz.underlying84 rfl infoFed h
theorem ld_opn2 (t : TypeId) (p : Value) (h : ¬ t = 84) : Instr.loadAt t p = (do loadVar t (← Instr.sureAddr p)) := rfl
theorem FedAt.cells {W : World} {B : Nat} {f : Fdn} {pv : Value} (h : FedAt W B f pv) : W.cell? ⟨B, 0, none⟩ = some (.int .u64 f.seed) ∧ W.cell? ⟨B, 1, none⟩ = some (.int .i64 f.ahead) ∧ W.cell? ⟨B, 2, none⟩ = some (.int .i64 f.events) ∧ W.cell? ⟨B, 3, none⟩ = some (.int .i64 f.cells) ∧ W.cell? ⟨B, 4, none⟩ = some (.int .i64 f.ports) ∧ W.cell? ⟨B, 5, none⟩ = some (.int .i64 f.fuel) ∧ W.cell? ⟨B, 6, none⟩ = some (.int .i64 f.windows) ∧ W.cell? ⟨B, 7, none⟩ = some pv := by
 have h' : W.heap[B]? = _ := h
 refine ⟨?_, ?_, ?_, ?_, ?_, ?_, ?_, ?_⟩ <;> simp [World.cell?, h', fedL]
def PrcIn (W : World) (b o : Nat) (x : Prc) (pv : Value) : Prop := W.cell? ⟨b, o, none⟩ = some (.string x.name) ∧ W.cell? ⟨b, o + 1, none⟩ = some (.int .i64 x.cells) ∧ W.cell? ⟨b, o + 2, none⟩ = some pv
def PrgV (W : World) (pv : Value) (p : List Ins) : Prop := ∃ a c, pv = .slice a p.length c ∧ PrgAt W a p.length p
theorem PrgV.below {W W' : World} {pv : Value} {p : List Ins} (h : PrgV W pv p) (hb : Below W.heap.size W W') : PrgV W' pv p := by
 obtain ⟨a, c, h1, h2⟩ := h
 exact ⟨a, c, h1, h2.below hb⟩
def PrcsAt (W : World) (a : Option Addr) (n : Nat) (ps : List Prc) : Prop := ps.length = n ∧ ∀ k x, ps[k]? = some x → ∃ b o pv, a = some ⟨b, o, none⟩ ∧ PrcIn W b (o + k * 3) x pv ∧ PrgV W pv x.prog
theorem PrcsAt.below {W W' : World} {a : Option Addr} {n : Nat} {ps : List Prc} (h : PrcsAt W a n ps) (hb : Below W.heap.size W W') : PrcsAt W' a n ps :=
 ⟨h.1, fun k x hx => by
   obtain ⟨b, o, pv, h1, ⟨h2, h3, h4⟩, h5⟩ := h.2 k x hx
   have hm : Mod (fun _ => False) W W' := Mod.of_same hb
   exact ⟨b, o, pv, h1, ⟨hm.cell (fun h => h) h2, hm.cell (fun h => h) h3, hm.cell (fun h => h) h4⟩, h5.below hb⟩⟩
def fdnN (f : Fdn) : Nat → Int
 | 0 => f.ahead
 | 1 => f.events
 | 2 => f.cells
 | 3 => f.ports
 | 4 => f.fuel
 | _ => f.windows
def loN : Nat → Int
 | 0 => 1
 | 1 => 0
 | 2 => 0
 | 3 => 0
 | 4 => 0
 | _ => 1
def hiN : Nat → Int
 | 0 => 1048576
 | 1 => 256
 | 2 => 1024
 | 3 => 64
 | 4 => 4096
 | _ => 256
def numL (B : Nat) : Array Value := #[.pointer (some ⟨B, 1, none⟩), .int .i64 1, .int .i64 1048576, .pointer (some ⟨B, 2, none⟩), .int .i64 0, .int .i64 256, .pointer (some ⟨B, 3, none⟩), .int .i64 0, .int .i64 1024, .pointer (some ⟨B, 4, none⟩), .int .i64 0, .int .i64 64, .pointer (some ⟨B, 5, none⟩), .int .i64 0, .int .i64 4096, .pointer (some ⟨B, 6, none⟩), .int .i64 1, .int .i64 256]
def NumAt (W : World) (N B : Nat) : Prop := W.heap[N]? = some (.cells (numL B) 315)
theorem NumAt.at_ {W : World} {N B : Nat} (h : NumAt W N B) {k : Nat} (hk : k < 6) : W.cell? ⟨N, k * 3, none⟩ = some (.pointer (some ⟨B, k + 1, none⟩)) ∧ W.cell? ⟨N, k * 3 + 1, none⟩ = some (.int .i64 (loN k)) ∧ W.cell? ⟨N, k * 3 + 2, none⟩ = some (.int .i64 (hiN k)) := by
 have h' : W.heap[N]? = _ := h
 have hc : k = 0 ∨ k = 1 ∨ k = 2 ∨ k = 3 ∨ k = 4 ∨ k = 5 := by omega
 rcases hc with rfl | rfl | rfl | rfl | rfl | rfl <;> (refine ⟨?_, ?_, ?_⟩ <;> simp [World.cell?, h', numL, loN, hiN])
theorem FedAt.at_ {W : World} {B : Nat} {f : Fdn} {pv : Value} (h : FedAt W B f pv) {k : Nat} (hk : k < 6) : W.cell? ⟨B, k + 1, none⟩ = some (.int .i64 (fdnN f k)) := by
 obtain ⟨-, h1, h2, h3, h4, h5, h6, -⟩ := h.cells
 have hc : k = 0 ∨ k = 1 ∨ k = 2 ∨ k = 3 ∨ k = 4 ∨ k = 5 := by omega
 rcases hc with rfl | rfl | rfl | rfl | rfl | rfl <;> assumption
set_option maxHeartbeats 4000000 in
theorem FdNumbers_any (B : Nat) (W : World) : Calls Tryz.prog 203 #[.pointer (some ⟨B, 0, none⟩)] W fun e w' => ∃ N, e = .returned (.slice (some ⟨N, 0, none⟩) 6 6) ∧ NumAt w' N B ∧ W.heap.size ≤ N ∧ Below W.heap.size W w' := by
 go_enter Tryz.func203, Tryz.ntmps203
 go_wp2_with fail
 go_region
 have HN := Lib.hid (World.alloc_heap_new W (.cells (numL B) 315))
 have HB := Lib.hid (below_drew_ ((Below.refl W.heap.size W).alloc (Nat.le_refl _) (.cells (numL B) 315)))
 unfold numL at HN HB
 go_wp2_with fail
 go_ret
 exact ⟨_, rfl, HN.out, Nat.le_refl _, HB.out⟩
noncomputable def dmV (f : Fdn) (x : Prc) : Int × Int := if cpE x.prog = 0 then (if (ckV ⟨x.cells, 16, f.ahead⟩ x.prog).2 = 171 then (-1, 0) else ckV ⟨x.cells, 16, f.ahead⟩ x.prog) else (cpK x.prog, cpE x.prog)
def DmP (f : Fdn) (x : Prc) (W : World) (e : Ending) (w' : World) : Prop := e = .returned (.tuple #[.int .i64 (dmV f x).1, .int .i64 (dmV f x).2]) ∧ Below W.heap.size W w'
theorem DmP.mk {f : Fdn} {x : Prc} {W w' : World} {a b : Int} (h : dmV f x = (a, b)) (hb : Below W.heap.size W w') : DmP f x W (.returned (.tuple #[.int .i64 a, .int .i64 b])) w' := by
 unfold DmP; rw [h]; exact ⟨rfl, hb⟩
set_option maxHeartbeats 4000000 in
theorem doomed_any (f : Fdn) (fpv : Value) (x : Prc) (pv : Value) (hok : PrcOk x) (W : World) (h : PrgV W pv x.prog) :
   Calls Tryz.prog 243 #[fedV f fpv, .agg #[.string x.name, .int .i64 x.cells, pv]] W (DmP f x W) := by
 obtain ⟨a, c, rfl, hp⟩ := h
 have hlen := hok.len
 have HC := Lib.hid (fun w hw => Check_any a x.prog.length c x.prog w hw hok.prog (by unfold maxLen; omega))
 have HK := Lib.hid (fun w hw => ChkCheck_any a x.prog.length c x.prog ⟨x.cells, 16, f.ahead⟩ w hw hok.prog (by unfold maxLen; omega))
 have HP := Lib.hid hp
 have HV : Hid (dmV f x = if cpE x.prog = 0 then (if (ckV ⟨x.cells, 16, f.ahead⟩ x.prog).2 = 171 then (-1, 0) else ckV ⟨x.cells, 16, f.ahead⟩ x.prog) else (cpK x.prog, cpE x.prog)) := rfl
 unfold lmV at HK
 simp only at HK
 clear hp hok
 unfold fedV fedL
 go_enter Tryz.func243, Tryz.ntmps243
 go_wp2_with fail
 obtain ⟨h1, h2, hs, hb⟩ := two_blocks W (.cells (fedL f fpv).toArray 84) (.cells #[.string x.name, .int .i64 x.cells, .slice a x.prog.length c] 173)
 unfold fedL at h1 h2 hs hb
 have HF := Lib.hid h1
 have HX := Lib.hid h2
 have HB := Lib.hid hb
 clear h1 h2 hs hb
 generalize (W.alloc (.cells [.int .u64 f.seed, .int .i64 f.ahead, .int .i64 f.events, .int .i64 f.cells, .int .i64 f.ports, .int .i64 f.fuel, .int .i64 f.windows, fpv].toArray 84)).alloc (.cells #[.string x.name, .int .i64 x.cells, .slice a x.prog.length c] 173) = w1 at *
 refine (HC.out w1 (HP.out.below HB.out)).mono ?_; rintro e w2 ⟨rfl, hb2⟩
 have hm2 : Mod (fun _ => False) w1 w2 := Mod.of_same hb2
 have HF2 : Hid (w2.heap[W.heap.size]? = some (.cells (fedL f fpv).toArray 84)) := hm2.heap HF.out (fun h => h)
 have HX2 : Hid (w2.heap[W.heap.size + 1]? = some (.cells #[.string x.name, .int .i64 x.cells, .slice a x.prog.length c] 173)) := hm2.heap HX.out (fun h => h)
 have HB2 : Hid (Below W.heap.size W w2) := HB.out.trans (hb2.mono HB.out.size)
 have f1 : w2.cell? ⟨W.heap.size, 1, none⟩ = some (.int .i64 f.ahead) := by simp [World.cell?, HF2.out, fedL]
 have x1 : w2.cell? ⟨W.heap.size + 1, 1, none⟩ = some (.int .i64 x.cells) := by simp [World.cell?, HX2.out]
 have x2 : w2.cell? ⟨W.heap.size + 1, 2, none⟩ = some (.slice a x.prog.length c) := by simp [World.cell?, HX2.out]
 have HPc : Hid (PrgAt w2 a x.prog.length x.prog) := HP.out.below HB2.out
 clear hm2 hb2 HF HX HB HC
 by_cases h0 : cpE x.prog = 0
 · have HV2 : Hid (dmV f x = if (ckV ⟨x.cells, 16, f.ahead⟩ x.prog).2 = 171 then (-1, 0) else ckV ⟨x.cells, 16, f.ahead⟩ x.prog) := by rw [Hid, HV.out, if_pos h0]
   rw [h0]
   have hlt2 : W.heap.size + 1 < w2.heap.size := (Array.getElem?_eq_some_iff.1 HX2.out).1
   clear HV h0
   go_wp2_with fail
   have hma : Mod (fun _ => False) w2 (w2.alloc (.cells #[.int .i64 x.cells, .int .i64 16, .int .i64 f.ahead] 415)) := (Mod.refl _ _).alloc _
   have HBa : Hid (Below W.heap.size W (w2.alloc (.cells #[.int .i64 x.cells, .int .i64 16, .int .i64 f.ahead] 415))) := HB2.out.trans (hma.below HB2.out.size (fun _ _ h => h))
   refine (HK.out _ (HPc.out.below (Mod.below hma (Nat.le_refl _) (fun _ _ h => h)))).mono ?_; rintro e w3 ⟨rfl, hb3⟩
   have HB3 : Hid (Below W.heap.size W w3) := HBa.out.trans (hb3.mono HBa.out.size)
   obtain ⟨⟨ci, ce⟩, hck⟩ : ∃ z, ckV ⟨x.cells, 16, f.ahead⟩ x.prog = z := ⟨_, rfl⟩
   rw [hck] at HV2 ⊢
   clear hma hb3 HK HBa hck f1 x1 x2
   by_cases h1 : ce = 171
   · have HX3 : Hid (dmV f x = (-1, 0)) := by rw [Hid, HV2.out]; simp [h1]
     subst h1
     clear HV2
     go_wp2_with fail
     go_ret2
     exact DmP.mk HX3.out HB3.out
   · have HX3 : Hid (dmV f x = (ci, ce)) := by rw [Hid, HV2.out]; simp [h1]
     have h1' : (ce == 171) = false := by simpa using h1
     clear HV2
     go_wp2_with fail
     go_ret2
     exact DmP.mk HX3.out HB3.out
 · have HV2 : Hid (dmV f x = (cpK x.prog, cpE x.prog)) := by rw [Hid, HV.out, if_neg h0]
   have h0' : (cpE x.prog == 0) = false := by simpa using h0
   clear HV
   go_wp2_with fail
   go_ret2
   exact DmP.mk HV2.out HB2.out
end Eng
end Go.Proofs.YtdfmgneicdpjmaaGreat

namespace Go.Proofs.YtdfmgneicdpjmaaGreat
open Go.RowKit Go.Shelf
attribute [local go_sem] Oper.semAt_some
set_option linter.unusedVariables false
set_option linter.unusedSimpArgs false
set_option maxRecDepth 100000
namespace Eng
open Resp
def prcV (x : Prc) (pv : Value) : Value := .agg #[.string x.name, .int .i64 x.cells, pv]
def PrcAt (W : World) (B : Nat) (x : Prc) (pv : Value) : Prop := W.heap[B]? = some (.cells #[.string x.name, .int .i64 x.cells, pv] 173)
theorem PrcAt.cells {W : World} {B : Nat} {x : Prc} {pv : Value} (h : PrcAt W B x pv) : W.cell? ⟨B, 0, none⟩ = some (.string x.name) ∧ W.cell? ⟨B, 1, none⟩ = some (.int .i64 x.cells) ∧ W.cell? ⟨B, 2, none⟩ = some pv := by
 have h' : W.heap[B]? = _ := h
 refine ⟨?_, ?_, ?_⟩ <;> simp [World.cell?, h']
theorem process1_any (B : Nat) (x : Prc) (pv : Value) (hok : PrcOk x) (W : World) (h : PrcAt W B x pv) (hp : PrgV W pv x.prog) :
   Calls Tryz.prog 240 #[.pointer (some ⟨B, 0, none⟩)] W fun e w' => e = .returned (.bool (decide (¬ cpE x.prog = 0))) ∧ Below W.heap.size W w' := by
 obtain ⟨a, c, rfl, hp⟩ := hp
 have hlen := hok.len
 have HC := Lib.hid (Check_any a x.prog.length c x.prog W hp hok.prog (by unfold maxLen; omega))
 obtain ⟨-, -, c2⟩ := h.cells
 clear hp hok h
 go_enter Tryz.func240, Tryz.ntmps240
 go_wp2_with fail
 refine HC.out.mono ?_; rintro e w2 ⟨rfl, hb2⟩
 have HB := Lib.hid hb2
 clear hb2 HC c2
 by_cases h0 : cpE x.prog = 0
 · rw [h0]
   have H0 := Lib.hid h0
   clear h0
   go_wp2_with fail
   go_ret
   exact ⟨by rw [H0.out]; rfl, HB.out⟩
 · have h0' : (cpE x.prog == 0) = false := by simpa using h0
   go_wp2_with fail
   go_ret
   exact ⟨by simp [h0], HB.out⟩
theorem process2_any (F B : Nat) (f : Fdn) (fpv : Value) (x : Prc) (pv : Value) (hok : PrcOk x) (W : World) (hf : FedAt W F f fpv) (h : PrcAt W B x pv) (hp : PrgV W pv x.prog) :
   Calls Tryz.prog 242 #[.pointer (some ⟨F, 0, none⟩), .pointer (some ⟨B, 0, none⟩)] W fun e w' => e = .returned (.bool (decide (¬ (dmV f x).2 = 0))) ∧ Below W.heap.size W w' := by
 have HC := Lib.hid (doomed_any f fpv x pv hok W hp)
 obtain ⟨c0, c1, c2⟩ := h.cells
 obtain ⟨f0, f1, f2, f3, f4, f5, f6, f7⟩ := hf.cells
 clear hp hok h hf
 unfold fedV fedL at HC
 go_enter Tryz.func242, Tryz.ntmps242
 go_wp2_with fail
 refine HC.out.mono ?_; rintro e w2 ⟨rfl, hb2⟩
 have HB := Lib.hid hb2
 clear hb2 HC c0 c1 c2 f0 f1 f2 f3 f4 f5 f6 f7
 obtain ⟨⟨d1, d2⟩, hd⟩ : ∃ z, dmV f x = z := ⟨_, rfl⟩
 rw [hd]
 have HD := Lib.hid hd
 clear hd
 by_cases h0 : d2 = 0
 · subst h0
   go_wp2_with fail
   go_ret
   exact ⟨by rw [HD.out]; rfl, HB.out⟩
 · have h0' : (d2 == 0) = false := by simpa using h0
   go_wp2_with fail
   go_ret
   exact ⟨by rw [HD.out]; simp [h0], HB.out⟩
theorem toList_inj_ {a b : ByteArray} (h : a.toList = b.toList) : a = b := by
 rw [ByteArray.toList_eq, ByteArray.toList_eq] at h
 obtain ⟨x⟩ := a
 obtain ⟨y⟩ := b
 have := Array.toList_inj.1 h
 subst this
 rfl
theorem process3_any (B : Nat) (x : Prc) (pv : Value) (y : Prc) (qv : Value) (W : World) (h : PrcAt W B x pv) :
   Calls Tryz.prog 245 #[prcV y qv, .pointer (some ⟨B, 0, none⟩)] W fun e w' => e = .returned (.bool (decide (y.name = x.name))) ∧ Below W.heap.size W w' := by
 obtain ⟨c0, -, -⟩ := h.cells
 have hlt : B < W.heap.size := (Array.getElem?_eq_some_iff.1 (show W.heap[B]? = _ from h)).1
 have HB := Lib.hid ((Below.refl W.heap.size W).alloc (Nat.le_refl _) (.cells #[.string y.name, .int .i64 y.cells, qv] 173))
 clear h
 unfold prcV
 go_enter Tryz.func245, Tryz.ntmps245
 go_wp2_with fail
 go_ret
 refine ⟨?_, HB.out⟩
 have e : (y.name.toList == x.name.toList) = decide (y.name = x.name) := by
   by_cases hxy : y.name = x.name
   · rw [hxy]; simp
   · rw [decide_eq_false hxy]
     have : ¬ y.name.toList = x.name.toList := fun h => hxy (toList_inj_ h)
     simpa using this
 rw [← e]
 rfl
def idxV (q : Prc → Bool) (ps : List Prc) (n : Nat) : Int := if ps.findIdx q < n then (ps.findIdx q : Int) else -1
theorem IndexFuncP_any (gf : Nat) (lb : Array Value) (q : Prc → Bool) (a : Option Addr) (n c : Nat) (ps : List Prc) (hn : n ≤ 100000) (W : World) (h : PrcsAt W a n ps) (eg : ∀ args w, (callFunc gf args).run Tryz.prog w = .ok (.enter gf args) w)
   (hq : ∀ W' y qv, Below W.heap.size W W' → Calls Tryz.prog gf (#[prcV y qv] ++ lb) W' fun e w' => e = .returned (.bool (q y)) ∧ Below W'.heap.size W' w') :
   Calls Tryz.prog 278 #[.slice a n c, .func (.func gf) #[] lb] W fun e w' => e = .returned (.int .i64 (idxV q ps n)) ∧ Below W.heap.size W w' := by
 have HQ := Lib.hid hq
 have HP := Lib.hid h
 have HPL := Lib.hid h.1
 have hnI : (n : Int) ≤ 100000 := by omega
 obtain ⟨iv, hiv⟩ : ∃ iv, idxV q ps n = iv := ⟨_, rfl⟩
 rw [hiv]
 have HIV := Lib.hid hiv
 clear hq h hiv
 unfold prcV at HQ
 go_enter Tryz.func278, Tryz.ntmps278
 go_wp2_with fail
 go_loopw [8] (fun i wr => ∃ k : Nat, k ≤ n ∧ i = .int .i64 k ∧ Hid (∀ y ∈ ps.take k, q y = false) ∧ Hid (Below W.heap.size W wr)) (fun i _ => n - (intOf i).toNat)
 case atStart => exact ⟨0, Nat.zero_le _, rfl, fun y hy => by simp at hy, Below.refl _ _⟩
 case round =>
   obtain ⟨k, hk, rfl, HN, HB⟩ := hrel
   by_cases hlt : k < n
   · have hltI : (k : Int) < n := by omega
     have hkp : k < ps.length := by have := HPL.out; omega
     obtain ⟨y, hy⟩ : ∃ y, ps[k]? = some y := ⟨ps[k], List.getElem?_eq_getElem hkp⟩
     obtain ⟨b, o, qv, hab, ⟨c0, c1, c2⟩, -⟩ := (HP.out.below HB.out).2 k y hy
     subst hab
     have HY := Lib.hid hy
     have HC := Lib.hid (HQ.out wr y qv HB.out)
     clear hy hkp
     go_wp2_with fail
     refine HC.out.mono ?_; rintro e w2 ⟨rfl, hb2⟩
     have HB2 := Lib.hid (HB.out.trans (hb2.mono HB.out.size))
     clear hb2 HC c0 c1 c2
     cases hqy : q y with
     | true =>
       have HV : Hid (iv = (k : Int)) := by
         have h1 : ps.findIdx q = k := by
           obtain ⟨hkp, e⟩ := List.getElem?_eq_some_iff.1 HY.out
           refine (List.findIdx_eq hkp).2 ⟨by rw [e]; exact hqy, fun j hj => ?_⟩
           exact HN.out _ (by rw [List.mem_take_iff_getElem]; exact ⟨j, by omega, rfl⟩)
         rw [Hid, ← HIV.out, idxV, if_pos (by omega), h1]
       go_wp2_with fail
       go_ret
       exact ⟨by rw [HV.out]; rfl, HB2.out⟩
     | false =>
       have HN2 : Hid (∀ y ∈ ps.take (k + 1), q y = false) := by
         intro z hz
         rw [List.take_add_one, HY.out] at hz
         rcases List.mem_append.1 hz with hz | hz
         · exact HN.out z hz
         · have e : z = y := by simpa using hz
           rw [e]; exact hqy
       go_wp2_with fail
       exact ⟨⟨k + 1, by omega, by simp, HN2.out, HB2.out⟩, by simp [intOf]; omega⟩
   · obtain rfl : k = n := by omega
     have hx : ps.findIdx q = k := by
       have := HPL.out
       rw [← this]
       refine List.findIdx_eq_length.2 (fun y hy => ?_)
       have := HN.out
       rw [List.take_of_length_le (by omega)] at this
       exact this y hy
     have HV : Hid (iv = -1) := by rw [Hid, ← HIV.out, idxV, if_neg (by omega)]
     clear hx
     go_wp2_with fail
     go_ret
     exact ⟨by rw [HV.out]; rfl, HB.out⟩
def hasP (q : Prc → Bool) (ps : List Prc) (n : Nat) : Bool := decide (ps.findIdx q < n)
theorem ContainsFuncP_any (gf : Nat) (lb : Array Value) (q : Prc → Bool) (a : Option Addr) (n c : Nat) (ps : List Prc) (hn : n ≤ 100000) (W : World) (h : PrcsAt W a n ps) (eg : ∀ args w, (callFunc gf args).run Tryz.prog w = .ok (.enter gf args) w)
   (hq : ∀ W' y qv, Below W.heap.size W W' → Calls Tryz.prog gf (#[prcV y qv] ++ lb) W' fun e w' => e = .returned (.bool (q y)) ∧ Below W'.heap.size W' w') :
   Calls Tryz.prog 244 #[.slice a n c, .func (.func gf) #[] lb] W fun e w' => e = .returned (.bool (hasP q ps n)) ∧ Below W.heap.size W w' := by
 have HI := Lib.hid (IndexFuncP_any gf lb q a n c ps hn W h eg hq)
 obtain ⟨v, hv⟩ : ∃ v, hasP q ps n = v := ⟨_, rfl⟩
 rw [hv]
 have HV := Lib.hid hv
 clear hq h hv eg
 go_enter Tryz.func244, Tryz.ntmps244
 go_wp2_with fail
 refine HI.out.mono ?_; rintro e w2 ⟨rfl, hb2⟩
 have HB := Lib.hid hb2
 clear hb2 HI
 by_cases hj : ps.findIdx q < n
 · have HV2 : Hid (v = true) := by rw [Hid, ← HV.out]; exact decide_eq_true hj
   unfold idxV
   rw [if_pos hj]
   generalize ps.findIdx q = j at *
   have hj0 : ¬ (j : Int) < 0 := by omega
   have hj1 : (0 : Int) ≤ j := by omega
   clear HV
   go_wp2_with fail
   go_ret
   exact ⟨by rw [HV2.out]; simp, HB.out⟩
 · have HV2 : Hid (v = false) := by rw [Hid, ← HV.out]; exact decide_eq_false hj
   unfold idxV
   rw [if_neg hj]
   clear HV hj
   go_wp2_with fail
   go_ret
   exact ⟨by rw [HV2.out]; rfl, HB.out⟩
end Eng
end Go.Proofs.YtdfmgneicdpjmaaGreat
