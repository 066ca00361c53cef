/- Slots: taking the first free place. -/
import Derived.Test.YtpcbmckknafdgaaSlotF
import Derived.Laws.ResultCell
namespace Go.Proofs.Ytpcbmckknafdgaa
open Go.RowKit Go.Shelf
set_option linter.unusedVariables false
set_option linter.unusedSimpArgs false
set_option maxRecDepth 100000
namespace Slot

theorem takeT_nil {T : Tab} (h : T.free = []) : takeT T = (T, (0, 0), 4) := by rw [takeT, h]
theorem takeT_cons {T : Tab} {i : Nat} {r : List Nat} (h : T.free = i :: r) : takeT T = ({ T with lives := T.lives.set i (T.lives.getD i 0 + 1), taken := T.taken.set i true, free := r }, ((i : Int), T.lives.getD i 0 + 1), 0) := by rw [takeT, h]
theorem nextT_nil {T : Tab} (h : T.free = []) : nextT T = ((0, 0), false) := by rw [nextT, h]
theorem take_valid {n : Nat} {T : Tab} (hv : Valid n T) : Valid n (takeT T).1 := by
  cases hf : T.free with
  | nil => rw [takeT_nil hf]; exact hv
  | cons i r =>
    rw [takeT_cons hf]
    obtain ⟨hi, ht, hl⟩ := hv.free i (by rw [hf]; exact List.mem_cons_self)
    have hnd := hv.nodup
    rw [hf, List.nodup_cons] at hnd
    have hll := hv.ll
    have hlt := hv.lt
    refine ⟨by simpa using hv.ll, by simpa using hv.lt, hnd.2, fun j hj => ?_, fun j hj => ?_, hv.most, hv.n⟩
    · obtain ⟨a, b, c⟩ := hv.free j (by rw [hf]; exact List.mem_cons_of_mem _ hj)
      have hji : j ≠ i := fun e => by subst e; exact hnd.1 hj
      show j < n ∧ (T.taken.set i true).getD j false = false ∧ (T.lives.set i _).getD j 0 < T.most
      rw [getD_set _ _ _ _ _ (by omega), getD_set _ _ _ _ _ (by omega), if_neg hji, if_neg hji]
      exact ⟨a, b, c⟩
    · show 0 ≤ (T.lives.set i _).getD j 0 ∧ (T.lives.set i _).getD j 0 ≤ T.most
      rw [getD_set _ _ _ _ _ (by omega)]
      obtain ⟨a, b⟩ := hv.lives j hj
      obtain ⟨a', b'⟩ := hv.lives i hi
      split <;> omega

theorem take_results {W : World} {S : Nat} {x : R} {e : Int} {tmps : Array Value} (h1 : RefAt W S x) (e2 : tmps[2]? = some (.pointer (some ⟨S, 0, none⟩))) (e3 : tmps[3]? = some (.int .i64 e)) :
    (results Try.f23 tmps).run Try.prog W = .ok (.tuple #[.agg #[.int .i64 x.1, .int .i64 x.2], .int .i64 e]) W := by
  have c0 := h1.c0
  have c1 := h1.c1
  simp [results, Try.results23, go_sem, e2, e3, c0, c1]

theorem Take_full (p q n : Nat) (T : Tab) (w : World) (h : TableAt w p q n T) (hf : T.free = []) :
    Calls Try.prog 23 #[.pointer (some ⟨p, 0, none⟩)] w fun e w' => e = .returned (.tuple #[.agg #[.int .i64 0, .int .i64 0], .int .i64 4]) ∧ Below w.heap.size w w' := by
  have hB0 : Below w.heap.size w (w.alloc (.cells #[.int .i64 0, .int .i64 0] 26)) := (Below.refl _ w).alloc (Nat.le_refl _) _
  have h1 := h.below hB0
  have x1 : RefAt (w.alloc (.cells #[.int .i64 0, .int .i64 0] 26)) w.heap.size (0, 0) := World.alloc_heap_new w _
  have hs0 : (w.alloc (.cells #[.int .i64 0, .int .i64 0] 26)).heap.size = w.heap.size + 1 := by simp
  have HN := Lib.hid (nextT_nil hf)
  go_enter Try.func23, Try.ntmps23
  go_wp2_with fail
  refine (none_no p q n T _ h1).mono ?_; rintro e w' ⟨rfl, rfl⟩
  go_wp2_with fail
  refine (Next_any p q n T _ h1).mono ?_; rintro e w1 ⟨rfl, hb1⟩; rw [HN.out]
  have x2 : RefAt w1 w.heap.size (0, 0) := (hb1.block w.heap.size (by omega)).trans x1
  have hB1 := hB0.trans (hb1.mono (by omega))
  generalize w.alloc (.cells #[.int .i64 0, .int .i64 0] 26) = w0 at *
  have x3 : RefAt (w1.alloc (.cells #[.int .i64 0, .int .i64 0] 26)) w.heap.size (0, 0) := (Below.heap_alloc w1 _ _ (Array.getElem?_eq_some_iff.1 x2).1).trans x2
  have g := RefAt.set x3 0 0
  have r0 := x3.c0
  have r1 := x3.c1
  have rf : ∀ i, (w1.alloc (.cells #[.int .i64 0, .int .i64 0] 26)).frozen? ⟨w.heap.size, i, none⟩ = false := fun i => by simp [World.frozen?, show (w1.alloc (.cells #[.int .i64 0, .int .i64 0] 26)).heap[w.heap.size]? = _ from x3]
  have rf0 := rf 0
  have rf1 := rf 1
  have hB2 := hB1.alloc hB1.size (.cells #[.int .i64 0, .int .i64 0] 26)
  have G := Lib.hid g
  have G0 := Lib.hid (RefAt.c0 g)
  have G1 := Lib.hid (RefAt.c1 g)
  clear g
  go_wp2_with fail
  refine bodyPost_ret (v := .tuple #[.agg #[.int .i64 0, .int .i64 0], .int .i64 4]) (take_results G.out rfl rfl) rfl ⟨rfl, ?_⟩
  exact (hB2.setCell (p := ⟨w.heap.size, 0, none⟩) (Nat.le_refl _) _).setCell (p := ⟨w.heap.size, 1, none⟩) (Nat.le_refl _) _

set_option maxHeartbeats 1000000 in
theorem Take_yes (p q n : Nat) (T : Tab) (i : Nat) (rest : List Nat) (w : World) (h : TableAt w p q n T) (hf : T.free = i :: rest) :
    Calls Try.prog 23 #[.pointer (some ⟨p, 0, none⟩)] w fun e w' => e = .returned (.tuple #[.agg #[.int .i64 (i : Int), .int .i64 (T.lives.getD i 0 + 1)], .int .i64 0]) ∧ TableAt w' p q n (takeT T).1 ∧ Mod (fun k => k = p ∨ k = q) w w' := by
  have hB0 : Below w.heap.size w (w.alloc (.cells #[.int .i64 0, .int .i64 0] 26)) := (Below.refl _ w).alloc (Nat.le_refl _) _
  have h1 := h.below hB0
  have hlt := h.lt
  have x1 : RefAt (w.alloc (.cells #[.int .i64 0, .int .i64 0] 26)) w.heap.size (0, 0) := World.alloc_heap_new w _
  have hs0 : (w.alloc (.cells #[.int .i64 0, .int .i64 0] 26)).heap.size = w.heap.size + 1 := by simp
  have HN := Lib.hid (nextT_cons hf)
  have HV := Lib.hid (take_valid h.2.1)
  have HT := Lib.hid (takeT_cons hf)
  have hm := h.2.1.most.2
  obtain ⟨hin, htk, hlf⟩ := h.2.1.free i (by rw [hf]; exact List.mem_cons_self)
  have hl0 := (h.2.1.lives i hin).1
  have hnn := h.2.1.n
  have Hf := Lib.hid hf
  clear hf htk
  go_enter Try.func23, Try.ntmps23
  go_wp2_with fail
  refine (none_no p q n T _ h1).mono ?_; rintro e w' ⟨rfl, rfl⟩
  go_wp2_with fail
  refine (Next_any p q n T _ h1).mono ?_; rintro e w1 ⟨rfl, hb1⟩; rw [HN.out]
  have x2 : RefAt w1 w.heap.size (0, 0) := (hb1.block w.heap.size (by omega)).trans x1
  have hB1 := hB0.trans (hb1.mono (by omega))
  have h2 := h1.below hb1
  generalize w.alloc (.cells #[.int .i64 0, .int .i64 0] 26) = w0 at *
  generalize hlfe : T.lives.getD i 0 = lf at *
  have Hlfe := Lib.hid hlfe
  clear hlfe
  have x3 : RefAt (w1.alloc (.cells #[.int .i64 (i : Int), .int .i64 (lf + 1)] 26)) w.heap.size (0, 0) := (Below.heap_alloc w1 _ _ (Array.getElem?_eq_some_iff.1 x2).1).trans x2
  have x4 : RefAt (w1.alloc (.cells #[.int .i64 (i : Int), .int .i64 (lf + 1)] 26)) w1.heap.size ((i : Int), lf + 1) := World.alloc_heap_new w1 _
  have h3 := h2.below ((Below.refl _ w1).alloc (Nat.le_refl _) (.cells #[.int .i64 (i : Int), .int .i64 (lf + 1)] 26))
  have hB2 := hB1.alloc hB1.size (.cells #[.int .i64 (i : Int), .int .i64 (lf + 1)] 26)
  have hne : w.heap.size < w1.heap.size := (Array.getElem?_eq_some_iff.1 x2).1
  go_wp2_with fail
  generalize w1.alloc (.cells #[.int .i64 (i : Int), .int .i64 (lf + 1)] 26) = w2 at *
  generalize w1.heap.size = B1 at *
  have y0 : w2.cell? ⟨B1, 0, none⟩ = some (.int .i64 (i : Int)) := x4.c0
  have y1 : w2.cell? ⟨B1, 1, none⟩ = some (.int .i64 (lf + 1)) := x4.c1
  obtain ⟨hpq, hv, fst', nx', hp, hq, hch⟩ := h3
  have c0 : w2.cell? ⟨p, 0, none⟩ = some (.slice (some ⟨q, 0, none⟩) n n) := by simp [World.cell?, hp]
  have c2 : w2.cell? ⟨p, 2, none⟩ = some (.int .i64 fst') := by simp [World.cell?, hp]
  have f2 : w2.frozen? ⟨p, 2, none⟩ = false := by simp [World.frozen?, hp]
  obtain ⟨cur, hcur, hsz, hcc⟩ := id hq
  obtain ⟨a0, a1, a2⟩ := hcc i hin
  have d0 : w2.cell? ⟨q, i * 3, none⟩ = some (.int .i64 lf) := by rw [← Hlfe.out]; simp [World.cell?, hcur, a0]
  have d1 : w2.cell? ⟨q, i * 3 + 1, none⟩ = some (.bool (T.taken.getD i false)) := by simp [World.cell?, hcur, a1]
  have d2 : w2.cell? ⟨q, i * 3 + 2, none⟩ = some (.int .i64 (nx' i)) := by simp [World.cell?, hcur, a2]
  have g0 : w2.frozen? ⟨q, i * 3, none⟩ = false := by simp [World.frozen?, hcur]
  have g1 : w2.frozen? ⟨q, i * 3 + 1, none⟩ = false := by simp [World.frozen?, hcur]
  have g2 : w2.frozen? ⟨q, i * 3 + 2, none⟩ = false := by simp [World.frozen?, hcur]
  have hinI : (i : Int) < n := by omega
  have Hq := Lib.hid hq
  have Hp := Lib.hid hp
  have Hch := Lib.hid hch
  have Hx3 := Lib.hid x3
  have Hx4 := Lib.hid x4
  have HB2 := Lib.hid hB2
  have Hv := Lib.hid hv
  clear hcur hsz hcc a0 a1 a2 hq hp hch x3 x4 hB2 hB1 hB0 h1 h2 h x1 x2 hv
  go_quiet (fail)
  rename_i hK
  refine hK _ _ ?_
  clear hK
  iterate 26 (first | go_values | go_skip | go_guarded | go_step | go_upon | go_back | (simp only [Int.not_lt, Int.not_le] at *; go_simp) )
  have hpB : p ≠ B1 := by omega
  have hqB : q ≠ B1 := by omega
  have hpw : p ≠ w.heap.size := by omega
  have hqw : q ≠ w.heap.size := by omega
  have s0 := (World.cell?_setCell_other (w2.drewN nq) ⟨p, 2, none⟩ ⟨q, i * 3, none⟩ (.int .i64 (nx' i)) (fun e => hpq (by injection e))).trans d0
  have s1 := (World.cell?_setCell_other (w2.drewN nq) ⟨p, 2, none⟩ ⟨q, i * 3 + 1, none⟩ (.int .i64 (nx' i)) (fun e => hpq (by injection e))).trans d1
  have s2 := (World.cell?_setCell_other (w2.drewN nq) ⟨p, 2, none⟩ ⟨q, i * 3 + 2, none⟩ (.int .i64 (nx' i)) (fun e => hpq (by injection e))).trans d2
  have s3 := (World.cell?_setCell_other (w2.drewN nq) ⟨p, 2, none⟩ ⟨B1, 0, none⟩ (.int .i64 (nx' i)) (fun e => hpB (by injection e))).trans y0
  have s4 := (World.cell?_setCell_other (w2.drewN nq) ⟨p, 2, none⟩ ⟨B1, 1, none⟩ (.int .i64 (nx' i)) (fun e => hpB (by injection e))).trans y1
  have Hx3' : Hid (RefAt ((w2.drewN nq).setCell ⟨p, 2, none⟩ (.int .i64 (nx' i))) w.heap.size (0, 0)) := Lib.hid ((Below.heap_setCell _ _ _ _ (fun e => hpw e.symm)).trans Hx3.out)
  have Hx4' : Hid (RefAt ((w2.drewN nq).setCell ⟨p, 2, none⟩ (.int .i64 (nx' i))) B1 ((i : Int), lf + 1)) := Lib.hid ((Below.heap_setCell _ _ _ _ (fun e => hpB e.symm)).trans Hx4.out)
  have q0 : ((w2.drewN nq).setCell ⟨p, 2, none⟩ (.int .i64 (nx' i))).frozen? ⟨q, i * 3, none⟩ = false := by rw [World.frozen?_setCell]; exact g0
  have q1 : ((w2.drewN nq).setCell ⟨p, 2, none⟩ (.int .i64 (nx' i))).frozen? ⟨q, i * 3 + 1, none⟩ = false := by rw [World.frozen?_setCell]; exact g1
  have q2 : ((w2.drewN nq).setCell ⟨p, 2, none⟩ (.int .i64 (nx' i))).frozen? ⟨q, i * 3 + 2, none⟩ = false := by rw [World.frozen?_setCell]; exact g2
  have Hq' : Hid (PlacesAt ((w2.drewN nq).setCell ⟨p, 2, none⟩ (.int .i64 (nx' i))) q n T nx') := Lib.hid (places_other (W := w2.drewN nq) Hq.out hpq _)
  have Hp' : Hid (((w2.drewN nq).setCell ⟨p, 2, none⟩ (.int .i64 (nx' i))).heap[p]? = some (.cells #[.slice (some ⟨q, 0, none⟩) n n, .int .i64 T.most, .int .i64 (nx' i)] 74 (0, 0))) := Lib.hid (head_set (W := w2.drewN nq) Hp.out)
  have HM' : Hid (Mod (fun k => k = p ∨ k = q) w ((w2.drewN nq).setCell ⟨p, 2, none⟩ (.int .i64 (nx' i)))) := Lib.hid (Mod.setCell (S := fun k => k = p ∨ k = q) (p := ⟨p, 2, none⟩) (Mod.of_same (below_drewN HB2.out nq)) (.inr (.inl rfl)) _)
  generalize (w2.drewN nq).setCell ⟨p, 2, none⟩ (.int .i64 (nx' i)) = V1 at *
  clear d0 d1 d2 y0 y1 c0 c2 f2 g0 g1 g2 Hx3 Hx4 Hq Hp HB2
  have t1 := (World.cell?_setCell_other V1 ⟨q, i * 3, none⟩ ⟨q, i * 3 + 1, none⟩ (.int .i64 (lf + 1)) (by simp)).trans s1
  have t2 := (World.cell?_setCell_other V1 ⟨q, i * 3, none⟩ ⟨q, i * 3 + 2, none⟩ (.int .i64 (lf + 1)) (by simp)).trans s2
  have t3 := (World.cell?_setCell_other V1 ⟨q, i * 3, none⟩ ⟨B1, 0, none⟩ (.int .i64 (lf + 1)) (fun e => hqB (by injection e))).trans s3
  have t4 := (World.cell?_setCell_other V1 ⟨q, i * 3, none⟩ ⟨B1, 1, none⟩ (.int .i64 (lf + 1)) (fun e => hqB (by injection e))).trans s4
  have u2 := (World.cell?_setCell_other (V1.setCell ⟨q, i * 3, none⟩ (.int .i64 (lf + 1))) ⟨q, i * 3 + 1, none⟩ ⟨q, i * 3 + 2, none⟩ (.bool true) (by simp)).trans t2
  have u3 := (World.cell?_setCell_other (V1.setCell ⟨q, i * 3, none⟩ (.int .i64 (lf + 1))) ⟨q, i * 3 + 1, none⟩ ⟨B1, 0, none⟩ (.bool true) (fun e => hqB (by injection e))).trans t3
  have u4 := (World.cell?_setCell_other (V1.setCell ⟨q, i * 3, none⟩ (.int .i64 (lf + 1))) ⟨q, i * 3 + 1, none⟩ ⟨B1, 1, none⟩ (.bool true) (fun e => hqB (by injection e))).trans t4
  have v3 := (World.cell?_setCell_other ((V1.setCell ⟨q, i * 3, none⟩ (.int .i64 (lf + 1))).setCell ⟨q, i * 3 + 1, none⟩ (.bool true)) ⟨q, i * 3 + 2, none⟩ ⟨B1, 0, none⟩ (.int .i64 (-1)) (fun e => hqB (by injection e))).trans u3
  have v4 := (World.cell?_setCell_other ((V1.setCell ⟨q, i * 3, none⟩ (.int .i64 (lf + 1))).setCell ⟨q, i * 3 + 1, none⟩ (.bool true)) ⟨q, i * 3 + 2, none⟩ ⟨B1, 1, none⟩ (.int .i64 (-1)) (fun e => hqB (by injection e))).trans u4
  have k1 : (V1.setCell ⟨q, i * 3, none⟩ (.int .i64 (lf + 1))).frozen? ⟨q, i * 3 + 1, none⟩ = false := by simp only [World.frozen?_setCell]; exact q1
  have k2 : ((V1.setCell ⟨q, i * 3, none⟩ (.int .i64 (lf + 1))).setCell ⟨q, i * 3 + 1, none⟩ (.bool true)).frozen? ⟨q, i * 3 + 2, none⟩ = false := by simp only [World.frozen?_setCell]; exact q2
  have hlv := Hv.out.ll
  have hlt' := Hv.out.lt
  have Z1 := places_life Hq'.out i hin hlv (lf + 1)
  have Z2 := places_taken Z1 i hin hlt' true
  have Z3 := Lib.hid (places_set Z2 i hin (-1))
  clear Z1 Z2
  have Y := Lib.hid (heap_set_other (heap_set_other (heap_set_other Hp'.out (a := ⟨q, i * 3, none⟩) (fun e => hpq e.symm) (.int .i64 (lf + 1))) (a := ⟨q, i * 3 + 1, none⟩) (fun e => hpq e.symm) (.bool true)) (a := ⟨q, i * 3 + 2, none⟩) (fun e => hpq e.symm) (.int .i64 (-1)))
  have X3 : Hid (RefAt (((V1.setCell ⟨q, i * 3, none⟩ (.int .i64 (lf + 1))).setCell ⟨q, i * 3 + 1, none⟩ (.bool true)).setCell ⟨q, i * 3 + 2, none⟩ (.int .i64 (-1))) w.heap.size (0, 0)) := Lib.hid (heap_set_other (heap_set_other (heap_set_other Hx3'.out (a := ⟨q, i * 3, none⟩) hqw (.int .i64 (lf + 1))) (a := ⟨q, i * 3 + 1, none⟩) hqw (.bool true)) (a := ⟨q, i * 3 + 2, none⟩) hqw (.int .i64 (-1)))
  have HM4 : Hid (Mod (fun k => k = p ∨ k = q) w (((V1.setCell ⟨q, i * 3, none⟩ (.int .i64 (lf + 1))).setCell ⟨q, i * 3 + 1, none⟩ (.bool true)).setCell ⟨q, i * 3 + 2, none⟩ (.int .i64 (-1)))) := Lib.hid (Mod.setCell (S := fun k => k = p ∨ k = q) (p := ⟨q, i * 3 + 2, none⟩) (Mod.setCell (S := fun k => k = p ∨ k = q) (p := ⟨q, i * 3 + 1, none⟩) (Mod.setCell (S := fun k => k = p ∨ k = q) (p := ⟨q, i * 3, none⟩) HM'.out (.inr (.inr rfl)) _) (.inr (.inr rfl)) _) (.inr (.inr rfl)) _)
  have r0 := Hx3'.out.c0
  have r1 := Hx3'.out.c1
  have rf : ∀ i, V1.frozen? ⟨w.heap.size, i, none⟩ = false := fun i => by simp [World.frozen?, show V1.heap[w.heap.size]? = _ from Hx3'.out]
  have rf0 := rf 0
  have rf1 := rf 1
  clear rf
  have G0 := RefAt.set X3.out (i : Int) (lf + 1)
  have G := Lib.hid G0
  clear G0
  iterate 90 (try (first | go_values | go_skip | go_guarded | go_step | go_upon | go_back))
  rw [Hlfe.out]
  refine bodyPost_ret (v := .tuple #[.agg #[.int .i64 (i : Int), .int .i64 (lf + 1)], .int .i64 0]) (take_results G.out rfl rfl) rfl ⟨rfl, ?_, ?_⟩
  · have hT := HV.out
    rw [HT.out] at hT ⊢
    have hnd := Hv.out.nodup
    have hch := Hch.out
    rw [Hf.out] at hch hnd
    rw [List.nodup_cons] at hnd
    refine ⟨hpq, hT, nx' i, (fun j => if j = i then -1 else nx' j), ?_, ?_, ?_⟩
    · exact heap_set_other (heap_set_other Y.out (a := ⟨w.heap.size, 0, none⟩) (fun e => hpw e.symm) _) (a := ⟨w.heap.size, 1, none⟩) (fun e => hpw e.symm) _
    · exact places_other (a := ⟨w.heap.size, 1, none⟩) (places_other (a := ⟨w.heap.size, 0, none⟩) Z3.out (fun e => hqw e.symm) _) (fun e => hqw e.symm) _
    · refine Chain.congr ?_ hch.2
      intro j hj
      have hji : j ≠ i := fun e => by rw [e] at hj; exact hnd.1 hj
      simp only [if_neg hji]
  · exact Mod.setCell (S := fun k => k = p ∨ k = q) (p := ⟨w.heap.size, 1, none⟩) (Mod.setCell (S := fun k => k = p ∨ k = q) (p := ⟨w.heap.size, 0, none⟩) HM4.out (.inl (Nat.le_refl _)) _) (.inl (Nat.le_refl _)) _

/-- Take: what the plain function says. -/
theorem Take_any (p q n : Nat) (T : Tab) (w : World) (h : TableAt w p q n T) :
    Calls Try.prog 23 #[.pointer (some ⟨p, 0, none⟩)] w fun e w' => e = .returned (.tuple #[.agg #[.int .i64 (takeT T).2.1.1, .int .i64 (takeT T).2.1.2], .int .i64 (takeT T).2.2]) ∧ TableAt w' p q n (takeT T).1 ∧ Mod (fun k => k = p ∨ k = q) w w' := by
  cases hf : T.free with
  | nil =>
    refine (Take_full p q n T w h hf).mono ?_
    rintro e w' ⟨rfl, hb⟩
    rw [takeT_nil hf]
    exact ⟨rfl, h.below hb, Mod.of_same hb⟩
  | cons i r =>
    refine (Take_yes p q n T i r w h hf).mono ?_
    rintro e w' ⟨rfl, h1, h2⟩
    exact ⟨by rw [takeT_cons hf], h1, h2⟩
end Slot
end Go.Proofs.Ytpcbmckknafdgaa
