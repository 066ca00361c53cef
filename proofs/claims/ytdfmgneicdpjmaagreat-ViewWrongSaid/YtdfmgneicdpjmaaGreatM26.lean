import Derived.Test.YtdfmgneicdpjmaaGreatM24
import Derived.Test.YtdfmgneicdpjmaaGreatM25
import Derived.Deep.Cut
import Derived.Deep.RegionWith
import Derived.Test.YtdfmgneicdpjmaaGreatM07
/- check.hands: the iterator of what an instruction hands on. -/
namespace Go.Proofs.YtdfmgneicdpjmaaGreat
open Go.RowKit Go.Shelf
attribute [local go_sem] Oper.semAt_some
set_option linter.unusedVariables false
set_option linter.unusedSimpArgs false
set_option maxRecDepth 100000
namespace Eng
open Resp

theorem alloc_sz_ (w : World) (o : Obj) : (w.alloc o).heap.size = w.heap.size + 1 := by show (w.heap.push _).size = _; rw [Array.size_push]
theorem two_blocks (W : World) (o1 o2 : Obj) : ((W.alloc o1).alloc o2).heap[W.heap.size]? = some o1 ∧ ((W.alloc o1).alloc o2).heap[W.heap.size + 1]? = some o2 ∧ ((W.alloc o1).alloc o2).heap.size = W.heap.size + 2 ∧ Below W.heap.size W ((W.alloc o1).alloc o2) := by
  have z1 := alloc_sz_ W o1
  refine ⟨((Mod.refl (fun _ => False) _).alloc _).heap (World.alloc_heap_new W _) (fun h => h), ?_, by rw [alloc_sz_, z1], (((Mod.refl (fun _ => False) W).alloc _).alloc _).below (Nat.le_refl _) (fun _ _ h => h)⟩
  have := World.alloc_heap_new (W.alloc o1) o2
  rw [z1] at this
  exact this
theorem three_blocks (W : World) (o1 o2 o3 : Obj) : (((W.alloc o1).alloc o2).alloc o3).heap[W.heap.size]? = some o1 ∧ (((W.alloc o1).alloc o2).alloc o3).heap[W.heap.size + 1]? = some o2 ∧ (((W.alloc o1).alloc o2).alloc o3).heap[W.heap.size + 2]? = some o3 ∧ (((W.alloc o1).alloc o2).alloc o3).heap.size = W.heap.size + 3 ∧ Below W.heap.size W (((W.alloc o1).alloc o2).alloc o3) := by
  obtain ⟨h1, h2, hs, hb⟩ := two_blocks W o1 o2
  have hm : Mod (fun _ => False) ((W.alloc o1).alloc o2) (((W.alloc o1).alloc o2).alloc o3) := (Mod.refl _ _).alloc _
  refine ⟨hm.heap h1 (fun h => h), hm.heap h2 (fun h => h), ?_, by rw [alloc_sz_, hs], hb.trans (hm.below hb.size (fun _ _ h => h))⟩
  have := World.alloc_heap_new ((W.alloc o1).alloc o2) o3
  rw [hs] at this
  exact this
/-- What the iterator holds. -/
def HdAt (bp bk bf : Nat) (pv : Value) (k : Nat) (f : Fc) (W : World) : Prop :=
  W.heap[bp]? = some (.cells #[pv] 170) ∧ W.heap[bk]? = some (.cells #[.int .i64 (k : Int)] 3) ∧ FcAt W bf f
set_option maxHeartbeats 4000000 in
theorem hands_any (a : Option Addr) (n c k : Nat) (f : Fc) (W : World) :
    Calls Tryz.prog 413 #[.slice a n c, .int .i64 (k : Int), fcV f] W fun e w' => ∃ bp bk bf, e = .returned (.func (.func 431) #[] #[.pointer (some ⟨bp, 0, none⟩), .pointer (some ⟨bk, 0, none⟩), .pointer (some ⟨bf, 0, none⟩)]) ∧ HdAt bp bk bf (.slice a n c) k f w' ∧ (W.heap.size ≤ bp ∧ W.heap.size ≤ bk ∧ W.heap.size ≤ bf) ∧ (bp < w'.heap.size ∧ bk < w'.heap.size ∧ bf < w'.heap.size) ∧ ¬ bp = bf ∧ ¬ bk = bf ∧ Below W.heap.size W w' := by
  unfold fcV fcL rgL
  go_enter Tryz.func413, Tryz.ntmps413
  go_wp2_with fail
  go_ret
  obtain ⟨h1, h2, h3, hs, hb⟩ := three_blocks W (.cells #[.slice a n c] 170) (.cells #[.int .i64 (k : Int)] 3) (.cells (fcL f).toArray 541)
  exact ⟨_, _, _, rfl, ⟨h1, h2, h3⟩, ⟨by omega, by omega, by omega⟩, ⟨by have := hs; unfold fcL rgL at this; omega, by have := hs; unfold fcL rgL at this; omega, by have := hs; unfold fcL rgL at this; omega⟩, by omega, by omega, hb⟩
end Eng
end Go.Proofs.YtdfmgneicdpjmaaGreat

/- Rows of facts. -/
namespace Go.Proofs.YtdfmgneicdpjmaaGreat
open Go.RowKit Go.Shelf
set_option linter.unusedVariables false
set_option linter.unusedSimpArgs false
set_option maxRecDepth 100000
namespace Eng
open Resp

def fcsL (fs : List Fc) : List Value := fs.flatMap fcL
theorem fcL_len (f : Fc) : (fcL f).length = 17 := rfl
theorem fcsL_cons (f : Fc) (t : List Fc) : fcsL (f :: t) = fcL f ++ fcsL t := by simp [fcsL]
theorem fcsL_at : ∀ (fs : List Fc) (k : Nat) (hk : k < fs.length) (j : Nat) (hj : j < 17), (fcsL fs)[k * 17 + j]? = (fcL fs[k])[j]?
  | [], k, hk, _, _ => by simp at hk
  | f :: t, 0, _, j, hj => by
    rw [fcsL_cons, List.getElem?_append_left (by rw [fcL_len]; omega)]
    simp
  | f :: t, k + 1, hk, j, hj => by
    rw [fcsL_cons, List.getElem?_append_right (by rw [fcL_len]; omega), fcL_len]
    have := fcsL_at t k (by simpa using hk) j hj
    rw [show (k + 1) * 17 + j - 17 = k * 17 + j by omega, this]
    simp
/-- Values laid into a list from a place on. -/
def setAll (l : List Value) (o : Nat) : List Value → List Value
  | [] => l
  | v :: vs => setAll (l.set o v) (o + 1) vs
theorem setAll_right (a : List Value) : ∀ (vs l : List Value) (o : Nat), setAll (a ++ l) (a.length + o) vs = a ++ setAll l o vs
  | [], _, _ => rfl
  | v :: vs, l, o => by
    simp only [setAll]
    rw [List.set_append_right _ _ (by omega), show a.length + o - a.length = o by omega, show a.length + o + 1 = a.length + (o + 1) by omega, setAll_right a vs]
theorem setAll_left : ∀ (vs a l : List Value), a.length = vs.length → setAll (a ++ l) 0 vs = vs ++ l
  | [], [], l, _ => rfl
  | [], _ :: _, _, h => by simp at h
  | _ :: _, [], _, h => by simp at h
  | v :: vs, x :: a, l, h => by
    have h1 : a.length = vs.length := by simpa using h
    have h2 := setAll_right [v] vs (a ++ l) 0
    simp only [setAll, List.cons_append, List.set_cons_zero, List.length_singleton, List.nil_append, Nat.zero_add] at h2 ⊢
    rw [show (1 : Nat) + 0 = 1 from rfl] at h2
    rw [h2, setAll_left vs a l h1]
theorem fcsL_set : ∀ (fs : List Fc) (k : Nat) (hk : k < fs.length) (f : Fc), setAll (fcsL fs) (k * 17) (fcL f) = fcsL (fs.set k f)
  | [], k, hk, _ => by simp at hk
  | g :: t, 0, _, f => by
    rw [List.set_cons_zero, fcsL_cons, fcsL_cons, Nat.zero_mul]
    exact setAll_left _ _ _ (by rw [fcL_len, fcL_len])
  | g :: t, k + 1, hk, f => by
    have h1 := fcsL_set t k (by simpa using hk) f
    rw [List.set_cons_succ, fcsL_cons, fcsL_cons, ← h1]
    have h2 : (fcL g).length = 17 := fcL_len g
    have h3 := setAll_right (fcL g) (fcL f) (fcsL t) (k * 17)
    generalize fcL g = a at *
    generalize fcL f = vs at *
    generalize fcsL t = l at *
    rw [h2] at h3
    rw [show (k + 1) * 17 = 17 + k * 17 by omega, h3]
/-- A row of facts in a block. -/
def FsAt (W : World) (B : Nat) (fs : List Fc) : Prop := W.heap[B]? = some (.cells (fcsL fs).toArray 541)
theorem FsAt.cell {W : World} {B : Nat} {fs : List Fc} (h : FsAt W B fs) {k : Nat} {f : Fc} (hf : fs[k]? = some f) {j : Nat} (hj : j < 17) : W.cell? ⟨B, k * 17 + j, none⟩ = (fcL f)[j]? := by
  have h' : W.heap[B]? = _ := h
  obtain ⟨hk, rfl⟩ := List.getElem?_eq_some_iff.1 hf
  rw [← fcsL_at fs k hk j hj]
  simp [World.cell?, h']
theorem FsAt.frozen {W : World} {B : Nat} {fs : List Fc} (h : FsAt W B fs) (j : Nat) : W.frozen? ⟨B, j, none⟩ = false := by
  have h' : W.heap[B]? = _ := h
  simp [World.frozen?, h']
theorem FsAt.cells {W : World} {B : Nat} {fs : List Fc} (h : FsAt W B fs) {k : Nat} {f : Fc} (hf : fs[k]? = some f) :
    W.cell? ⟨B, k * 17, none⟩ = some (.bool f.is) ∧ W.cell? ⟨B, k * 17 + 1, none⟩ = some (.bool (f.k 0).1) ∧ W.cell? ⟨B, k * 17 + 2, none⟩ = some (.int .i64 (f.k 0).2) ∧ W.cell? ⟨B, k * 17 + 3, none⟩ = some (.bool (f.k 1).1) ∧ W.cell? ⟨B, k * 17 + 4, none⟩ = some (.int .i64 (f.k 1).2) ∧ W.cell? ⟨B, k * 17 + 5, none⟩ = some (.bool (f.k 2).1) ∧ W.cell? ⟨B, k * 17 + 6, none⟩ = some (.int .i64 (f.k 2).2) ∧ W.cell? ⟨B, k * 17 + 7, none⟩ = some (.bool (f.k 3).1) ∧ W.cell? ⟨B, k * 17 + 8, none⟩ = some (.int .i64 (f.k 3).2) ∧ W.cell? ⟨B, k * 17 + 9, none⟩ = some (.bool (f.k 4).1) ∧ W.cell? ⟨B, k * 17 + 10, none⟩ = some (.int .i64 (f.k 4).2) ∧ W.cell? ⟨B, k * 17 + 11, none⟩ = some (.bool (f.k 5).1) ∧ W.cell? ⟨B, k * 17 + 12, none⟩ = some (.int .i64 (f.k 5).2) ∧ W.cell? ⟨B, k * 17 + 13, none⟩ = some (.bool (f.k 6).1) ∧ W.cell? ⟨B, k * 17 + 14, none⟩ = some (.int .i64 (f.k 6).2) ∧ W.cell? ⟨B, k * 17 + 15, none⟩ = some (.bool (f.k 7).1) ∧ W.cell? ⟨B, k * 17 + 16, none⟩ = some (.int .i64 (f.k 7).2) :=
  ⟨h.cell hf (j := 0) (by omega), h.cell hf (j := 1) (by omega), h.cell hf (j := 2) (by omega), h.cell hf (j := 3) (by omega), h.cell hf (j := 4) (by omega), h.cell hf (j := 5) (by omega), h.cell hf (j := 6) (by omega), h.cell hf (j := 7) (by omega), h.cell hf (j := 8) (by omega), h.cell hf (j := 9) (by omega), h.cell hf (j := 10) (by omega), h.cell hf (j := 11) (by omega), h.cell hf (j := 12) (by omega), h.cell hf (j := 13) (by omega), h.cell hf (j := 14) (by omega), h.cell hf (j := 15) (by omega), h.cell hf (j := 16) (by omega)⟩
/-- A fact laid into a row, cell by cell. -/
def fillAt (W : World) (B o : Nat) (f : Fc) : World := (((((((((((((((((W.setCell ⟨B, o, none⟩ (.bool f.is)).setCell ⟨B, o + 1, none⟩ (.bool (f.k 0).1)).setCell ⟨B, o + 2, none⟩ (.int .i64 (f.k 0).2)).setCell ⟨B, o + 3, none⟩ (.bool (f.k 1).1)).setCell ⟨B, o + 4, none⟩ (.int .i64 (f.k 1).2)).setCell ⟨B, o + 5, none⟩ (.bool (f.k 2).1)).setCell ⟨B, o + 6, none⟩ (.int .i64 (f.k 2).2)).setCell ⟨B, o + 7, none⟩ (.bool (f.k 3).1)).setCell ⟨B, o + 8, none⟩ (.int .i64 (f.k 3).2)).setCell ⟨B, o + 9, none⟩ (.bool (f.k 4).1)).setCell ⟨B, o + 10, none⟩ (.int .i64 (f.k 4).2)).setCell ⟨B, o + 11, none⟩ (.bool (f.k 5).1)).setCell ⟨B, o + 12, none⟩ (.int .i64 (f.k 5).2)).setCell ⟨B, o + 13, none⟩ (.bool (f.k 6).1)).setCell ⟨B, o + 14, none⟩ (.int .i64 (f.k 6).2)).setCell ⟨B, o + 15, none⟩ (.bool (f.k 7).1)).setCell ⟨B, o + 16, none⟩ (.int .i64 (f.k 7).2))
theorem FsAt.fill {W : World} {B : Nat} {fs : List Fc} (h : FsAt W B fs) {k : Nat} (hk : k < fs.length) (f : Fc) : FsAt (fillAt W B (k * 17) f) B (fs.set k f) := by
  have h' : W.heap[B]? = _ := h
  unfold FsAt fillAt
  rw [heap_set_ (heap_set_ (heap_set_ (heap_set_ (heap_set_ (heap_set_ (heap_set_ (heap_set_ (heap_set_ (heap_set_ (heap_set_ (heap_set_ (heap_set_ (heap_set_ (heap_set_ (heap_set_ (heap_set_ h' _ _) _ _) _ _) _ _) _ _) _ _) _ _) _ _) _ _) _ _) _ _) _ _) _ _) _ _) _ _) _ _) _ _]
  rw [← fcsL_set fs k hk f]
  simp only [List.setIfInBounds_toArray]
  rfl
theorem fillAt_mod (W : World) (B o : Nat) (f : Fc) : Mod (fun g => g = B) W (fillAt W B o f) :=
  ((((((((((((((((((Mod.refl (fun g => g = B) W).setCell (p := ⟨B, o, none⟩) (.inr rfl) _).setCell (p := ⟨B, o + 1, none⟩) (.inr rfl) _).setCell (p := ⟨B, o + 2, none⟩) (.inr rfl) _).setCell (p := ⟨B, o + 3, none⟩) (.inr rfl) _).setCell (p := ⟨B, o + 4, none⟩) (.inr rfl) _).setCell (p := ⟨B, o + 5, none⟩) (.inr rfl) _).setCell (p := ⟨B, o + 6, none⟩) (.inr rfl) _).setCell (p := ⟨B, o + 7, none⟩) (.inr rfl) _).setCell (p := ⟨B, o + 8, none⟩) (.inr rfl) _).setCell (p := ⟨B, o + 9, none⟩) (.inr rfl) _).setCell (p := ⟨B, o + 10, none⟩) (.inr rfl) _).setCell (p := ⟨B, o + 11, none⟩) (.inr rfl) _).setCell (p := ⟨B, o + 12, none⟩) (.inr rfl) _).setCell (p := ⟨B, o + 13, none⟩) (.inr rfl) _).setCell (p := ⟨B, o + 14, none⟩) (.inr rfl) _).setCell (p := ⟨B, o + 15, none⟩) (.inr rfl) _).setCell (p := ⟨B, o + 16, none⟩) (.inr rfl) _)
/-- A row begins with what 'make' lays. -/
theorem fcsL_rep (n : Nat) : fcsL (List.replicate n fcZ) = (List.replicate n (fcL fcZ)).flatten := by
  unfold fcsL
  induction n with
  | zero => rfl
  | succ n ih => rw [List.replicate_succ, List.flatMap_cons, ih, List.replicate_succ, List.flatten_cons]
/-- == at facts. -/
theorem kn_eq (d : Nat) (x y : Kn) (w : World) : (Op.equalIn (d + 2) 538 (.agg #[.bool x.1, .int .i64 x.2]) (.agg #[.bool y.1, .int .i64 y.2])).run Tryz.prog w = .ok (decide (x = y)) w := by
  obtain ⟨a, b⟩ := x
  obtain ⟨c, e⟩ := y
  cases a <;> cases c
  · by_cases h : b = e
    · subst h
      rw [decide_eq_true rfl]
      simp [go_sem]
    · have h2 : (b == e) = false := by simpa using h
      rw [decide_eq_false (by simp [h])]
      simp [go_sem, h2]
  · rw [decide_eq_false (by simp)]
    simp [go_sem]
  · rw [decide_eq_false (by simp)]
    simp [go_sem]
  · by_cases h : b = e
    · subst h
      rw [decide_eq_true rfl]
      simp [go_sem]
    · have h2 : (b == e) = false := by simpa using h
      rw [decide_eq_false (by simp [h])]
      simp [go_sem, h2]
theorem infoKnT : Tryz.prog.info? 538 = some (Tryz.prog.types[538]'(of_decide_eq_true (by kernel_rfl))) := by kernel_rfl
theorem cellsKn : Tryz.prog.cellsOf 538 = 2 := by kernel_rfl
theorem part_kn (k : Nat → Kn) (i : Nat) (hi : i < 8) (w : World) : (part 538 (rgL k).toArray (i * 2)).run Tryz.prog w = .ok (.agg #[.bool (k i).1, .int .i64 (k i).2]) w := by
  have ha : i = 0 ∨ i = 1 ∨ i = 2 ∨ i = 3 ∨ i = 4 ∨ i = 5 ∨ i = 6 ∨ i = 7 := by omega
  rcases ha with rfl | rfl | rfl | rfl | rfl | rfl | rfl | rfl <;> (with_unfolding_all exact rfl)
theorem items_kn (d : Nat) (k q : Nat → Kn) (w : World) : ∀ is : List Nat, (∀ i ∈ is, i < 8) → (Op.eqItems (d + 2) 538 2 (rgL k).toArray (rgL q).toArray is).run Tryz.prog w = .ok (decide (∀ i ∈ is, k i = q i)) w
  | [], _ => by simp [Op.eqItems]
  | i :: is, h => by
    have ih := items_kn d k q w is (fun j hj => h j (List.mem_cons_of_mem _ hj))
    have hi := h i List.mem_cons_self
    simp only [Op.eqItems, Sem.run_bind, part_kn k i hi, part_kn q i hi, Result.andThen_ok, kn_eq]
    by_cases he : k i = q i
    · rw [decide_eq_true he]
      simp only [Bool.not_true, Bool.false_eq_true, if_false, ih]
      congr 1
      exact decide_eq_decide.2 (by simp [he])
    · rw [decide_eq_false he]
      simp only [Bool.not_false, if_true]
      rw [decide_eq_false (fun h2 => he (h2 i List.mem_cons_self))]
      rfl
theorem regs_eq (d : Nat) (k q : Nat → Kn) (w : World) : (Op.equalIn (d + 3) 539 (rgV k) (rgV q)).run Tryz.prog w = .ok (decide (∀ r : Fin 8, k r = q r)) w := by
  unfold rgV
  rw [run_equalIn_array w (d + 2) _ _ Tryz.underlying539 infoKnT, cellsKn, items_kn d k q w _ (fun i hi => List.mem_range.1 hi)]
  congr 1
  exact decide_eq_decide.2 ⟨fun h r => h r (List.mem_range.2 r.2), fun h i hi => h ⟨i, List.mem_range.1 hi⟩⟩
theorem part_fc0 (f : Fc) (w : World) : (part 4 (fcL f).toArray 0).run Tryz.prog w = .ok (.bool f.is) w := by with_unfolding_all exact rfl
theorem part_fc1 (f : Fc) (w : World) : (part 539 (fcL f).toArray 1).run Tryz.prog w = .ok (rgV f.k) w := by with_unfolding_all exact rfl
theorem fields_fc : (Tryz.prog.fieldsOf 541).toList = [(Tryz.prog.fieldsOf 541)[0]!, (Tryz.prog.fieldsOf 541)[1]!] ∧ ((Tryz.prog.fieldsOf 541)[0]!.name == "_") = false ∧ ((Tryz.prog.fieldsOf 541)[1]!.name == "_") = false ∧ (Tryz.prog.fieldsOf 541)[0]!.type = 4 ∧ (Tryz.prog.fieldsOf 541)[0]!.offset = 0 ∧ (Tryz.prog.fieldsOf 541)[1]!.type = 539 ∧ (Tryz.prog.fieldsOf 541)[1]!.offset = 1 := ⟨by kernel_rfl, by kernel_rfl, by kernel_rfl, by kernel_rfl, by kernel_rfl, by kernel_rfl, by kernel_rfl⟩
theorem eqB (d : Nat) (a b : Bool) (w : World) : (Op.equalIn (d + 1) 4 (.bool a) (.bool b)).run Tryz.prog w = .ok (a == b) w := run_equalIn_bool w d _ a b Tryz.underlying4
theorem fc_eq (f g : Fc) (w : World) : (Op.equalIn 10000 541 (fcV f) (fcV g)).run Tryz.prog w = .ok (fcE f g) w := by
  obtain ⟨h0, h1, h2, h3, h4, h5, h6⟩ := fields_fc
  generalize (Tryz.prog.fieldsOf 541)[0]! = f0 at *
  generalize (Tryz.prog.fieldsOf 541)[1]! = f1 at *
  unfold fcV
  rw [run_equalIn_struct w 9999 _ _ _ (by kernel_rfl) (by kernel_rfl), h0]
  have n0 : f0.name ≠ "_" := by simpa using h1
  have n1 : f1.name ≠ "_" := by simpa using h2
  simp only [Op.eqFields, n0, n1, ne_eq, not_false_eq_true, if_true, Sem.run_bind, h3, h4, h5, h6, part_fc0, part_fc1, Result.andThen_ok, eqB 9998, regs_eq 9996]
  unfold fcE
  cases hb : (f.is == g.is) with
  | false =>
    have hn : ¬ f.is = g.is := by simpa using hb
    rw [decide_eq_false (fun h => hn h.1)]
    simp
  | true =>
    have hn : f.is = g.is := by simpa using hb
    by_cases hk : ∀ r : Fin 8, f.k r = g.k r
    · rw [decide_eq_true ⟨hn, hk⟩]
      simp only [Bool.not_true, Bool.false_eq_true, if_false, Sem.run_bind, part_fc1, Result.andThen_ok, regs_eq 9996]
      rw [decide_eq_true hk]; simp
    · rw [decide_eq_false (fun h => hk h.2)]
      simp only [Bool.not_true, Bool.false_eq_true, if_false, Sem.run_bind, part_fc1, Result.andThen_ok, regs_eq 9996]
      rw [decide_eq_false hk]; simp
theorem neq_fc (f g : Fc) (w : World) : (binOp .neq 541 (fcV f) (fcV g)).run Tryz.prog w = .ok (.bool (!fcE f g)) w := by
  have h := fc_eq f g w
  unfold fcV at h ⊢
  rw [run_neq_struct, h]
  rfl
theorem fcsL_len : ∀ fs : List Fc, (fcsL fs).length = fs.length * 17
  | [] => rfl
  | f :: t => by rw [fcsL_cons, List.length_append, fcL_len, fcsL_len t, List.length_cons]; omega
theorem made_fcs (n : Nat) : madeCells (fcL fcZ).toArray (n * 17) = (fcsL (List.replicate n fcZ)).toArray := by
  apply Array.ext
  · rw [size_madeCells, List.size_toArray, fcsL_len, List.length_replicate]
  · intro i h1 h2
    rw [size_madeCells] at h1
    have h3 := fcsL_at (List.replicate n fcZ) (i / 17) (by rw [List.length_replicate]; omega) (i % 17) (by omega)
    rw [show i / 17 * 17 + i % 17 = i by omega, List.getElem_replicate] at h3
    have h4 : (madeCells (fcL fcZ).toArray (n * 17))[i]? = (fcL fcZ)[i % 17]? := by
      have hz : (fcL fcZ).toArray.size = 17 := rfl
      have hi : i % 17 < 17 := by omega
      simp only [madeCells, Array.getElem?_map, Array.getElem?_range, h1, if_true, hz, Option.map_some]
      rw [List.getElem?_eq_getElem (by rw [fcL_len]; exact hi), getElem!_pos (fcL fcZ).toArray (i % 17) (by rw [hz]; exact hi)]
      simp
    rw [← h3] at h4
    have h5 := Array.getElem?_eq_getElem (xs := madeCells (fcL fcZ).toArray (n * 17)) (i := i) (by rw [size_madeCells]; exact h1)
    rw [h5] at h4
    have h6 : (fcsL (List.replicate n fcZ))[i]? = some (fcsL (List.replicate n fcZ)).toArray[i] := by
      rw [List.getElem?_eq_getElem (by simpa using h2)]; simp
    rw [h6] at h4
    exact Option.some.inj h4
/-- Cells of the first fact. -/
theorem FsAt.setIs0 {W : World} {B : Nat} {f : Fc} {t : List Fc} (h : FsAt W B (f :: t)) (x : Bool) : FsAt (W.setCell ⟨B, 0, none⟩ (.bool x)) B (⟨x, f.k⟩ :: t) := by
  have h' : W.heap[B]? = _ := h
  unfold FsAt
  rw [heap_set_ h', fcsL_cons, fcsL_cons, List.setIfInBounds_toArray]
  rfl
theorem FsAt.setReg0 {W : World} {B : Nat} {f : Fc} {t : List Fc} (h : FsAt W B (f :: t)) {r : Nat} (hr : r < 8) (x : Bool) : FsAt (W.setCell ⟨B, 1 + r * 2, none⟩ (.bool x)) B (⟨f.is, setK f.k r (x, (f.k r).2)⟩ :: t) := by
  have h' : W.heap[B]? = _ := h
  unfold FsAt
  rw [heap_set_ h', fcsL_cons, fcsL_cons, List.setIfInBounds_toArray]
  have ha : r = 0 ∨ r = 1 ∨ r = 2 ∨ r = 3 ∨ r = 4 ∨ r = 5 ∨ r = 6 ∨ r = 7 := by omega
  rcases ha with rfl | rfl | rfl | rfl | rfl | rfl | rfl | rfl <;> rfl
end Eng
end Go.Proofs.YtdfmgneicdpjmaaGreat

/- Ranges over functions in loops: any number of marks among the deferred calls. -/
namespace Go.Proofs.YtdfmgneicdpjmaaGreat
open Go.RowKit Go.Shelf
set_option linter.unusedVariables false
set_option linter.unusedSimpArgs false
namespace Eng
open Resp

def markD (D : Nat) : Deferred := { target := .collected D, args := #[] }
/-- Deferred calls that are nothing but marks, each in a block of its own. -/
def Marks (m : Nat) (ds : List Deferred) (w : World) : Prop := ∃ Ds : List Nat, ds = Ds.map markD ∧ Ds.Nodup ∧ ∀ D ∈ Ds, m ≤ D ∧ w.heap[D]? = some (.deferred (some []))
theorem Marks.nil (m : Nat) (w : World) : Marks m [] w := ⟨[], rfl, List.nodup_nil, by simp⟩
theorem Marks.mod {S : Nat → Prop} {m : Nat} {ds : List Deferred} {w w' : World} (h : Marks m ds w) (hm : Mod S w w') (hS : ∀ D, m ≤ D → w.heap[D]? = some (.deferred (some [])) → ¬ S D) : Marks m ds w' := by
  obtain ⟨Ds, h1, h2, h3⟩ := h
  refine ⟨Ds, h1, h2, fun D hD => ?_⟩
  obtain ⟨h4, h5⟩ := h3 D hD
  exact ⟨h4, hm.heap h5 (hS D h4 h5)⟩
/-- As mod, where what is written are cells. -/
theorem Marks.put {m : Nat} {ds : List Deferred} {w : World} (h : Marks m ds w) {l : Nat} {o' : Obj} (hl : w.heap.size ≤ l ∨ ∃ o, w.heap[l]? = some o ∧ ¬ o = .deferred (some [])) : Marks m ds (w.putObj l o') := by
  obtain ⟨Ds, h1, h2, h3⟩ := h
  refine ⟨Ds, h1, h2, fun D hD => ?_⟩
  obtain ⟨h4, h5⟩ := h3 D hD
  refine ⟨h4, (mod_put_ w l o').heap h5 (fun e => ?_)⟩
  subst e
  rcases hl with hl | ⟨o, ho, hn⟩
  · have := (Array.getElem?_eq_some_iff.1 h5).1; omega
  · rw [h5] at ho; exact hn (Option.some.inj ho).symm
theorem Marks.cons {m : Nat} {ds : List Deferred} {w0 w : World} (h0 : Marks m ds w0) (h : Marks m ds w) {D : Nat} (hm : m ≤ w0.heap.size) (hD : w0.heap.size ≤ D) (hw : w.heap[D]? = some (.deferred (some []))) : Marks m ({ target := .collected D, args := #[] } :: ds) w := by
  obtain ⟨Ds, h1, h2, h3⟩ := h
  obtain ⟨Es, g1, g2, g3⟩ := h0
  refine ⟨D :: Ds, by rw [h1]; rfl, List.nodup_cons.2 ⟨fun hin => ?_, h2⟩, fun E hE => ?_⟩
  · have h5 : markD D ∈ ds := by rw [h1]; exact List.mem_map_of_mem hin
    rw [g1] at h5
    obtain ⟨E, hE, he⟩ := List.mem_map.1 h5
    have he' : E = D := by
      unfold markD at he
      injection he with he1
      injection he1
    subst he'
    have := (Array.getElem?_eq_some_iff.1 (g3 E hE).2).1
    omega
  · rcases List.mem_cons.1 hE with rfl | hE
    · exact ⟨by omega, hw⟩
    · exact h3 E hE
/-- A function's end behind any number of marks. -/
theorem leaves_marks {F : Fence} {n : Nat} {P : Program} {fn : Func} {tm : Array Value} {R : Ending → World → Prop} {m : Nat} {Q : World → Prop}
    (hput : ∀ (w : World) (D : Nat), m ≤ D → w.heap[D]? = some (.deferred (some [])) → Q w → Q (w.putObj D (.deferred none)))
    (hend : ∀ w, Q w → LeavesInM F n P fn tm R [] .returning w) {ds : List Deferred} {w : World} (h : Marks m ds w) (hq : Q w) : LeavesInM F n P fn tm R ds .returning w := by
  obtain ⟨Ds, rfl, h2, h3⟩ := h
  induction Ds generalizing w with
  | nil => exact hend w hq
  | cons D t ih =>
    obtain ⟨hnd, h2'⟩ := List.nodup_cons.1 h2
    obtain ⟨h4, h5⟩ := h3 D List.mem_cons_self
    refine ⟨by simp, .inl ⟨D, _, rfl, run_takeDeferred h5, ih (hput w D h4 h5 hq) h2' (fun E hE => ?_)⟩⟩
    obtain ⟨h6, h7⟩ := h3 E (List.mem_cons_of_mem _ hE)
    exact ⟨h6, (mod_put_ w D _).heap h7 (fun e => hnd (e ▸ hE))⟩
end Eng
end Go.Proofs.YtdfmgneicdpjmaaGreat
