import Derived.Test.YtdfmgneicdpjmaaGreatM12
import Derived.Test.YtdfmgneicdpjmaaGreatM13
import Derived.Test.YtdfmgneicdpjmaaGreatM04
import Derived.Deep.RegionHeld3
import Derived.Deep.Onto
import Derived.Test.YtdfmgneicdpjmaaGreatM09
/- slices.Clone of bytes; request.take. -/
namespace Go.Proofs.YtdfmgneicdpjmaaGreat
open Go.RowKit Go.Shelf
attribute [local go_sem] Oper.semAt_some
set_option linter.unusedVariables false
set_option linter.unusedSimpArgs false
set_option maxRecDepth 100000
namespace Eng
open Resp App

theorem sCloneZ_any (v : Value) (zs : List Int) (W : World) (hr : Reads .u8 W v zs) (hl : zs.length ≤ 140737488351232) :
    Calls Tryz.prog 80 #[v] W fun e w' => ∃ v', e = .returned v' ∧ w'.ownsRow W.heap.size 5 1 v' zs.length (u8s zs) ∧ Below W.heap.size W w' := by
  have hcase : (∃ c, v = .slice none 0 c ∧ zs = []) ∨ ∃ ad c, v = .slice (some ad) zs.length c ∧ ∀ (w' : World), Below W.heap.size W w' → ∀ (j : Nat) (u : Value), (u8s zs)[j]? = some u → w'.cell? (ad.add j) = some u := by
    by_cases h0 : 0 < zs.length
    · obtain ⟨ad, c, e, -, hnw⟩ := Reads.lies_ hr h0
      exact .inr ⟨ad, c, e, hnw⟩
    · have hz : zs = [] := List.length_eq_zero_iff.1 (by omega)
      subst hz
      obtain ⟨a, c, rfl⟩ := Reads.form_ hr
      cases a with
      | none => exact .inl ⟨c, rfl, rfl⟩
      | some ad => exact .inr ⟨ad, c, rfl, fun w' _ j u hu => by simp [u8s] at hu⟩
  clear hr
  rcases hcase with ⟨c, rfl, rfl⟩ | ⟨ad, c, rfl, hnw⟩
  · have hnil : (binOp .eql 25 (.slice none 0 c) (.slice none 0 0)).run Tryz.prog W = .ok (.bool true) W := by kernel_rfl
    go_enter Tryz.func80, Tryz.ntmps80
    go_wp2_with fail
    go_ret
    exact ⟨_, rfl, owns_nil _ _ _ _, Below.refl _ _⟩
  · obtain ⟨i0, hi, hz0, hz1, hz2⟩ := info_parts infoByte
    have HNW := Lib.hid hnw
    clear hnw
    generalize hn : zs.length = n at *
    have HN := Lib.hid hn
    have hlI : (n : Int) ≤ 140737488351232 := by omega
    clear hn
    have hnil : (binOp .eql 25 (.slice (some ad) n c) (.slice none 0 0)).run Tryz.prog W = .ok (.bool false) W := by kernel_rfl
    go_enter Tryz.func80, Tryz.ntmps80
    go_wp2_with (at_builtin; refine wpList_append_own _ rfl _ _ 25 rfl W.heap.size 5 i0 (.int .u8 0) 1 1 Tryz.underlying25 hi hz0 hz1 hz2 rfl (by decide) _ _ _ rfl (World.ownsRow_lit W #[] 0 (Nat.le_refl _) (by unfold maxLen; omega) rfl) ad n c (u8s zs) rfl (by rw [u8s_length, HN.out, Nat.mul_one]) (HNW.out _ ((Below.refl _ _).alloc (Nat.le_refl _) _)) (u8s_one _) (by unfold maxLen; omega) (by omega) (by simp) ?_; intro v' w5 hown' hgrow hat; obtain ⟨a', c', e⟩ := ownsRow_form hown'; subst e; have HOWN := Lib.hid hown'; have HG := Lib.hid hgrow; clear hown' hgrow hat)
    go_ret
    have hm5 : Mod (fun k => some k = (Value.slice (some ⟨W.heap.size, 0, none⟩) 0 0).ownBlock) W w5 := ((Mod.refl _ W).alloc _).trans (Mod.of_grownBy HG.out)
    refine ⟨.slice a' n c', by simp, by simpa using HOWN.out, hm5.below (Nat.le_refl _) (fun k hk e => by simp [Value.ownBlock] at e; omega)⟩
/-- A request; what its Fed is is said beside it. -/
structure Rq where
  kind : Int
  what : Int
  name : ByteArray
  process : Int
  handle : Int
  holder : Int
  rights : Int
  time : Int
  source : Int
  seq : Int
  value : Int
deriving DecidableEq
def rqC (r : Rq) (fv : Value) : Array Value := #[.int .u8 r.kind, .int .u8 r.what, .string r.name, .int .i64 r.process, .int .i64 r.handle, .int .i64 r.holder, .int .i64 r.rights, .int .i64 r.time, .int .i64 r.source, .int .i64 r.seq, .int .i64 r.value, fv]
def RqAt (W : World) (B : Nat) (r : Rq) (fv : Value) : Prop := W.heap[B]? = some (.cells (rqC r fv) 165)
theorem RqAt.cells {W : World} {B : Nat} {r : Rq} {fv : Value} (h : RqAt W B r fv) : W.cell? ⟨B, 0, none⟩ = some (.int .u8 r.kind) ∧ W.cell? ⟨B, 1, none⟩ = some (.int .u8 r.what) ∧ W.cell? ⟨B, 2, none⟩ = some (.string r.name) ∧ W.cell? ⟨B, 3, none⟩ = some (.int .i64 r.process) ∧ W.cell? ⟨B, 4, none⟩ = some (.int .i64 r.handle) ∧ W.cell? ⟨B, 5, none⟩ = some (.int .i64 r.holder) ∧ W.cell? ⟨B, 6, none⟩ = some (.int .i64 r.rights) ∧ W.cell? ⟨B, 7, none⟩ = some (.int .i64 r.time) ∧ W.cell? ⟨B, 8, none⟩ = some (.int .i64 r.source) ∧ W.cell? ⟨B, 9, none⟩ = some (.int .i64 r.seq) ∧ W.cell? ⟨B, 10, none⟩ = some (.int .i64 r.value) ∧ W.cell? ⟨B, 11, none⟩ = some fv := by
  have h' : W.heap[B]? = _ := h
  refine ⟨?_, ?_, ?_, ?_, ?_, ?_, ?_, ?_, ?_, ?_, ?_, ?_⟩ <;> simp [World.cell?, h', rqC]
theorem RqAt.frozen {W : World} {B : Nat} {r : Rq} {fv : Value} (h : RqAt W B r fv) (j : Nat) : W.frozen? ⟨B, j, none⟩ = false := by
  have h' : W.heap[B]? = _ := h
  simp [World.frozen?, h']
theorem RqAt.below {W W' : World} {B : Nat} {r : Rq} {fv : Value} (h : RqAt W B r fv) (hb : Below W.heap.size W W') : RqAt W' B r fv := (Mod.of_same (S := fun _ => False) hb).heap h (by simp)
/-- The number with a tag. -/
def setN (r : Rq) (tag x : Int) : Rq := if tag = 3 then { r with process := x } else if tag = 4 then { r with handle := x } else if tag = 5 then { r with holder := x } else if tag = 6 then { r with rights := x } else if tag = 7 then { r with time := x } else if tag = 8 then { r with source := x } else if tag = 9 then { r with seq := x } else r
def getN (r : Rq) (tag : Int) : Int := if tag = 3 then r.process else if tag = 4 then r.handle else if tag = 5 then r.holder else if tag = 6 then r.rights else if tag = 7 then r.time else if tag = 8 then r.source else if tag = 9 then r.seq else 0
theorem RqAt.setN {W : World} {B : Nat} {r : Rq} {fv : Value} (h : RqAt W B r fv) {tag : Nat} (h3 : 3 ≤ tag) (h9 : tag ≤ 9) (x : Int) : RqAt (W.setCell ⟨B, tag, none⟩ (.int .i64 x)) B (Eng.setN r tag x) fv := by
  have hk : tag = 3 ∨ tag = 4 ∨ tag = 5 ∨ tag = 6 ∨ tag = 7 ∨ tag = 8 ∨ tag = 9 := by omega
  have h' : W.heap[B]? = _ := h
  unfold RqAt
  rcases hk with rfl | rfl | rfl | rfl | rfl | rfl | rfl <;> (rw [heap_set_ h']; rfl)
theorem RqAt.setName {W : World} {B : Nat} {r : Rq} {fv : Value} (h : RqAt W B r fv) (s : ByteArray) : RqAt (W.setCell ⟨B, 2, none⟩ (.string s)) B { r with name := s } fv := by
  have h' : W.heap[B]? = _ := h
  unfold RqAt
  rw [heap_set_ h']; rfl
theorem RqAt.setValue {W : World} {B : Nat} {r : Rq} {fv : Value} (h : RqAt W B r fv) (x : Int) : RqAt (W.setCell ⟨B, 10, none⟩ (.int .i64 x)) B { r with value := x } fv := by
  have h' : W.heap[B]? = _ := h
  unfold RqAt
  rw [heap_set_ h']; rfl
theorem RqAt.setFed {W : World} {B : Nat} {r : Rq} {fv : Value} (h : RqAt W B r fv) (v : Value) : RqAt (W.setCell ⟨B, 11, none⟩ v) B r v := by
  have h' : W.heap[B]? = _ := h
  unfold RqAt
  rw [heap_set_ h']; rfl
theorem RqAt.setWhat {W : World} {B : Nat} {r : Rq} {fv : Value} (h : RqAt W B r fv) (x : Int) : RqAt (W.setCell ⟨B, 1, none⟩ (.int .u8 x)) B { r with what := x } fv := by
  have h' : W.heap[B]? = _ := h
  unfold RqAt
  rw [heap_set_ h']; rfl
/-- What take makes of a request, and what it says. -/
def takeQ (r : Rq) (tag : Int) (zs : List Int) : Rq := if tag = 2 then { r with name := strOfNums zs } else if tag = 10 then { r with value := unfV (lastV zs).1 } else setN r tag (wrap64 (lastV zs).1)
def takeB (r : Rq) (tag : Int) (zs : List Int) : Bool := if tag = 2 ∨ tag = 11 then true else if tag = 1 then (lastV zs).2.2 == 0 && (lastV zs).1 == r.what else if tag = 10 then (lastV zs).2.2 == 0 else (lastV zs).2.2 == 0 && decide ((lastV zs).1 ≤ 9223372036854775807)
theorem idx_nums (B tag : Nat) (h3 : 3 ≤ tag) (h9 : tag ≤ 9) (w : World) : (Instr.index 307 (numsV B) (.int .i64 (tag : Int))).run Tryz.prog w = .ok (.pointer (some ⟨B, tag, none⟩)) w := by
  have hk : tag = 3 ∨ tag = 4 ∨ tag = 5 ∨ tag = 6 ∨ tag = 7 ∨ tag = 8 ∨ tag = 9 := by omega
  rcases hk with rfl | rfl | rfl | rfl | rfl | rfl | rfl <;> (with_unfolding_all exact rfl)
theorem fld_cells {w : World} {g : Nat} {x y : Value} (h : w.heap[g]? = some (.cells #[x, y] 141)) : w.cell? ⟨g, 0, none⟩ = some x ∧ w.cell? ⟨g, 1, none⟩ = some y := by
  constructor <;> simp [World.cell?, h]
theorem RqAt.num {W : World} {B : Nat} {r : Rq} {fv : Value} (h : RqAt W B r fv) {tag : Nat} (h3 : 3 ≤ tag) (h9 : tag ≤ 9) : W.cell? ⟨B, tag, none⟩ = some (.int .i64 (getN r tag)) ∧ W.frozen? ⟨B, tag, none⟩ = false := by
  refine ⟨?_, h.frozen tag⟩
  have hk : tag = 3 ∨ tag = 4 ∨ tag = 5 ∨ tag = 6 ∨ tag = 7 ∨ tag = 8 ∨ tag = 9 := by omega
  obtain ⟨a1, a2, a3, a4, a5, a6, a7, a8, a9, a10, a11, a12⟩ := h.cells
  rcases hk with rfl | rfl | rfl | rfl | rfl | rfl | rfl <;> assumption
set_option maxHeartbeats 2000000 in
theorem take_num (B : Nat) (r : Rq) (fv : Value) (tag : Nat) (h3 : 3 ≤ tag) (h9 : tag ≤ 9) (v : Value) (zs : List Int) (W : World) (h : RqAt W B r fv) (hr : Reads .u8 W v zs) (hz : Octets zs) (hl : zs.length ≤ 100000) :
    Calls Tryz.prog 193 #[.pointer (some ⟨B, 0, none⟩), .agg #[.int .i64 (tag : Int), v]] W fun e w' => e = .returned (.bool (takeB r tag zs)) ∧ RqAt w' B (takeQ r tag zs) fv ∧ Mod (fun g => g = B) W w' := by
  have hv : ∃ a c, v = .slice a zs.length c := by
    rcases hr with ⟨a, c, rfl, rfl⟩ | ⟨b, o, c, rfl, _⟩
    · exact ⟨_, _, rfl⟩
    · exact ⟨_, _, rfl⟩
  obtain ⟨a, c, rfl⟩ := hv
  have hb0 : Below W.heap.size W (W.alloc (.cells #[.int .i64 (tag : Int), .slice a zs.length c] 141)) := (Below.refl _ _).alloc (Nat.le_refl _) _
  have HC := Lib.hid (Value_any tag _ zs _ (hr.mod (S := fun _ => False) (Mod.of_same hb0) (by simp)) hz hl)
  have HR := Lib.hid (h.below hb0)
  have HB0 := Lib.hid hb0
  have HBN : Hid (B < W.heap.size) := by
    have h' : W.heap[B]? = _ := h
    have := (Array.getElem?_eq_some_iff.1 h').1
    exact this
  have HS0 : Hid (W.heap.size < (W.alloc (.cells #[.int .i64 (tag : Int), .slice a zs.length c] 141)).heap.size) := by unfold Hid; show _ < (W.heap.push _).size; rw [Array.size_push]; omega
  have HX := Lib.hid (idx_nums B tag h3 h9)
  have hnb := (readN_bds hz 0 (Nat.zero_le _))
  have HTB : Hid (takeB r tag zs = ((lastV zs).2.2 == 0 && decide ((lastV zs).1 ≤ 9223372036854775807))) := by
    unfold Hid takeB
    rw [if_neg (by omega), if_neg (by omega), if_neg (by omega)]
  have HTQ : Hid (takeQ r tag zs = setN r tag (wrap64 (lastV zs).1)) := by
    unfold Hid takeQ
    rw [if_neg (by omega), if_neg (by omega)]
  obtain ⟨qx, qn, qe, hqe⟩ : ∃ qx qn qe, lastV zs = (qx, qn, qe) := ⟨_, _, _, rfl⟩
  rw [HTB.out, HTQ.out]
  rw [hqe] at HC ⊢
  clear hqe
  clear h hr hz hb0 hnb HTB HTQ
  have t2 : ((tag : Int) == 2) = false := by simp; omega
  have t11 : ((tag : Int) == 11) = false := by simp; omega
  have t1 : ((tag : Int) == 1) = false := by simp; omega
  have t10 : ((tag : Int) == 10) = false := by simp; omega
  go_enter Tryz.func193, Tryz.ntmps193
  go_wp2_with fail
  refine HC.out.mono ?_; rintro e w1 ⟨rfl, hb1⟩
  have HR1 := Lib.hid (HR.out.below hb1)
  have HM1 := Lib.hid ((Mod.of_same (S := fun g => g = B) HB0.out).trans (Mod.of_same hb1))
  have HF1 := Lib.hid ((Mod.of_same (S := fun _ => False) hb1).heap (World.alloc_heap_new W (.cells #[.int .i64 (tag : Int), .slice a zs.length c] 141)) (by simp))
  have hw1 : W.heap.size < w1.heap.size := Nat.lt_of_lt_of_le HS0.out (Mod.of_same (S := fun _ => False) hb1).size
  obtain ⟨hf0, -⟩ := fld_cells HF1.out
  clear hb1
  go_wp2_with fail
  have hcB := (HR1.out.num h3 h9).1
  have hx := HX.out
  go_region_held3 (fun w' => w'.cell? ⟨W.heap.size, 0, none⟩ = some (.int .i64 (tag : Int)))
    (first | (with_reducible exact HK2.out) | (with_reducible exact hf0) | (refine (World.cell?_setCell_far _ _ _ _ (Nat.ne_of_lt HBN.out)).trans ?_; with_reducible exact HK2.out) | go_keep)
    ((first
      | (go_at_call 199; refine (numbers_any B _).mono ?_; rintro e y1 ⟨rfl, hb1⟩; have HY1 : Hid (Below w1.heap.size w1 y1) := below_step_ (by repeat (first | exact Below.refl _ _ | refine below_drew_ ?_ | refine below_alloc_ ?_ _)) hb1; have HK2 : Hid (y1.cell? ⟨W.heap.size, 0, none⟩ = some (.int .i64 (tag : Int))) := Lib.hid (fld_cells ((Mod.of_same (S := fun _ => False) HY1.out).heap HF1.out (by simp))).1; obtain ⟨cB, fB⟩ := (HR1.out.below HY1.out).num h3 h9; clear hb1)))
  go_wp2_with fail
  all_goals go_ret
  · exact ⟨by simp [*], (HR1.out.below HY1.out).setN h3 h9 _, HM1.out.trans (((Mod.of_same (S := fun g => g = B) HY1.out)).setCell (p := ⟨B, tag, none⟩) (.inr rfl) _)⟩
  · exact ⟨by simp [*], (HR1.out.below HY1.out).setN h3 h9 _, HM1.out.trans (((Mod.of_same (S := fun g => g = B) HY1.out)).setCell (p := ⟨B, tag, none⟩) (.inr rfl) _)⟩

/-- What all walks of take begin with. -/
theorem take_begin (tag : Int) (a : Option Addr) (c : Nat) (zs : List Int) (W : World) (B : Nat) (r : Rq) (fv : Value) (h : RqAt W B r fv) (hr : Reads .u8 W (.slice a zs.length c) zs) (hz : Octets zs) (hl : zs.length ≤ 100000) :
    Calls Tryz.prog 238 #[.agg #[.int .i64 tag, .slice a zs.length c]] (W.alloc (.cells #[.int .i64 tag, .slice a zs.length c] 141)) fun e w1 => e = .returned (.tuple #[.int .u64 (lastV zs).1, .int .i64 (lastV zs).2.2]) ∧ Hid (Below W.heap.size W w1) ∧ Hid (RqAt w1 B r fv) ∧ Hid (w1.heap[W.heap.size]? = some (.cells #[.int .i64 tag, .slice a zs.length c] 141)) ∧ Hid (Reads .u8 w1 (.slice a zs.length c) zs) ∧ Hid (W.heap.size < w1.heap.size) ∧ Hid (B < W.heap.size) := by
  have hb0 : Below W.heap.size W (W.alloc (.cells #[.int .i64 tag, .slice a zs.length c] 141)) := (Below.refl _ _).alloc (Nat.le_refl _) _
  refine (Value_any tag _ zs _ (hr.mod (S := fun _ => False) (Mod.of_same hb0) (by simp)) hz hl).mono ?_
  rintro e w1 ⟨rfl, hb1⟩
  have hs0 : (W.alloc (.cells #[.int .i64 tag, .slice a zs.length c] 141)).heap.size = W.heap.size + 1 := by show (W.heap.push _).size = _; rw [Array.size_push]
  have hB : B < W.heap.size := by
    have h' : W.heap[B]? = _ := h
    exact (Array.getElem?_eq_some_iff.1 h').1
  have hall : Below W.heap.size W w1 := hb0.trans (hb1.mono (by omega))
  exact ⟨rfl, hall, h.below hall, (Mod.of_same (S := fun _ => False) hb1).heap (World.alloc_heap_new W _) (by simp), hr.mod (S := fun _ => False) (Mod.of_same hall) (by simp), by have := (Mod.of_same (S := fun _ => False) hb1).size; show W.heap.size < w1.heap.size; omega, hB⟩
theorem reads_form {W : World} {v : Value} {zs : List Int} (hr : Reads .u8 W v zs) : ∃ a c, v = .slice a zs.length c := by
  rcases hr with ⟨a, c, rfl, rfl⟩ | ⟨b, o, c, rfl, _⟩
  · exact ⟨_, _, rfl⟩
  · exact ⟨_, _, rfl⟩
theorem take_name (B : Nat) (r : Rq) (fv v : Value) (zs : List Int) (W : World) (h : RqAt W B r fv) (hr : Reads .u8 W v zs) (hz : Octets zs) (hl : zs.length ≤ 100000) :
    Calls Tryz.prog 193 #[.pointer (some ⟨B, 0, none⟩), .agg #[.int .i64 2, v]] W fun e w' => e = .returned (.bool true) ∧ RqAt w' B { r with name := strOfNums zs } fv ∧ Mod (fun g => g = B) W w' := by
  obtain ⟨a, c, rfl⟩ := reads_form hr
  have HC := Lib.hid (take_begin 2 a c zs W B r fv h hr hz hl)
  clear h hr hz
  go_enter Tryz.func193, Tryz.ntmps193
  go_wp2_with fail
  refine HC.out.mono ?_; rintro e w1 ⟨rfl, HB, HR, HF, HZ, HS, HBN⟩
  obtain ⟨hf0, hf1⟩ := fld_cells HF.out
  have hcv := StrAt.convert (⟨zs, HZ.out, rfl⟩ : StrAt w1 (.slice a zs.length c) (strOfNums zs))
  obtain ⟨-, -, c2, -⟩ := HR.out.cells
  have f2 := HR.out.frozen 2
  go_wp2_with fail
  go_ret
  exact ⟨rfl, HR.out.setName _, (Mod.of_same (S := fun g => g = B) HB.out).setCell (p := ⟨B, 2, none⟩) (.inr rfl) _⟩
set_option maxHeartbeats 1000000 in
theorem take_what (B : Nat) (r : Rq) (fv v : Value) (zs : List Int) (W : World) (h : RqAt W B r fv) (hr : Reads .u8 W v zs) (hz : Octets zs) (hl : zs.length ≤ 100000) (hw0 : 0 ≤ r.what) (hw1 : r.what ≤ 255) :
    Calls Tryz.prog 193 #[.pointer (some ⟨B, 0, none⟩), .agg #[.int .i64 1, v]] W fun e w' => e = .returned (.bool (decide ((lastV zs).2.2 = 0 ∧ (lastV zs).1 = r.what))) ∧ RqAt w' B r fv ∧ Below W.heap.size W w' := by
  obtain ⟨a, c, rfl⟩ := reads_form hr
  have HC := Lib.hid (take_begin 1 a c zs W B r fv h hr hz hl)
  clear h hr hz
  obtain ⟨qx, qn, qe, hqe⟩ : ∃ qx qn qe, lastV zs = (qx, qn, qe) := ⟨_, _, _, rfl⟩
  rw [hqe] at HC ⊢
  clear hqe
  have hwr : IntKind.u64.wrap r.what = r.what := by rw [IntKind.wrap_u64]; omega
  go_enter Tryz.func193, Tryz.ntmps193
  go_wp2_with fail
  refine HC.out.mono ?_; rintro e w1 ⟨rfl, HB, HR, HF, HZ, HS, HBN⟩
  obtain ⟨hf0, hf1⟩ := fld_cells HF.out
  obtain ⟨-, c1, -⟩ := HR.out.cells
  go_wp2_with fail
  all_goals go_ret
  all_goals exact ⟨by first | (simp [*]; done) | (simp [*]; rfl), HR.out, HB.out⟩
set_option maxHeartbeats 1000000 in
theorem take_value (B : Nat) (r : Rq) (fv v : Value) (zs : List Int) (W : World) (h : RqAt W B r fv) (hr : Reads .u8 W v zs) (hz : Octets zs) (hl : zs.length ≤ 100000) (hx0 : 0 ≤ (lastV zs).1) (hx1 : (lastV zs).1 < 18446744073709551616) :
    Calls Tryz.prog 193 #[.pointer (some ⟨B, 0, none⟩), .agg #[.int .i64 10, v]] W fun e w' => e = .returned (.bool (decide ((lastV zs).2.2 = 0))) ∧ RqAt w' B { r with value := unfV (lastV zs).1 } fv ∧ Mod (fun g => g = B) W w' := by
  obtain ⟨a, c, rfl⟩ := reads_form hr
  have HC := Lib.hid (take_begin 10 a c zs W B r fv h hr hz hl)
  clear h hr hz
  obtain ⟨qx, qn, qe, hqe⟩ : ∃ qx qn qe, lastV zs = (qx, qn, qe) := ⟨_, _, _, rfl⟩
  rw [hqe] at HC hx0 hx1 ⊢
  clear hqe
  have HU := Lib.hid (Unfold_any qx hx0 hx1)
  clear hx0 hx1
  go_enter Tryz.func193, Tryz.ntmps193
  go_wp2_with fail
  refine HC.out.mono ?_; rintro e w1 ⟨rfl, HB, HR, HF, HZ, HS, HBN⟩
  obtain ⟨hf0, hf1⟩ := fld_cells HF.out
  obtain ⟨-, -, -, -, -, -, -, -, -, -, c10, -⟩ := HR.out.cells
  have f10 := HR.out.frozen 10
  go_wp2_with fail
  refine (HU.out _).mono ?_; rintro e w2 ⟨rfl, rfl⟩
  go_wp2_with fail
  all_goals go_ret
  all_goals exact ⟨by first | (simp [*]; done) | (simp [*]; rfl), HR.out.setValue _, (Mod.of_same (S := fun g => g = B) HB.out).setCell (p := ⟨B, 10, none⟩) (.inr rfl) _⟩
set_option maxHeartbeats 1000000 in
theorem take_fed (B : Nat) (r : Rq) (fv v : Value) (zs : List Int) (W : World) (h : RqAt W B r fv) (hr : Reads .u8 W v zs) (hz : Octets zs) (hl : zs.length ≤ 100000) :
    Calls Tryz.prog 193 #[.pointer (some ⟨B, 0, none⟩), .agg #[.int .i64 11, v]] W fun e w' => e = .returned (.bool true) ∧ ∃ v', RqAt w' B r v' ∧ w'.ownsRow W.heap.size 5 1 v' zs.length (u8s zs) ∧ Mod (fun g => g = B) W w' := by
  obtain ⟨a, c, rfl⟩ := reads_form hr
  have HC := Lib.hid (take_begin 11 a c zs W B r fv h hr hz hl)
  have hll : zs.length ≤ 140737488351232 := by omega
  clear h hr hz
  go_enter Tryz.func193, Tryz.ntmps193
  go_wp2_with fail
  refine HC.out.mono ?_; rintro e w1 ⟨rfl, HB, HR, HF, HZ, HS, HBN⟩
  obtain ⟨hf0, hf1⟩ := fld_cells HF.out
  obtain ⟨-, -, -, -, -, -, -, -, -, -, -, c11⟩ := HR.out.cells
  have f11 := HR.out.frozen 11
  go_wp2_with fail
  refine (sCloneZ_any _ zs _ HZ.out hll).mono ?_; rintro e w2 ⟨v', rfl, ho, hb⟩
  obtain ⟨a2, k2, e2⟩ := ownsRow_form ho
  subst e2
  have HO := Lib.hid ho
  have HR2 := Lib.hid (HR.out.below hb)
  have HM2 := Lib.hid ((Mod.of_same (S := fun g => g = B) HB.out).trans (Mod.of_same hb))
  obtain ⟨-, -, -, -, -, -, -, -, -, -, -, c11'⟩ := HR2.out.cells
  have f11' := HR2.out.frozen 11
  clear ho hb
  go_wp2_with fail
  go_ret
  refine ⟨rfl, _, HR2.out.setFed _, ?_, HM2.out.setCell (p := ⟨B, 11, none⟩) (.inr rfl) _⟩
  have hbl : B < w1.heap.size := Nat.lt_trans HBN.out HS.out
  refine World.ownsRow.mono (ownsRow_mod (S := fun g => g = B) HO.out ((Mod.refl (fun g => g = B) _).setCell (p := ⟨B, 11, none⟩) (.inr rfl) _) (fun g hg e => ?_)) (Nat.le_of_lt HS.out)
  have := ownBlock_ge_ HO.out hg
  omega
end Eng
end Go.Proofs.YtdfmgneicdpjmaaGreat

/- num.Read, num.Int at small numbers and at 341; what takes numbers of a response's bytes. -/
namespace Go.Proofs.YtdfmgneicdpjmaaGreat
open Go.RowKit Go.Shelf
set_option linter.unusedVariables false
set_option linter.unusedSimpArgs false
set_option maxRecDepth 100000
namespace Resp

theorem NumRead_small (a : Option Addr) (n c : Nat) (zs : List Int) (W : World) (p : Nat) (x : Int) (h : Reads .u8 W (.slice a n c) zs) (hn : zs.length = n) (hl : n ≤ 1000) (hp : p < n) (hx : zs[p]?.getD 0 = x) (h0 : 0 ≤ x) (h1 : x ≤ 246) :
    Calls Tryz.prog 172 #[.slice a n c, .int .i64 (p : Int)] W fun e w' => e = .returned (.tuple #[.int .u64 x, .int .i64 1, .int .i64 0]) ∧ W = w' := by
  rcases h with ⟨a2, c2, e2, e3⟩ | ⟨b, o, c2, e2, hl2, hc⟩
  · subst e3; simp at hn; omega
  · rw [hn] at e2
    cases e2
    have hcell := hc p (by omega)
    rw [hx] at hcell
    clear hc
    have hpI : (p : Int) < n := by omega
    have hpn : ¬ (p : Int) = n := by omega
    have hpb : ((p : Int) == (n : Int)) = false := by simp; omega
    have hw : IntKind.u64.wrap x = x := by rw [IntKind.wrap_u64]; omega
    go_enter Tryz.func172, Tryz.ntmps172
    go_wp2_with fail
    go_step3
    go_wp2_with fail
    rw [Exit.noGoto_ret]
    go_returns
    exact ⟨rfl, rfl⟩
theorem NumRead_341 (b o c : Nat) (W : World) (h0 : W.cell? ⟨b, o, none⟩ = some (.int .u8 248)) (h1 : W.cell? ⟨b, o + 1, none⟩ = some (.int .u8 1)) (h2 : W.cell? ⟨b, o + 2, none⟩ = some (.int .u8 85)) :
    Calls Tryz.prog 172 #[.slice (some ⟨b, o, none⟩) 3 c, .int .i64 0] W fun e w' => e = .returned (.tuple #[.int .u64 341, .int .i64 3, .int .i64 0]) ∧ W = w' := by
  have hb1 : bits BinOp.or IntKind.u64 0 1 = 1 := by decide +kernel
  have hb2 : bits BinOp.or IntKind.u64 256 85 = 341 := by decide +kernel
  have hb3 : IntKind.u64.wrap 256 = 256 := by decide +kernel
  go_enter Tryz.func172, Tryz.ntmps172
  go_wp2_with fail
  go_step3
  go_wp2_with fail
  go_step3
  go_wp2_with fail
  refine wp_loop_rounds 3 ?_
  rw [rounds_succ]
  go_wp2_with fail
  rw [rounds_succ]
  go_wp2_with fail
  rw [rounds_succ]
  go_wp2_with fail
  rw [Exit.noGoto_ret]
  go_returns
  exact ⟨rfl, rfl⟩
theorem NumInt_small (a : Option Addr) (n c : Nat) (zs : List Int) (W : World) (p : Nat) (x : Int) (h : Reads .u8 W (.slice a n c) zs) (hn : zs.length = n) (hl : n ≤ 1000) (hp : p < n) (hx : zs[p]?.getD 0 = x) (h0 : 0 ≤ x) (h1 : x ≤ 246) :
    Calls Tryz.prog 167 #[.slice a n c, .int .i64 (p : Int), .int .i64 0, .int .i64 16384] W fun e w' => e = .returned (.tuple #[.int .i64 x, .int .i64 1, .int .i64 0]) ∧ W = w' := by
  have hw : IntKind.i64.wrap x = x := by rw [IntKind.wrap_i64]; omega
  have h2 : ¬ x > 16384 := by omega
  have h3 : ¬ 16384 < x := by omega
  have h4 : decide (16384 < x) = false := by simp; omega
  have h5 : decide (x > 16384) = false := by simp; omega
  have HR := Lib.hid (NumRead_small a n c zs W p x h hn hl hp hx h0 h1)
  clear h
  go_enter Tryz.func167, Tryz.ntmps167
  go_wp2_with fail
  refine HR.out.mono ?_; rintro e w1 ⟨rfl, hy⟩
  subst hy
  go_wp2_with fail
  go_returns
  exact ⟨rfl, rfl⟩
/-- What takes numbers: a slice, and whether it has failed. -/
def RdAt (W : World) (B : Nat) (v : Value) : Prop := W.heap[B]? = some (.cells #[v, .bool false] 196)
theorem RdAt.sets {W : World} {B : Nat} {v : Value} (h : RdAt W B v) (u : Value) : RdAt ((W.setCell ⟨B, 1, none⟩ (.bool false)).setCell ⟨B, 0, none⟩ u) B u := by
  have := heap_set_ (heap_set_ h 1 (.bool false)) 0 u
  simpa [RdAt] using this
theorem RdAt.set1 {W : World} {B : Nat} {v : Value} (h : RdAt W B v) : RdAt (W.setCell ⟨B, 1, none⟩ (.bool false)) B v := by
  have := heap_set_ h 1 (.bool false)
  simpa [RdAt] using this
theorem next_takes (B : Nat) (b o c k : Nat) (x : Int) (W : World) (h : RdAt W B (.slice (some ⟨b, o, none⟩) k c)) (hkc : k ≤ c)
    (hr : Calls Tryz.prog 172 #[.slice (some ⟨b, o, none⟩) k c, .int .i64 0] W fun e w' => e = .returned (.tuple #[.int .u64 x, .int .i64 (k : Int), .int .i64 0]) ∧ W = w') :
    Calls Tryz.prog 130 #[.pointer (some ⟨B, 0, none⟩)] W fun e w' => e = .returned (.int .u64 x) ∧ (∃ a' c', RdAt w' B (.slice a' 0 c')) ∧ Mod (fun g => g = B) W w' := by
  obtain ⟨c0, c1, f0, f1⟩ := pair_cells_ h
  have HR := Lib.hid hr
  have HB := Lib.hid h
  have HM := Lib.hid (fun u => (mod_set_ W B 1 (.bool false)).trans (mod_set_ (W.setCell ⟨B, 1, none⟩ (.bool false)) B 0 u))
  clear h hr
  go_enter Tryz.func130, Tryz.ntmps130
  go_wp2_with fail
  refine HR.out.mono ?_; rintro e w1 ⟨rfl, hy⟩
  subst hy
  go_wp2_with fail
  all_goals (go_ret; exact ⟨rfl, ⟨_, _, HB.out.sets _⟩, HM.out _⟩)
theorem number_takes (B : Nat) (b o c k : Nat) (x : Int) (W : World) (h : RdAt W B (.slice (some ⟨b, o, none⟩) k c)) (hkc : k ≤ c) (hx0 : 0 ≤ x) (hx1 : x ≤ 1000)
    (hr : Calls Tryz.prog 172 #[.slice (some ⟨b, o, none⟩) k c, .int .i64 0] W fun e w' => e = .returned (.tuple #[.int .u64 x, .int .i64 (k : Int), .int .i64 0]) ∧ W = w') :
    Calls Tryz.prog 122 #[.pointer (some ⟨B, 0, none⟩)] W fun e w' => e = .returned (.int .i64 x) ∧ (∃ a' c', RdAt w' B (.slice a' 0 c')) ∧ Mod (fun g => g = B) W w' := by
  have HN := Lib.hid (next_takes B b o c k x W h hkc hr)
  have hw : IntKind.i64.wrap x = x := by rw [IntKind.wrap_i64]; omega
  have h2 : ¬ x > 9223372036854775807 := by omega
  have h3 : ¬ 9223372036854775807 < x := by omega
  have h4 : decide (9223372036854775807 < x) = false := by simp; omega
  have h5 : decide (x > 9223372036854775807) = false := by simp; omega
  clear h hr
  go_enter Tryz.func122, Tryz.ntmps122
  go_wp2_with fail
  refine HN.out.mono ?_; rintro e w1 ⟨rfl, ⟨a', c', hb⟩, hm⟩
  obtain ⟨c0, c1, f0, f1⟩ := pair_cells_ hb
  have HB := Lib.hid hb
  have HM := Lib.hid (hm.trans (mod_set_ w1 B 1 (.bool false)))
  clear hb hm
  go_wp2_with fail
  go_ret
  exact ⟨rfl, ⟨_, _, HB.out.set1⟩, HM.out⟩
end Resp
end Go.Proofs.YtdfmgneicdpjmaaGreat

/- Response.take of a number and of a code. -/
namespace Go.Proofs.YtdfmgneicdpjmaaGreat
open Go.RowKit Go.Shelf
set_option linter.unusedVariables false
set_option linter.unusedSimpArgs false
set_option maxRecDepth 100000
namespace Resp

/-- A response of which but the number and the code are set. -/
def RC (W : World) (B : Nat) (x y : Int) : Prop := W.heap[B]? = some (.cells #[.int .i64 x, .int .i64 y, .int .i64 0, .int .i64 0, .int .i64 0, .int .u8 0, .bool false, .int .i64 0, .int .i64 0, .int .i64 0, .slice none 0 0, .slice none 0 0, .slice none 0 0, .slice none 0 0, .slice none 0 0] 76)
theorem RC.cells {W : World} {B : Nat} {x y : Int} (h : RC W B x y) : W.cell? ⟨B, 0, none⟩ = some (.int .i64 x) ∧ W.cell? ⟨B, 1, none⟩ = some (.int .i64 y) ∧ W.frozen? ⟨B, 0, none⟩ = false ∧ W.frozen? ⟨B, 1, none⟩ = false := by
  have h' : W.heap[B]? = _ := h
  refine ⟨?_, ?_, ?_, ?_⟩ <;> first | simp [World.cell?, h'] | simp [World.frozen?, h']
theorem RC.mod {S : Nat → Prop} {W W' : World} {B : Nat} {x y : Int} (h : RC W B x y) (hm : Mod S W W') (hB : ¬ S B) : RC W' B x y := hm.heap h hB
theorem RC.set0 {W : World} {B : Nat} {x y : Int} (h : RC W B x y) (z : Int) : RC (W.setCell ⟨B, 0, none⟩ (.int .i64 z)) B z y := by
  have := heap_set_ h 0 (.int .i64 z); simpa [RC] using this
theorem RC.set1 {W : World} {B : Nat} {x y : Int} (h : RC W B x y) (z : Int) : RC (W.setCell ⟨B, 1, none⟩ (.int .i64 z)) B x z := by
  have := heap_set_ h 1 (.int .i64 z); simpa [RC] using this
theorem three_new_ (W : World) (o1 o2 o3 : Obj) : (((W.alloc o1).alloc o2).alloc o3).heap[W.heap.size]? = some o1 ∧ (((W.alloc o1).alloc o2).alloc o3).heap[W.heap.size + 1]? = some o2 ∧ (((W.alloc o1).alloc o2).alloc o3).heap[W.heap.size + 1 + 1]? = some o3 := by
  have h1 := World.alloc_heap_new W o1
  have h2 := World.alloc_heap_new (W.alloc o1) o2
  have h3 := World.alloc_heap_new ((W.alloc o1).alloc o2) o3
  simp only [World.size_alloc] at h2 h3
  exact ⟨(Below.heap_alloc _ _ _ (by simp; omega)).trans ((Below.heap_alloc _ _ _ (by simp)).trans h1), (Below.heap_alloc _ _ _ (by simp)).trans h2, h3⟩
theorem reads_one_o_ {W : World} {b o c : Nat} {z : Int} (h : W.cell? ⟨b, o, none⟩ = some (.int .u8 z)) : Reads .u8 W (.slice (some ⟨b, o, none⟩) 1 c) [z] :=
  .inr ⟨b, o, c, rfl, by unfold maxLen; simp, fun i hi => by
    have : i = 0 := by simpa using hi
    subst this
    simpa using h⟩
set_option maxHeartbeats 1000000 in
theorem take_number (R b o c : Nat) (n : Nat) (y x0 : Int) (hn : n ≤ 246) (W : World) (h : RC W R x0 y) (hc : W.cell? ⟨b, o, none⟩ = some (.int .u8 (n : Int))) (hkc : 1 ≤ c) :
    Calls Tryz.prog 86 #[.pointer (some ⟨R, 0, none⟩), .agg #[.int .i64 1, .slice (some ⟨b, o, none⟩) 1 c]] W fun e w' => e = .returned (.bool true) ∧ RC w' R (n : Int) y ∧ Mod (fun g => g = R) W w' := by
  have hR := (Array.getElem?_eq_some_iff.1 h).1
  have HR := Lib.hid h
  clear h
  go_enter Tryz.func86, Tryz.ntmps86
  go_upto_region 2 with fail
  obtain ⟨hh1, hh2, hh3⟩ := three_new_ W (.cells #[.int .i64 1, .slice (some ⟨b, o, none⟩) 1 c] 141) (.cells #[.slice (some ⟨b, o, none⟩) 1 c, .bool false] 196) (.cells #[.pointer (some ⟨W.heap.size + 1, 0, none⟩)] 194)
  have hm1 : Mod (fun _ => False) W (((W.alloc (.cells #[.int .i64 1, .slice (some ⟨b, o, none⟩) 1 c] 141)).alloc (.cells #[.slice (some ⟨b, o, none⟩) 1 c, .bool false] 196)).alloc (.cells #[.pointer (some ⟨W.heap.size + 1, 0, none⟩)] 194)) := (((Mod.refl _ _).alloc _).alloc _).alloc _
  generalize ((W.alloc (.cells #[.int .i64 1, .slice (some ⟨b, o, none⟩) 1 c] 141)).alloc (.cells #[.slice (some ⟨b, o, none⟩) 1 c, .bool false] 196)).alloc (.cells #[.pointer (some ⟨W.heap.size + 1, 0, none⟩)] 194) = W3 at *
  generalize hX : W.heap.size = X at *
  have hRD : RdAt W3 (X + 1) (.slice (some ⟨b, o, none⟩) 1 c) := hh2
  have hc3 := hm1.cell (by simp) hc
  have HN := Lib.hid (number_takes (X + 1) b o c 1 (n : Int) W3 hRD hkc (by omega) (by omega) (NumRead_small (some ⟨b, o, none⟩) 1 c [(n : Int)] W3 0 (n : Int) (reads_one_o_ hc3) rfl (by omega) (by omega) rfl (by omega) (by omega)))
  obtain ⟨p0, p1, -, -⟩ := pair_cells_ hh1
  have p3 := cell_of_heap_ hh3
  have HH3 := Lib.hid hh3
  have HR3 := Lib.hid (HR.out.mod hm1 (by simp))
  have HM1 := Lib.hid hm1
  clear hh1 hh2 hh3 hRD hm1
  go_wp2_with fail
  refine HN.out.mono ?_; rintro e W4 ⟨rfl, ⟨a', c', hrd⟩, hm4⟩
  have HR4 := Lib.hid (HR3.out.mod hm4 (by omega))
  obtain ⟨r0, r1, f0, f1⟩ := HR4.out.cells
  have HP4 := Lib.hid (hm4.heap HH3.out (by omega))
  have HRD4 := Lib.hid hrd
  have hms := mod_set_ W4 R 0 (.int .i64 (n : Int))
  have HR5 := Lib.hid (HR4.out.set0 (n : Int))
  have HP5 := Lib.hid (hms.heap HP4.out (by omega))
  have HRD5 : Hid (RdAt (W4.setCell ⟨R, 0, none⟩ (.int .i64 (n : Int))) (X + 1) (.slice a' 0 c')) := hms.heap HRD4.out (by omega)
  have HM5 : Hid (Mod (fun g => g = R) W (W4.setCell ⟨R, 0, none⟩ (.int .i64 (n : Int)))) := mod_trans_up_ (mod_trans_up_ (S := fun g => g = R) (HM1.out.mono (by simp)) hm4 (fun q hq e => by omega)) hms (fun q hq e => e)
  clear hrd hm4 hms p0 p1 p3 HN HR3 HM1
  go_upto_region 31 with fail
  generalize W4.setCell ⟨R, 0, none⟩ (.int .i64 (n : Int)) = W5 at *
  clear r0 r1 f0 f1
  have q3 := cell_of_heap_ HP5.out
  obtain ⟨q0, q1, -, -⟩ := pair_cells_ HRD5.out
  go_wp2_with fail
  go_ret
  exact ⟨rfl, HR5.out, HM5.out⟩
set_option maxHeartbeats 1000000 in
theorem take_code (R b o c : Nat) (x0 y0 : Int) (W : World) (h : RC W R x0 y0) (hc : W.cell? ⟨b, o, none⟩ = some (.int .u8 248)) (hc1 : W.cell? ⟨b, o + 1, none⟩ = some (.int .u8 1)) (hc2 : W.cell? ⟨b, o + 2, none⟩ = some (.int .u8 85)) (hkc : 3 ≤ c) :
    Calls Tryz.prog 86 #[.pointer (some ⟨R, 0, none⟩), .agg #[.int .i64 3, .slice (some ⟨b, o, none⟩) 3 c]] W fun e w' => e = .returned (.bool true) ∧ RC w' R x0 341 ∧ Mod (fun g => g = R) W w' := by
  have hR := (Array.getElem?_eq_some_iff.1 h).1
  have HR := Lib.hid h
  clear h
  go_enter Tryz.func86, Tryz.ntmps86
  go_upto_region 2 with fail
  obtain ⟨hh1, hh2, hh3⟩ := three_new_ W (.cells #[.int .i64 3, .slice (some ⟨b, o, none⟩) 3 c] 141) (.cells #[.slice (some ⟨b, o, none⟩) 3 c, .bool false] 196) (.cells #[.pointer (some ⟨W.heap.size + 1, 0, none⟩)] 194)
  have hm1 : Mod (fun _ => False) W (((W.alloc (.cells #[.int .i64 3, .slice (some ⟨b, o, none⟩) 3 c] 141)).alloc (.cells #[.slice (some ⟨b, o, none⟩) 3 c, .bool false] 196)).alloc (.cells #[.pointer (some ⟨W.heap.size + 1, 0, none⟩)] 194)) := (((Mod.refl _ _).alloc _).alloc _).alloc _
  generalize ((W.alloc (.cells #[.int .i64 3, .slice (some ⟨b, o, none⟩) 3 c] 141)).alloc (.cells #[.slice (some ⟨b, o, none⟩) 3 c, .bool false] 196)).alloc (.cells #[.pointer (some ⟨W.heap.size + 1, 0, none⟩)] 194) = W3 at *
  generalize hX : W.heap.size = X at *
  have hRD : RdAt W3 (X + 1) (.slice (some ⟨b, o, none⟩) 3 c) := hh2
  have hc3 := hm1.cell (by simp) hc
  have hc4 := hm1.cell (by simp) hc1
  have hc5 := hm1.cell (by simp) hc2
  have HN := Lib.hid (number_takes (X + 1) b o c 3 341 W3 hRD hkc (by omega) (by omega) (NumRead_341 b o c W3 hc3 hc4 hc5))
  obtain ⟨p0, p1, -, -⟩ := pair_cells_ hh1
  have p3 := cell_of_heap_ hh3
  have HH3 := Lib.hid hh3
  have HR3 := Lib.hid (HR.out.mod hm1 (by simp))
  have HM1 := Lib.hid hm1
  clear hh1 hh2 hh3 hRD hm1
  go_wp2_with fail
  refine HN.out.mono ?_; rintro e W4 ⟨rfl, ⟨a', c', hrd⟩, hm4⟩
  have HR4 := Lib.hid (HR3.out.mod hm4 (by omega))
  obtain ⟨r0, r1, f0, f1⟩ := HR4.out.cells
  have HP4 := Lib.hid (hm4.heap HH3.out (by omega))
  have HRD4 := Lib.hid hrd
  have hms := mod_set_ W4 R 1 (.int .i64 341)
  have HR5 := Lib.hid (HR4.out.set1 341)
  have HP5 := Lib.hid (hms.heap HP4.out (by omega))
  have HRD5 : Hid (RdAt (W4.setCell ⟨R, 1, none⟩ (.int .i64 341)) (X + 1) (.slice a' 0 c')) := hms.heap HRD4.out (by omega)
  have HM5 : Hid (Mod (fun g => g = R) W (W4.setCell ⟨R, 1, none⟩ (.int .i64 341))) := mod_trans_up_ (mod_trans_up_ (S := fun g => g = R) (HM1.out.mono (by simp)) hm4 (fun q hq e => by omega)) hms (fun q hq e => e)
  clear hrd hm4 hms p0 p1 p3 HN HR3 HM1
  go_upto_region 31 with fail
  generalize W4.setCell ⟨R, 1, none⟩ (.int .i64 341) = W5 at *
  clear r0 r1 f0 f1
  have q3 := cell_of_heap_ HP5.out
  obtain ⟨q0, q1, -, -⟩ := pair_cells_ HRD5.out
  go_wp2_with fail
  go_ret
  exact ⟨rfl, HR5.out, HM5.out⟩
end Resp
end Go.Proofs.YtdfmgneicdpjmaaGreat
