/- Response.take of a number and of a code. -/
import Derived.Test.YtdfmgneicdpjmaaGreatReadA
namespace Go.Proofs.YtdfmgneicdpjmaaGreat
open Go.RowKit Go.Shelf
set_option linter.unusedVariables false
set_option linter.unusedSimpArgs false
set_option maxRecDepth 100000
namespace Resp

/-- A response of which but the number and the code are set. -/
def RC (W : World) (B : Nat) (x y : Int) : Prop := W.heap[B]? = some (.cells #[.int .i64 x, .int .i64 y, .int .i64 0, .int .i64 0, .int .i64 0, .int .u8 0, .bool false, .int .i64 0, .int .i64 0, .int .i64 0, .slice none 0 0, .slice none 0 0, .slice none 0 0, .slice none 0 0, .slice none 0 0] 76)
theorem RC.cells {W : World} {B : Nat} {x y : Int} (h : RC W B x y) : W.cell? ⟨B, 0, none⟩ = some (.int .i64 x) ∧ W.cell? ⟨B, 1, none⟩ = some (.int .i64 y) ∧ W.frozen? ⟨B, 0, none⟩ = false ∧ W.frozen? ⟨B, 1, none⟩ = false := by
  have h' : W.heap[B]? = _ := h
  refine ⟨?_, ?_, ?_, ?_⟩ <;> first | simp [World.cell?, h'] | simp [World.frozen?, h']
theorem RC.mod {S : Nat → Prop} {W W' : World} {B : Nat} {x y : Int} (h : RC W B x y) (hm : Mod S W W') (hB : ¬ S B) : RC W' B x y := hm.heap h hB
theorem RC.set0 {W : World} {B : Nat} {x y : Int} (h : RC W B x y) (z : Int) : RC (W.setCell ⟨B, 0, none⟩ (.int .i64 z)) B z y := by
  have := heap_set_ h 0 (.int .i64 z); simpa [RC] using this
theorem RC.set1 {W : World} {B : Nat} {x y : Int} (h : RC W B x y) (z : Int) : RC (W.setCell ⟨B, 1, none⟩ (.int .i64 z)) B x z := by
  have := heap_set_ h 1 (.int .i64 z); simpa [RC] using this
theorem three_new_ (W : World) (o1 o2 o3 : Obj) : (((W.alloc o1).alloc o2).alloc o3).heap[W.heap.size]? = some o1 ∧ (((W.alloc o1).alloc o2).alloc o3).heap[W.heap.size + 1]? = some o2 ∧ (((W.alloc o1).alloc o2).alloc o3).heap[W.heap.size + 1 + 1]? = some o3 := by
  have h1 := World.alloc_heap_new W o1
  have h2 := World.alloc_heap_new (W.alloc o1) o2
  have h3 := World.alloc_heap_new ((W.alloc o1).alloc o2) o3
  simp only [World.size_alloc] at h2 h3
  exact ⟨(Below.heap_alloc _ _ _ (by simp; omega)).trans ((Below.heap_alloc _ _ _ (by simp)).trans h1), (Below.heap_alloc _ _ _ (by simp)).trans h2, h3⟩
theorem reads_one_o_ {W : World} {b o c : Nat} {z : Int} (h : W.cell? ⟨b, o, none⟩ = some (.int .u8 z)) : Reads .u8 W (.slice (some ⟨b, o, none⟩) 1 c) [z] :=
  .inr ⟨b, o, c, rfl, by unfold maxLen; simp, fun i hi => by
    have : i = 0 := by simpa using hi
    subst this
    simpa using h⟩
set_option maxHeartbeats 1000000 in
theorem take_number (R b o c : Nat) (n : Nat) (y x0 : Int) (hn : n ≤ 246) (W : World) (h : RC W R x0 y) (hc : W.cell? ⟨b, o, none⟩ = some (.int .u8 (n : Int))) (hkc : 1 ≤ c) :
    Calls Tryz.prog 86 #[.pointer (some ⟨R, 0, none⟩), .agg #[.int .i64 1, .slice (some ⟨b, o, none⟩) 1 c]] W fun e w' => e = .returned (.bool true) ∧ RC w' R (n : Int) y ∧ Mod (fun g => g = R) W w' := by
  have hR := (Array.getElem?_eq_some_iff.1 h).1
  have HR := Lib.hid h
  clear h
  go_enter Tryz.func86, Tryz.ntmps86
  go_upto_region 2 with fail
  obtain ⟨hh1, hh2, hh3⟩ := three_new_ W (.cells #[.int .i64 1, .slice (some ⟨b, o, none⟩) 1 c] 141) (.cells #[.slice (some ⟨b, o, none⟩) 1 c, .bool false] 196) (.cells #[.pointer (some ⟨W.heap.size + 1, 0, none⟩)] 194)
  have hm1 : Mod (fun _ => False) W (((W.alloc (.cells #[.int .i64 1, .slice (some ⟨b, o, none⟩) 1 c] 141)).alloc (.cells #[.slice (some ⟨b, o, none⟩) 1 c, .bool false] 196)).alloc (.cells #[.pointer (some ⟨W.heap.size + 1, 0, none⟩)] 194)) := (((Mod.refl _ _).alloc _).alloc _).alloc _
  generalize ((W.alloc (.cells #[.int .i64 1, .slice (some ⟨b, o, none⟩) 1 c] 141)).alloc (.cells #[.slice (some ⟨b, o, none⟩) 1 c, .bool false] 196)).alloc (.cells #[.pointer (some ⟨W.heap.size + 1, 0, none⟩)] 194) = W3 at *
  generalize hX : W.heap.size = X at *
  have hRD : RdAt W3 (X + 1) (.slice (some ⟨b, o, none⟩) 1 c) := hh2
  have hc3 := hm1.cell (by simp) hc
  have HN := Lib.hid (number_takes (X + 1) b o c 1 (n : Int) W3 hRD hkc (by omega) (by omega) (NumRead_small (some ⟨b, o, none⟩) 1 c [(n : Int)] W3 0 (n : Int) (reads_one_o_ hc3) rfl (by omega) (by omega) rfl (by omega) (by omega)))
  obtain ⟨p0, p1, -, -⟩ := pair_cells_ hh1
  have p3 := cell_of_heap_ hh3
  have HH3 := Lib.hid hh3
  have HR3 := Lib.hid (HR.out.mod hm1 (by simp))
  have HM1 := Lib.hid hm1
  clear hh1 hh2 hh3 hRD hm1
  go_wp2_with fail
  refine HN.out.mono ?_; rintro e W4 ⟨rfl, ⟨a', c', hrd⟩, hm4⟩
  have HR4 := Lib.hid (HR3.out.mod hm4 (by omega))
  obtain ⟨r0, r1, f0, f1⟩ := HR4.out.cells
  have HP4 := Lib.hid (hm4.heap HH3.out (by omega))
  have HRD4 := Lib.hid hrd
  have hms := mod_set_ W4 R 0 (.int .i64 (n : Int))
  have HR5 := Lib.hid (HR4.out.set0 (n : Int))
  have HP5 := Lib.hid (hms.heap HP4.out (by omega))
  have HRD5 : Hid (RdAt (W4.setCell ⟨R, 0, none⟩ (.int .i64 (n : Int))) (X + 1) (.slice a' 0 c')) := hms.heap HRD4.out (by omega)
  have HM5 : Hid (Mod (fun g => g = R) W (W4.setCell ⟨R, 0, none⟩ (.int .i64 (n : Int)))) := mod_trans_up_ (mod_trans_up_ (S := fun g => g = R) (HM1.out.mono (by simp)) hm4 (fun q hq e => by omega)) hms (fun q hq e => e)
  clear hrd hm4 hms p0 p1 p3 HN HR3 HM1
  go_upto_region 31 with fail
  generalize W4.setCell ⟨R, 0, none⟩ (.int .i64 (n : Int)) = W5 at *
  clear r0 r1 f0 f1
  have q3 := cell_of_heap_ HP5.out
  obtain ⟨q0, q1, -, -⟩ := pair_cells_ HRD5.out
  go_wp2_with fail
  go_ret
  exact ⟨rfl, HR5.out, HM5.out⟩
set_option maxHeartbeats 1000000 in
theorem take_code (R b o c : Nat) (x0 y0 : Int) (W : World) (h : RC W R x0 y0) (hc : W.cell? ⟨b, o, none⟩ = some (.int .u8 248)) (hc1 : W.cell? ⟨b, o + 1, none⟩ = some (.int .u8 1)) (hc2 : W.cell? ⟨b, o + 2, none⟩ = some (.int .u8 85)) (hkc : 3 ≤ c) :
    Calls Tryz.prog 86 #[.pointer (some ⟨R, 0, none⟩), .agg #[.int .i64 3, .slice (some ⟨b, o, none⟩) 3 c]] W fun e w' => e = .returned (.bool true) ∧ RC w' R x0 341 ∧ Mod (fun g => g = R) W w' := by
  have hR := (Array.getElem?_eq_some_iff.1 h).1
  have HR := Lib.hid h
  clear h
  go_enter Tryz.func86, Tryz.ntmps86
  go_upto_region 2 with fail
  obtain ⟨hh1, hh2, hh3⟩ := three_new_ W (.cells #[.int .i64 3, .slice (some ⟨b, o, none⟩) 3 c] 141) (.cells #[.slice (some ⟨b, o, none⟩) 3 c, .bool false] 196) (.cells #[.pointer (some ⟨W.heap.size + 1, 0, none⟩)] 194)
  have hm1 : Mod (fun _ => False) W (((W.alloc (.cells #[.int .i64 3, .slice (some ⟨b, o, none⟩) 3 c] 141)).alloc (.cells #[.slice (some ⟨b, o, none⟩) 3 c, .bool false] 196)).alloc (.cells #[.pointer (some ⟨W.heap.size + 1, 0, none⟩)] 194)) := (((Mod.refl _ _).alloc _).alloc _).alloc _
  generalize ((W.alloc (.cells #[.int .i64 3, .slice (some ⟨b, o, none⟩) 3 c] 141)).alloc (.cells #[.slice (some ⟨b, o, none⟩) 3 c, .bool false] 196)).alloc (.cells #[.pointer (some ⟨W.heap.size + 1, 0, none⟩)] 194) = W3 at *
  generalize hX : W.heap.size = X at *
  have hRD : RdAt W3 (X + 1) (.slice (some ⟨b, o, none⟩) 3 c) := hh2
  have hc3 := hm1.cell (by simp) hc
  have hc4 := hm1.cell (by simp) hc1
  have hc5 := hm1.cell (by simp) hc2
  have HN := Lib.hid (number_takes (X + 1) b o c 3 341 W3 hRD hkc (by omega) (by omega) (NumRead_341 b o c W3 hc3 hc4 hc5))
  obtain ⟨p0, p1, -, -⟩ := pair_cells_ hh1
  have p3 := cell_of_heap_ hh3
  have HH3 := Lib.hid hh3
  have HR3 := Lib.hid (HR.out.mod hm1 (by simp))
  have HM1 := Lib.hid hm1
  clear hh1 hh2 hh3 hRD hm1
  go_wp2_with fail
  refine HN.out.mono ?_; rintro e W4 ⟨rfl, ⟨a', c', hrd⟩, hm4⟩
  have HR4 := Lib.hid (HR3.out.mod hm4 (by omega))
  obtain ⟨r0, r1, f0, f1⟩ := HR4.out.cells
  have HP4 := Lib.hid (hm4.heap HH3.out (by omega))
  have HRD4 := Lib.hid hrd
  have hms := mod_set_ W4 R 1 (.int .i64 341)
  have HR5 := Lib.hid (HR4.out.set1 341)
  have HP5 := Lib.hid (hms.heap HP4.out (by omega))
  have HRD5 : Hid (RdAt (W4.setCell ⟨R, 1, none⟩ (.int .i64 341)) (X + 1) (.slice a' 0 c')) := hms.heap HRD4.out (by omega)
  have HM5 : Hid (Mod (fun g => g = R) W (W4.setCell ⟨R, 1, none⟩ (.int .i64 341))) := mod_trans_up_ (mod_trans_up_ (S := fun g => g = R) (HM1.out.mono (by simp)) hm4 (fun q hq e => by omega)) hms (fun q hq e => e)
  clear hrd hm4 hms p0 p1 p3 HN HR3 HM1
  go_upto_region 31 with fail
  generalize W4.setCell ⟨R, 1, none⟩ (.int .i64 341) = W5 at *
  clear r0 r1 f0 f1
  have q3 := cell_of_heap_ HP5.out
  obtain ⟨q0, q1, -, -⟩ := pair_cells_ HRD5.out
  go_wp2_with fail
  go_ret
  exact ⟨rfl, HR5.out, HM5.out⟩
end Resp
end Go.Proofs.YtdfmgneicdpjmaaGreat
