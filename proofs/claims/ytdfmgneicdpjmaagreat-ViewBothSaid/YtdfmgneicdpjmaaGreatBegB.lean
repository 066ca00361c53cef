/- The examples of layer 38. -/
import Derived.Test.YtdfmgneicdpjmaaGreatTenK
import Derived.Test.YtdfmgneicdpjmaaGreatReadE
import Derived.Test.YtdfmgneicdpjmaaGreatBegA
namespace Go.Proofs.YtdfmgneicdpjmaaGreat
open Go.RowKit Go.Shelf
set_option linter.unusedVariables false
set_option linter.unusedSimpArgs false
set_option maxRecDepth 100000
namespace Resp

/-- What awake asks of a row of answers. -/
def OutAt (W : World) (base : Nat) (g m : Nat) : Prop := ∀ i, i < m → ∃ v, W.cell? ⟨g, i, none⟩ = some v ∧ W.ownsRow base 5 1 v 9 (u8s (frameR (i + 1)))
theorem OutAt.mod {S : Nat → Prop} {W W' : World} {base g m : Nat} (h : OutAt W base g m) (hm : Mod S W W') (hS : ∀ q, ¬ S q) : OutAt W' base g m := fun i hi => by
  obtain ⟨v, hc, ho⟩ := h i hi
  exact ⟨v, hm.cell (hS _) hc, ownsRow_mod ho hm (fun g _ => hS g)⟩
theorem OutRow.at_ {W : World} {base m : Nat} {v : Value} (h : OutRow W base v m) (hm : 0 < m) : ∃ g c, v = .slice (some ⟨g, 0, none⟩) m c ∧ m ≤ c ∧ c ≤ maxLen ∧ base ≤ g ∧ OutAt W base g m := by
  obtain ⟨vs, hl, ho, he⟩ := h
  obtain ⟨g, c, rfl, hc, hg, hf⟩ := owns_cells_pos_ ho hm
  refine ⟨g, c, rfl, hc, ?_, hg, fun i hi => ?_⟩
  · rcases ho.2 with ⟨h1, _⟩ | ⟨g', c', cur, h1, h2, h3, h4, h5, h6, h7⟩
    · cases h1
    · cases h1; exact h5
  · have hi' : i < vs.length := by omega
    exact ⟨vs[i], hf i _ (List.getElem?_eq_getElem hi'), he i hi'⟩
def frameS (n : Nat) : ByteArray := strOfNums (frameR n)
theorem StrAt.frame {W : World} {base n : Nat} {v : Value} (h : W.ownsRow base 5 1 v 9 (u8s (frameR n))) : StrAt W v (frameS n) := ⟨frameR n, Reads.of_owns (zs := frameR n) h, rfl⟩
theorem OutAt.rows {W : World} {base g m : Nat} (h : OutAt W base g m) : RowsAt W (some ⟨g, 0, none⟩) m ((List.range m).map fun i => frameS (i + 1)) :=
  ⟨by simp, fun i u hu => by
    rw [List.getElem?_map] at hu
    by_cases hi : i < m
    · rw [List.getElem?_range hi] at hu
      obtain ⟨v, hc, ho⟩ := h i hi
      injection hu with hu
      subst hu
      exact ⟨g, 0, v, rfl, by rw [Nat.zero_add]; exact hc, StrAt.frame ho⟩
    · rw [List.getElem?_eq_none (by simpa using hi)] at hu
      cases hu⟩
theorem RowsAt.nil (W : World) : RowsAt W none 0 [] := ⟨rfl, fun i u hu => by simp at hu⟩
theorem begB_nil (ss : List ByteArray) : begB [] ss = true := by simp [begB]
theorem mod_drewN_ (w : World) : ∀ q, Mod (fun _ => False) w (w.drewN q)
  | 0 => Mod.refl _ _
  | q + 1 => (mod_drewN_ w q).drew
theorem cell_row_ {W : World} {g : Nat} {cs : Array Value} {T : TypeId} (h : W.heap[g]? = some (.cells cs T)) {i : Nat} {v : Value} (hv : cs[i]? = some v) : W.cell? ⟨g, i, none⟩ = some v := by
  simp only [World.cell?, h, Option.bind_some]
  exact hv
theorem EqualB_refl (v1 v2 : Value) (s : ByteArray) (W : World) (h1 : StrAt W v1 s) (h2 : StrAt W v2 s) :
    Calls Tryz.prog 33 #[v1, v2] W fun e w' => e = .returned (.bool true) ∧ w' = W := by
  have := EqualB_any v1 v2 s s W h1 h2
  rw [decide_eq_true rfl] at this
  exact this
theorem BeginsNil_at (g m c base : Nat) (W : World) (h : OutAt W base g m) (hm : m ≤ 1000000) (hmc : m ≤ c) (hcm : c ≤ maxLen) :
    Calls Tryz.prog 13 #[.slice none 0 0, .slice (some ⟨g, 0, none⟩) m c] W fun e w' => e = .returned (.bool true) ∧ Below W.heap.size W w' := by
  have := Begins_any none _ 0 m 0 c [] _ W (RowsAt.nil W) h.rows (by omega) hm hmc hcm
  rw [begB_nil] at this
  exact this
theorem st2_open_ (t : TypeId) (p v : Value) (h1 : ¬ t = 89) (h2 : ¬ t = 76) : Instr.storeAt t p v = (do storeVar t (← Instr.sureAddr p) v) := rfl
attribute [-go_sem] Instr.storeAt
attribute [local go_sem] st2_open_ st_new_
set_option maxHeartbeats 4000000 in
theorem awake38 (W : World) : Calls Tryz.prog 11 #[] W fun e w' => e = .returned (.bool true) ∧ Below W.heap.size W w' := by
  go_enter Tryz.func11, Tryz.ntmps11
  go_upto_region 2 with fail
  obtain ⟨hh1, hh2, hh3⟩ := three_new_ W (.cells #[.int .u8 9] 5) (.cells #[.int .u8 9] 5) (.cells #[.slice (some ⟨W.heap.size, 0, none⟩) 1 1, .slice (some ⟨W.heap.size + 1, 0, none⟩) 1 1] 25)
  have hm1 : Mod (fun _ => False) W (((W.alloc (.cells #[.int .u8 9] 5)).alloc (.cells #[.int .u8 9] 5)).alloc (.cells #[.slice (some ⟨W.heap.size, 0, none⟩) 1 1, .slice (some ⟨W.heap.size + 1, 0, none⟩) 1 1] 25)) := (((Mod.refl _ _).alloc _).alloc _).alloc _
  have hs1 : (((W.alloc (.cells #[.int .u8 9] 5)).alloc (.cells #[.int .u8 9] 5)).alloc (.cells #[.slice (some ⟨W.heap.size, 0, none⟩) 1 1, .slice (some ⟨W.heap.size + 1, 0, none⟩) 1 1] 25)).heap.size = W.heap.size + 3 := by simp
  generalize (((W.alloc (.cells #[.int .u8 9] 5)).alloc (.cells #[.int .u8 9] 5)).alloc (.cells #[.slice (some ⟨W.heap.size, 0, none⟩) 1 1, .slice (some ⟨W.heap.size + 1, 0, none⟩) 1 1] 25)) = W1 at *
  generalize hN : W.heap.size = N at *
  have HN := Lib.hid hN
  clear hN
  obtain ⟨k0, k1, -, -⟩ := pair_cells_ hh3
  have k2 := cell_of_heap_ hh1
  have k3 := cell_of_heap_ hh2
  have HM1 := Lib.hid hm1
  have HF : Hid (Frames1 W1 (.slice (some ⟨N + 1 + 1, 0, none⟩) 2 2) 2) := .inr ⟨N + 1 + 1, 2, rfl, fun i hi => by
    rcases i with _ | _ | i
    · exact ⟨_, _, _, k0, k2⟩
    · exact ⟨_, _, _, k1, k3⟩
    · omega⟩
  clear hh1 hh2 hh3 hm1
  go_wp2_with fail
  refine (Answers_short _ 2 W1 HF.out (by omega)).mono ?_; rintro e W2 ⟨vo, vt, rfl, ho2, ht2, hb2⟩
  obtain ⟨go, co, rfl, hco, hcm, hgo, hoa⟩ := ho2.at_ (by decide)
  obtain ⟨gt, ct, rfl, hct, hgt, htc⟩ := owns_cells_pos_ ht2 (by decide)
  have HO2 := Lib.hid hoa
  have HT2 : Hid (Reads .i64 W2 (.slice (some ⟨gt, 0, none⟩) 2 ct) [0, 0]) := Reads.of_owns (zs := [0, 0]) ht2
  have hm2 : Mod (fun _ => False) W1 W2 := Mod.of_same hb2
  have HM2 := Lib.hid (HM1.out.trans hm2)
  replace k0 := hm2.cell (by simp) k0
  replace k1 := hm2.cell (by simp) k1
  replace k2 := hm2.cell (by simp) k2
  replace k3 := hm2.cell (by simp) k3
  have hoI : (2 : Int) ≤ co := by omega
  clear hm2 hb2 hoa ho2 ht2 htc HF HM1
  go_wp2_with fail
  have hma : Mod (fun _ => False) W2 (W2.alloc (.cells #[.int .i64 0, .int .i64 0] 3)) := (Mod.refl _ _).alloc _
  have hz : (W2.alloc (.cells #[.int .i64 0, .int .i64 0] 3)).heap[W2.heap.size]? = some (.cells #[.int .i64 0, .int .i64 0] 3) := World.alloc_heap_new _ _
  obtain ⟨z0, z1, -, -⟩ := pair_cells_ hz
  refine (EqualI_any _ _ [0, 0] [0, 0] _ (HT2.out.mod hma (by simp)) (.inr ⟨W2.heap.size, 0, 2, rfl, by unfold maxLen; simp, fun i hi => by
    rcases i with _ | _ | i
    · exact z0
    · exact z1
    · simp at hi; omega⟩)).mono ?_; rintro e W4 ⟨rfl, q, e4⟩
  have hm4 : Mod (fun _ => False) W2 W4 := by
    rw [e4]
    exact hma.trans (mod_drewN_ _ q)
  have HM4 := Lib.hid (HM2.out.trans hm4)
  have HO4 := Lib.hid (HO2.out.mod hm4 (by simp))
  replace k0 := hm4.cell (by simp) k0
  replace k1 := hm4.cell (by simp) k1
  replace k2 := hm4.cell (by simp) k2
  replace k3 := hm4.cell (by simp) k3
  clear hm4 hma hz z0 z1 HT2 HM2 HO2 e4
  go_wp2_with fail
  refine wp_loop_rounds 3 ?_
  rw [rounds_succ]
  obtain ⟨vr, qr, ho0⟩ := HO4.out 0 (by omega)
  obtain ⟨gr, cr, e⟩ := owns_form_pos_ ho0 (by decide)
  subst e
  have HR0 := Lib.hid ho0
  clear ho0
  go_wp2_with fail
  refine (RespRead_any 1 (by omega) (by omega) _ _ W4 HR0.out).mono ?_; rintro e W5 ⟨rfl, hb5⟩
  have hm5 : Mod (fun _ => False) W4 W5 := Mod.of_same hb5
  have HM5 := Lib.hid (HM4.out.trans hm5)
  have HO5 := Lib.hid (HO4.out.mod hm5 (by simp))
  replace k0 := hm5.cell (by simp) k0
  replace k1 := hm5.cell (by simp) k1
  replace k2 := hm5.cell (by simp) k2
  replace k3 := hm5.cell (by simp) k3
  clear hm5 hb5 HM4 HO4 HR0 qr
  have hS : (Instr.storeAt 76 (.pointer (some ⟨W5.heap.size, 0, none⟩)) (.agg #[.int .i64 1, .int .i64 341, .int .i64 0, .int .i64 0, .int .i64 0, .int .u8 0, .bool false, .int .i64 0, .int .i64 0, .int .i64 0, .slice none 0 0, .slice none 0 0, .slice none 0 0, .slice none 0 0, .slice none 0 0])).run Tryz.prog (W5.alloc (.cells #[.int .i64 0, .int .i64 0, .int .i64 0, .int .i64 0, .int .i64 0, .int .u8 0, .bool false, .int .i64 0, .int .i64 0, .int .i64 0, .slice none 0 0, .slice none 0 0, .slice none 0 0, .slice none 0 0, .slice none 0 0] 76)) = .ok () ((W5.alloc (.cells #[.int .i64 0, .int .i64 0, .int .i64 0, .int .i64 0, .int .i64 0, .int .u8 0, .bool false, .int .i64 0, .int .i64 0, .int .i64 0, .slice none 0 0, .slice none 0 0, .slice none 0 0, .slice none 0 0, .slice none 0 0] 76)).setRow W5.heap.size #[.int .i64 1, .int .i64 341, .int .i64 0, .int .i64 0, .int .i64 0, .int .u8 0, .bool false, .int .i64 0, .int .i64 0, .int .i64 0, .slice none 0 0, .slice none 0 0, .slice none 0 0, .slice none 0 0, .slice none 0 0]) := rsp_row_ (n := 1) (RC.new W5)
  go_upto_region 9 with fail
  have hma : Mod (fun _ => False) W5 (W5.alloc (.cells #[.int .i64 0, .int .i64 0, .int .i64 0, .int .i64 0, .int .i64 0, .int .u8 0, .bool false, .int .i64 0, .int .i64 0, .int .i64 0, .slice none 0 0, .slice none 0 0, .slice none 0 0, .slice none 0 0, .slice none 0 0] 76)) := (Mod.refl _ _).alloc _
  have hmb := mod_trans_up_ hma (mod_row_ _ W5.heap.size #[.int .i64 1, .int .i64 341, .int .i64 0, .int .i64 0, .int .i64 0, .int .u8 0, .bool false, .int .i64 0, .int .i64 0, .int .i64 0, .slice none 0 0, .slice none 0 0, .slice none 0 0, .slice none 0 0, .slice none 0 0]) (fun k hk e => by omega)
  have hr : RC ((W5.alloc (.cells #[.int .i64 0, .int .i64 0, .int .i64 0, .int .i64 0, .int .i64 0, .int .u8 0, .bool false, .int .i64 0, .int .i64 0, .int .i64 0, .slice none 0 0, .slice none 0 0, .slice none 0 0, .slice none 0 0, .slice none 0 0] 76)).setRow W5.heap.size #[.int .i64 1, .int .i64 341, .int .i64 0, .int .i64 0, .int .i64 0, .int .u8 0, .bool false, .int .i64 0, .int .i64 0, .int .i64 0, .slice none 0 0, .slice none 0 0, .slice none 0 0, .slice none 0 0, .slice none 0 0]) W5.heap.size 1 341 := (RC.new W5).setRow (n := 1)
  generalize (W5.alloc (.cells #[.int .i64 0, .int .i64 0, .int .i64 0, .int .i64 0, .int .i64 0, .int .u8 0, .bool false, .int .i64 0, .int .i64 0, .int .i64 0, .slice none 0 0, .slice none 0 0, .slice none 0 0, .slice none 0 0, .slice none 0 0] 76)).setRow W5.heap.size #[.int .i64 1, .int .i64 341, .int .i64 0, .int .i64 0, .int .i64 0, .int .u8 0, .bool false, .int .i64 0, .int .i64 0, .int .i64 0, .slice none 0 0, .slice none 0 0, .slice none 0 0, .slice none 0 0, .slice none 0 0] = W6 at *
  have h5 : W6.cell? ⟨W5.heap.size, 5, none⟩ = some (.int .u8 0) := by simp [World.cell?, show W6.heap[W5.heap.size]? = _ from hr]
  obtain ⟨r0, r1, -, -⟩ := hr.cells
  have HM6 := Lib.hid (HM5.out.trans hmb)
  have HO6 := Lib.hid (HO5.out.mod hmb (by simp))
  replace k0 := hmb.cell (by simp) k0
  replace k1 := hmb.cell (by simp) k1
  replace k2 := hmb.cell (by simp) k2
  replace k3 := hmb.cell (by simp) k3
  clear hS hr hma hmb HM5 HO5
  go_wp2_with fail
  clear h5 r0 r1
  rw [rounds_succ]
  obtain ⟨vr, qr, ho1⟩ := HO6.out 1 (by omega)
  obtain ⟨gr, cr, e⟩ := owns_form_pos_ ho1 (by decide)
  subst e
  have HR1 := Lib.hid ho1
  clear ho1
  go_wp2_with fail
  refine (RespRead_any 2 (by omega) (by omega) _ _ W6 HR1.out).mono ?_; rintro e W7 ⟨rfl, hb7⟩
  have hm7 : Mod (fun _ => False) W6 W7 := Mod.of_same hb7
  have HM7 := Lib.hid (HM6.out.trans hm7)
  have HO7 := Lib.hid (HO6.out.mod hm7 (by simp))
  replace k0 := hm7.cell (by simp) k0
  replace k1 := hm7.cell (by simp) k1
  replace k2 := hm7.cell (by simp) k2
  replace k3 := hm7.cell (by simp) k3
  clear hm7 hb7 HM6 HO6 HR1 qr
  have hS : (Instr.storeAt 76 (.pointer (some ⟨W7.heap.size, 0, none⟩)) (.agg #[.int .i64 2, .int .i64 341, .int .i64 0, .int .i64 0, .int .i64 0, .int .u8 0, .bool false, .int .i64 0, .int .i64 0, .int .i64 0, .slice none 0 0, .slice none 0 0, .slice none 0 0, .slice none 0 0, .slice none 0 0])).run Tryz.prog (W7.alloc (.cells #[.int .i64 0, .int .i64 0, .int .i64 0, .int .i64 0, .int .i64 0, .int .u8 0, .bool false, .int .i64 0, .int .i64 0, .int .i64 0, .slice none 0 0, .slice none 0 0, .slice none 0 0, .slice none 0 0, .slice none 0 0] 76)) = .ok () ((W7.alloc (.cells #[.int .i64 0, .int .i64 0, .int .i64 0, .int .i64 0, .int .i64 0, .int .u8 0, .bool false, .int .i64 0, .int .i64 0, .int .i64 0, .slice none 0 0, .slice none 0 0, .slice none 0 0, .slice none 0 0, .slice none 0 0] 76)).setRow W7.heap.size #[.int .i64 2, .int .i64 341, .int .i64 0, .int .i64 0, .int .i64 0, .int .u8 0, .bool false, .int .i64 0, .int .i64 0, .int .i64 0, .slice none 0 0, .slice none 0 0, .slice none 0 0, .slice none 0 0, .slice none 0 0]) := rsp_row_ (n := 2) (RC.new W7)
  go_upto_region 9 with fail
  have hma : Mod (fun _ => False) W7 (W7.alloc (.cells #[.int .i64 0, .int .i64 0, .int .i64 0, .int .i64 0, .int .i64 0, .int .u8 0, .bool false, .int .i64 0, .int .i64 0, .int .i64 0, .slice none 0 0, .slice none 0 0, .slice none 0 0, .slice none 0 0, .slice none 0 0] 76)) := (Mod.refl _ _).alloc _
  have hmb := mod_trans_up_ hma (mod_row_ _ W7.heap.size #[.int .i64 2, .int .i64 341, .int .i64 0, .int .i64 0, .int .i64 0, .int .u8 0, .bool false, .int .i64 0, .int .i64 0, .int .i64 0, .slice none 0 0, .slice none 0 0, .slice none 0 0, .slice none 0 0, .slice none 0 0]) (fun k hk e => by omega)
  have hr : RC ((W7.alloc (.cells #[.int .i64 0, .int .i64 0, .int .i64 0, .int .i64 0, .int .i64 0, .int .u8 0, .bool false, .int .i64 0, .int .i64 0, .int .i64 0, .slice none 0 0, .slice none 0 0, .slice none 0 0, .slice none 0 0, .slice none 0 0] 76)).setRow W7.heap.size #[.int .i64 2, .int .i64 341, .int .i64 0, .int .i64 0, .int .i64 0, .int .u8 0, .bool false, .int .i64 0, .int .i64 0, .int .i64 0, .slice none 0 0, .slice none 0 0, .slice none 0 0, .slice none 0 0, .slice none 0 0]) W7.heap.size 2 341 := (RC.new W7).setRow (n := 2)
  generalize (W7.alloc (.cells #[.int .i64 0, .int .i64 0, .int .i64 0, .int .i64 0, .int .i64 0, .int .u8 0, .bool false, .int .i64 0, .int .i64 0, .int .i64 0, .slice none 0 0, .slice none 0 0, .slice none 0 0, .slice none 0 0, .slice none 0 0] 76)).setRow W7.heap.size #[.int .i64 2, .int .i64 341, .int .i64 0, .int .i64 0, .int .i64 0, .int .u8 0, .bool false, .int .i64 0, .int .i64 0, .int .i64 0, .slice none 0 0, .slice none 0 0, .slice none 0 0, .slice none 0 0, .slice none 0 0] = W8 at *
  have h5 : W8.cell? ⟨W7.heap.size, 5, none⟩ = some (.int .u8 0) := by simp [World.cell?, show W8.heap[W7.heap.size]? = _ from hr]
  obtain ⟨r0, r1, -, -⟩ := hr.cells
  have HM8 := Lib.hid (HM7.out.trans hmb)
  have HO8 := Lib.hid (HO7.out.mod hmb (by simp))
  replace k0 := hmb.cell (by simp) k0
  replace k1 := hmb.cell (by simp) k1
  replace k2 := hmb.cell (by simp) k2
  replace k3 := hmb.cell (by simp) k3
  clear hS hr hma hmb HM7 HO7
  go_wp2_with fail
  clear h5 r0 r1
  rw [rounds_succ]
  go_upto_region 13 with fail
  have hmv : MovesAt (W8.alloc (.cells #[.bool true, .slice none 0 0, .bool false, .slice (some ⟨N, 0, none⟩) 1 1, .bool true, .slice none 0 0] 80)) (.slice (some ⟨W8.heap.size, 0, none⟩) 3 3) [true, false, true] := .inr ⟨W8.heap.size, 3, rfl, fun i hi => by
    have hz : (W8.alloc (.cells #[.bool true, .slice none 0 0, .bool false, .slice (some ⟨N, 0, none⟩) 1 1, .bool true, .slice none 0 0] 80)).heap[W8.heap.size]? = some (.cells #[.bool true, .slice none 0 0, .bool false, .slice (some ⟨N, 0, none⟩) 1 1, .bool true, .slice none 0 0] 80) := World.alloc_heap_new _ _
    have hmz : Mod (fun _ => False) W8 (W8.alloc (.cells #[.bool true, .slice none 0 0, .bool false, .slice (some ⟨N, 0, none⟩) 1 1, .bool true, .slice none 0 0] 80)) := (Mod.refl _ _).alloc _
    rcases i with _ | _ | _ | i
    · exact ⟨cell_row_ hz (by rfl), .inl ⟨rfl, cell_row_ hz (by rfl)⟩⟩
    · exact ⟨cell_row_ hz (by rfl), .inr ⟨rfl, N, 1, 9, cell_row_ hz (by rfl), hmz.cell (by simp) k2⟩⟩
    · exact ⟨cell_row_ hz (by rfl), .inl ⟨rfl, cell_row_ hz (by rfl)⟩⟩
    · simp at hi; omega⟩
  have hma : Mod (fun _ => False) W8 (W8.alloc (.cells #[.bool true, .slice none 0 0, .bool false, .slice (some ⟨N, 0, none⟩) 1 1, .bool true, .slice none 0 0] 80)) := (Mod.refl _ _).alloc _
  have HM9 := Lib.hid (HM8.out.trans hma)
  have HO9 := Lib.hid (HO8.out.mod hma (by simp))
  have HV9 := Lib.hid hmv
  clear hmv hma HM8 HO8 k0 k1 k2 k3
  generalize W8.alloc (.cells #[.bool true, .slice none 0 0, .bool false, .slice (some ⟨N, 0, none⟩) 1 1, .bool true, .slice none 0 0] 80) = W9 at *
  generalize W8.heap.size = M at *
  go_wp2_with fail
  refine (Run_any _ _ W9 HV9.out (by decide) (by decide)).mono ?_; rintro e W10 ⟨vl, he, hl, hb10⟩
  obtain ⟨f, hf⟩ : ∃ f, f = framesN [true, false, true] := ⟨_, rfl⟩
  have he' : e = .returned (.tuple #[vl, .agg #[.bool false, .bool false, .int .i64 (f : Int), .int .i64 1, .int .i64 0, .int .i64 0, .int .i64 0, .int .i64 0, .int .i64 0, .int .i64 0, .int .i64 0, .int .u64 0, .int .i64 0, .int .i64 0, .int .i64 0, .int .i64 0, .int .i64 0, .int .i64 0, .slice none 0 0, .int .i64 0, .slice none 0 0, .slice none 0 0, .slice none 0 0, .slice none 0 0], .int .i64 0, .int .i64 2, .int .i64 0]) := by rw [he, hf]; rfl
  clear hf he
  subst he'
  obtain ⟨gl, cl, rfl, hcl, -, hgl, hla⟩ := OutRow.at_ (m := 1) hl (by decide)
  have hm10 : Mod (fun _ => False) W9 W10 := Mod.of_same hb10
  have HM10 := Lib.hid (HM9.out.trans hm10)
  have HO10 := Lib.hid (HO9.out.mod hm10 (by simp))
  have HV10 := Lib.hid (HV9.out.below hb10)
  have HL10 := Lib.hid hla
  clear hm10 hb10 hl hla HM9 HO9 HV9
  go_upto_region 14 with fail
  have hba : Below W10.heap.size W10 (W10.alloc (.cells #[.bool false, .bool false, .int .i64 (f : Int), .int .i64 1, .int .i64 0, .int .i64 0, .int .i64 0, .int .i64 0, .int .i64 0, .int .i64 0, .int .i64 0, .int .u64 0, .int .i64 0, .int .i64 0, .int .i64 0, .int .i64 0, .int .i64 0, .int .i64 0, .slice none 0 0, .int .i64 0, .slice none 0 0, .slice none 0 0, .slice none 0 0, .slice none 0 0] 89)) := (Below.refl _ _).alloc (Nat.le_refl _) _
  have hma : Mod (fun _ => False) W10 (W10.alloc (.cells #[.bool false, .bool false, .int .i64 (f : Int), .int .i64 1, .int .i64 0, .int .i64 0, .int .i64 0, .int .i64 0, .int .i64 0, .int .i64 0, .int .i64 0, .int .u64 0, .int .i64 0, .int .i64 0, .int .i64 0, .int .i64 0, .int .i64 0, .int .i64 0, .slice none 0 0, .int .i64 0, .slice none 0 0, .slice none 0 0, .slice none 0 0, .slice none 0 0] 89)) := Mod.of_same hba
  have HM11 := Lib.hid (HM10.out.trans hma)
  have HO11 := Lib.hid (HO10.out.mod hma (by simp))
  have HL11 := Lib.hid (HL10.out.mod hma (by simp))
  have HV11 := Lib.hid (HV10.out.below hba)
  clear hba hma HM10 HO10 HL10 HV10
  generalize (W10.alloc (.cells #[.bool false, .bool false, .int .i64 (f : Int), .int .i64 1, .int .i64 0, .int .i64 0, .int .i64 0, .int .i64 0, .int .i64 0, .int .i64 0, .int .i64 0, .int .u64 0, .int .i64 0, .int .i64 0, .int .i64 0, .int .i64 0, .int .i64 0, .int .i64 0, .slice none 0 0, .int .i64 0, .slice none 0 0, .slice none 0 0, .slice none 0 0, .slice none 0 0] 89)) = W11 at *
  go_wp2_with fail
  refine (Need_any _ _ W11 HV11.out (by decide) (by decide)).mono ?_; rintro e W12 ⟨rfl, hb12⟩
  have hm12 : Mod (fun _ => False) W11 W12 := Mod.of_same hb12
  have HM12 := Lib.hid (HM11.out.trans hm12)
  have HO12 := Lib.hid (HO11.out.mod hm12 (by simp))
  have HL12 := Lib.hid (HL11.out.mod hm12 (by simp))
  clear hb12 hm12 HM11 HO11 HL11 HV11
  go_upto_region 15 with fail
  obtain ⟨vo0, qo, so⟩ := HO12.out 0 (by omega)
  obtain ⟨vl0, ql, sl⟩ := HL12.out 0 (by omega)
  have HS1 := Lib.hid (StrAt.frame sl)
  have HS2 := Lib.hid (StrAt.frame so)
  have hclI : (1 : Int) ≤ cl := by omega
  clear so sl
  go_region_held3 (fun W => W.cell? ⟨gl, 0, none⟩ = some vl0 ∧ W.cell? ⟨go, 0, none⟩ = some vo0)
    (first | (with_reducible exact HK2.out) | exact ⟨ql, qo⟩ | go_keep)
    ((first
      | (go_at_call 33; refine (EqualB_refl vl0 vo0 (frameS 1) _ (by exact HS1.out) (by exact HS2.out)).mono ?_; rintro e y1 ⟨rfl, e1⟩; subst e1)
      | (go_at_call 13; refine (BeginsNil_at go 2 co W1.heap.size _ (by exact HO12.out) (by omega) hco hcm).mono ?_; rintro e y2 ⟨rfl, hb2⟩; have HY2 : Hid (Mod (fun _ => False) W12 y2) := ⟨hb2.os, hb2.tape, hb2.output, hb2.size, fun k hk _ => hb2.block k hk⟩; have HK2 := Lib.hid (show y2.cell? ⟨gl, 0, none⟩ = some vl0 ∧ y2.cell? ⟨go, 0, none⟩ = some vo0 from ⟨HY2.out.cell (by simp) ql, HY2.out.cell (by simp) qo⟩); clear hb2)))
  go_wp2_with fail
  go_ret
  exact ⟨rfl, (HM12.out.trans HY2.out).below (Nat.le_refl _) (by simp)⟩
end Resp
end Go.Proofs.YtdfmgneicdpjmaaGreat
