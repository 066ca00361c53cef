import Derived.Test.YtdfmgneicdpjmaaGreatM24
import Derived.Deep.RegionHeld3
import Derived.Deep.Cut
import Derived.Laws.ResultCell
/- check.result. -/
namespace Go.Proofs.YtdfmgneicdpjmaaGreat
open Go.RowKit Go.Shelf
attribute [local go_sem] Oper.semAt_some
set_option linter.unusedVariables false
set_option linter.unusedSimpArgs false
set_option maxRecDepth 100000
namespace Eng
open Resp

theorem rg_at {W : World} {RB : Nat} {k : Nat → Kn} (h : W.heap[RB]? = some (.cells (rgL k).toArray 539)) {b : Nat} (hb : b < 8) : W.cell? ⟨RB, b * 2, none⟩ = some (.bool (k b).1) ∧ W.cell? ⟨RB, b * 2 + 1, none⟩ = some (.int .i64 (k b).2) := by
  have ha : b = 0 ∨ b = 1 ∨ b = 2 ∨ b = 3 ∨ b = 4 ∨ b = 5 ∨ b = 6 ∨ b = 7 := by omega
  rcases ha with rfl | rfl | rfl | rfl | rfl | rfl | rfl | rfl <;> simp [World.cell?, h, rgL]
/-- A known one in a block. -/
def KnAt (W : World) (B : Nat) (k : Kn) : Prop := W.heap[B]? = some (.cells #[.bool k.1, .int .i64 k.2] 538)
theorem KnAt.cells {W : World} {B : Nat} {k : Kn} (h : KnAt W B k) : W.cell? ⟨B, 0, none⟩ = some (.bool k.1) ∧ W.cell? ⟨B, 1, none⟩ = some (.int .i64 k.2) ∧ W.frozen? ⟨B, 0, none⟩ = false ∧ W.frozen? ⟨B, 1, none⟩ = false := by
  have h' : W.heap[B]? = _ := h
  refine ⟨?_, ?_, ?_, ?_⟩ <;> first | simp [World.cell?, h'] | simp [World.frozen?, h']
theorem two_kn (W : World) (x y : Kn) : KnAt ((W.alloc (.cells #[.bool x.1, .int .i64 x.2] 538)).alloc (.cells #[.bool y.1, .int .i64 y.2] 538)).drew W.heap.size x ∧ KnAt ((W.alloc (.cells #[.bool x.1, .int .i64 x.2] 538)).alloc (.cells #[.bool y.1, .int .i64 y.2] 538)).drew (W.heap.size + 1) y ∧ Below W.heap.size W ((W.alloc (.cells #[.bool x.1, .int .i64 x.2] 538)).alloc (.cells #[.bool y.1, .int .i64 y.2] 538)).drew := by
  refine ⟨((Mod.refl (fun _ => False) _).alloc _).heap (World.alloc_heap_new W _) (fun h => h), ?_, below_drew_ ((((Mod.refl (fun _ => False) W).alloc _).alloc _).below (Nat.le_refl _) (fun _ _ h => h))⟩
  have := World.alloc_heap_new (W.alloc (.cells #[.bool x.1, .int .i64 x.2] 538)) (.cells #[.bool y.1, .int .i64 y.2] 538)
  have hz : (W.alloc (.cells #[.bool x.1, .int .i64 x.2] 538)).heap.size = W.heap.size + 1 := by show (W.heap.push _).size = _; rw [Array.size_push]
  rw [hz] at this
  exact this
def RsP (i : Ins) (k : Nat → Kn) (W : World) (e : Ending) (w' : World) : Prop := e = .returned (.tuple #[knV (resV i k).1, .bool (resV i k).2]) ∧ Below W.heap.size W w'
theorem RsP.mk {i : Ins} {k : Nat → Kn} {W w' : World} {x : Kn} {b : Bool} (h : resV i k = (x, b)) (hb : Below W.heap.size W w') : RsP i k W (.returned (.tuple #[.agg #[.bool x.1, .int .i64 x.2], .bool b])) w' := by
  unfold RsP; rw [h]; exact ⟨rfl, hb⟩
theorem infoKn : (Tryz.prog.info? 538).map (·.size) = some 2 := by kernel_rfl
theorem results_kn {fn : Func} {p u : Tmp} (h : fn.results = #[.cell p 538, .tmp u]) (tmps : Array Value) (w : World) (g : Nat) (k : Kn)
    (hp : tmps.getD p undef = .pointer (some ⟨g, 0, none⟩)) (hg : KnAt w g k) : (results fn tmps).run Tryz.prog w = .ok (.tuple #[.agg #[.bool k.1, .int .i64 k.2], tmps.getD u undef]) w := by
  have hg' : w.heap[g]? = _ := hg
  rw [results_cell_tmp h, hp]
  simp [asAddr, Result.andThen, run_loadVar_row w g _ 538 _ _ _ hg' Tryz.underlying538 rfl infoKn]
theorem rs_end {fn : Func} {p u : Tmp} (h : fn.results = #[.cell p 538, .tmp u]) {a : Act} {w W : World} {g : Nat} {k0 x : Kn} {b : Bool} {i : Ins} {k : Nat → Kn}
    (hd : a.defers = []) (hp : a.tmps.getD p undef = .pointer (some ⟨g, 0, none⟩) ∧ a.tmps.getD u undef = .bool b) (hg : KnAt w g k0) (hx : resV i k = (x, b)) (hB : Below W.heap.size W w) (hgW : W.heap.size ≤ g) :
    bodyPost Tryz.prog fn (RsP i k W) .ret a ((w.setCell ⟨g, 0, none⟩ (.bool x.1)).setCell ⟨g, 1, none⟩ (.int .i64 x.2)) := by
  have hh : KnAt ((w.setCell ⟨g, 0, none⟩ (.bool x.1)).setCell ⟨g, 1, none⟩ (.int .i64 x.2)) g x := by
    have hg' : w.heap[g]? = _ := hg
    have := heap_set_ (heap_set_ hg' 0 (.bool x.1)) 1 (.int .i64 x.2)
    unfold KnAt
    simpa using this
  refine bodyPost_ret (results_kn h a.tmps _ g x hp.1 hh) hd ?_
  rw [hp.2]
  exact RsP.mk hx ((hB.setCell (p := ⟨g, 0, none⟩) hgW _).setCell (p := ⟨g, 1, none⟩) hgW _)
set_option maxHeartbeats 8000000 in
theorem result_any (i : Ins) (k : Nat → Kn) (ho : InsOk i) (hb : i.b < 8) (hc : i.c < 8) (W : World) :
    Calls Tryz.prog 432 #[insV i, rgV k] W (RsP i k W) := by
  obtain ⟨b, hbn⟩ : ∃ b : Nat, i.b = (b : Int) := ⟨i.b.toNat, by have := ho.b0; omega⟩
  obtain ⟨c, hcn⟩ : ∃ c : Nat, i.c = (c : Int) := ⟨i.c.toNat, by have := ho.c0; omega⟩
  have hxb := fun w => idx_rg k b (by omega) w
  have hxc := fun w => idx_rg k c (by omega) w
  have hop0 := ho.op0
  have hop1 := ho.op1
  have hbt : i.b.toNat = b := by omega
  have hct : i.c.toNat = c := by omega
  have HV : Hid (resV i k = if i.op = 3 then ((true, i.n), true) else if i.op = 4 then (k b, true) else if i.op ≤ 32 then (kn0, true)
    else if dvB i = true ∧ k c = (true, 0) then (kn0, false) else if (k b).1 = false ∨ (k c).1 = false then (kn0, true)
    else ((decide (apE (i.op - 32) (k c).2 = 0), apR (i.op - 32) (k b).2 (k c).2), decide (apE (i.op - 32) (k c).2 = 0))) := by
    unfold Hid resV
    rw [hbt, hct]
  have HDV := Lib.hid (divides_any i)
  have HQ := Lib.hid (eq_kn (k c))
  obtain ⟨kb, hkb⟩ : ∃ kb, k b = kb := ⟨_, rfl⟩
  obtain ⟨kc, hkc⟩ : ∃ kc, k c = kc := ⟨_, rfl⟩
  rw [hkb, hkc] at HV
  rw [hkc] at HQ
  obtain ⟨b1, b2⟩ := kb
  obtain ⟨c1, c2⟩ := kc
  clear hbt hct ho
  clear hxb hxc
  unfold rgV
  unfold insV at HDV ⊢
  rw [hbn, hcn] at HDV ⊢
  have HB := Lib.hid ((Below.refl _ W).alloc (Nat.le_refl W.heap.size) (.cells #[.int .u8 i.op, .int .u8 i.a, .int .u8 (b : Int), .int .u8 (c : Int), .int .i64 i.n] 169))
  unfold rgL
  go_enter Tryz.func432, Tryz.ntmps432
  go_wp2_with fail
  have hz1 : (W.alloc (.cells #[.int .u8 i.op, .int .u8 i.a, .int .u8 (b : Int), .int .u8 (c : Int), .int .i64 i.n] 169)).heap.size = W.heap.size + 1 := by show (W.heap.push _).size = _; rw [Array.size_push]
  have hz2 : ((W.alloc (.cells #[.int .u8 i.op, .int .u8 i.a, .int .u8 (b : Int), .int .u8 (c : Int), .int .i64 i.n] 169)).alloc (.cells (rgL k).toArray 539)).heap.size = W.heap.size + 2 := by show ((W.alloc (.cells #[.int .u8 i.op, .int .u8 i.a, .int .u8 (b : Int), .int .u8 (c : Int), .int .i64 i.n] 169)).heap.push _).size = _; rw [Array.size_push, hz1]
  have HI3 : Hid ((((W.alloc (.cells #[.int .u8 i.op, .int .u8 i.a, .int .u8 (b : Int), .int .u8 (c : Int), .int .i64 i.n] 169)).alloc (.cells (rgL k).toArray 539)).alloc (.cells #[.bool false, .int .i64 0] 538)).heap[W.heap.size]? = some (.cells #[.int .u8 i.op, .int .u8 i.a, .int .u8 (b : Int), .int .u8 (c : Int), .int .i64 i.n] 169)) := (((Mod.refl (fun _ => False) _).alloc _).alloc _).heap (World.alloc_heap_new W _) (fun h => h)
  have HR3 : Hid ((((W.alloc (.cells #[.int .u8 i.op, .int .u8 i.a, .int .u8 (b : Int), .int .u8 (c : Int), .int .i64 i.n] 169)).alloc (.cells (rgL k).toArray 539)).alloc (.cells #[.bool false, .int .i64 0] 538)).heap[W.heap.size + 1]? = some (.cells (rgL k).toArray 539)) := by
    have := World.alloc_heap_new (W.alloc (.cells #[.int .u8 i.op, .int .u8 i.a, .int .u8 (b : Int), .int .u8 (c : Int), .int .i64 i.n] 169)) (.cells (rgL k).toArray 539)
    rw [hz1] at this
    exact ((Mod.refl (fun _ => False) _).alloc _).heap this (fun h => h)
  have HO3 : Hid (KnAt (((W.alloc (.cells #[.int .u8 i.op, .int .u8 i.a, .int .u8 (b : Int), .int .u8 (c : Int), .int .i64 i.n] 169)).alloc (.cells (rgL k).toArray 539)).alloc (.cells #[.bool false, .int .i64 0] 538)) (W.heap.size + 2) (false, 0)) := by
    have := World.alloc_heap_new ((W.alloc (.cells #[.int .u8 i.op, .int .u8 i.a, .int .u8 (b : Int), .int .u8 (c : Int), .int .i64 i.n] 169)).alloc (.cells (rgL k).toArray 539)) (.cells #[.bool false, .int .i64 0] 538)
    rw [hz2] at this
    exact this
  have HB3 : Hid (Below W.heap.size W (((W.alloc (.cells #[.int .u8 i.op, .int .u8 i.a, .int .u8 (b : Int), .int .u8 (c : Int), .int .i64 i.n] 169)).alloc (.cells (rgL k).toArray 539)).alloc (.cells #[.bool false, .int .i64 0] 538))) := ((((Mod.refl (fun _ => False) W).alloc _).alloc _).alloc _).below (Nat.le_refl _) (fun _ _ h => h)
  have HS3 : Hid ((((W.alloc (.cells #[.int .u8 i.op, .int .u8 i.a, .int .u8 (b : Int), .int .u8 (c : Int), .int .i64 i.n] 169)).alloc (.cells (rgL k).toArray 539)).alloc (.cells #[.bool false, .int .i64 0] 538)).heap.size = W.heap.size + 3) := by
    show (_ : Array _).size = _
    show (((W.alloc (.cells #[.int .u8 i.op, .int .u8 i.a, .int .u8 (b : Int), .int .u8 (c : Int), .int .i64 i.n] 169)).alloc (.cells (rgL k).toArray 539)).heap.push _).size = _
    rw [Array.size_push, hz2]
  clear hz1 hz2 HB
  unfold rgL at HI3 HR3 HO3 HB3 HS3
  generalize hW3 : ((W.alloc (.cells #[.int .u8 i.op, .int .u8 i.a, .int .u8 (b : Int), .int .u8 (c : Int), .int .i64 i.n] 169)).alloc (.cells [.bool (k 0).1, .int .i64 (k 0).2, .bool (k 1).1, .int .i64 (k 1).2, .bool (k 2).1, .int .i64 (k 2).2, .bool (k 3).1, .int .i64 (k 3).2, .bool (k 4).1, .int .i64 (k 4).2, .bool (k 5).1, .int .i64 (k 5).2, .bool (k 6).1, .int .i64 (k 6).2, .bool (k 7).1, .int .i64 (k 7).2].toArray 539)).alloc (.cells #[.bool false, .int .i64 0] 538) = W3 at *
  clear hW3
  have HR4 : Hid (W3.heap[W.heap.size + 1]? = some (.cells (rgL k).toArray 539)) := HR3.out
  clear HR3
  obtain ⟨ib0, ib1⟩ := rg_at HR4.out (b := b) (by omega)
  obtain ⟨ic0, ic1⟩ := rg_at HR4.out (b := c) (by omega)
  rw [hkb] at ib0 ib1
  rw [hkc] at ic0 ic1
  have i2 : W3.cell? ⟨W.heap.size, 2, none⟩ = some (.int .u8 (b : Int)) := by simp [World.cell?, HI3.out]
  have i3 : W3.cell? ⟨W.heap.size, 3, none⟩ = some (.int .u8 (c : Int)) := by simp [World.cell?, HI3.out]
  have hb8 : (b : Int) < 8 := by omega
  have hc8 : (c : Int) < 8 := by omega
  clear hkb hkc
  go_cut [6, 7] from 18 (fun s6 s7 wx => ∃ P Q, s6 = .pointer (some ⟨P, 0, none⟩) ∧ s7 = .pointer (some ⟨Q, 0, none⟩) ∧ Hid (KnAt wx P (b1, b2)) ∧ Hid (KnAt wx Q (c1, c2)) ∧ Hid (Below W3.heap.size W3 wx))
  case first =>
    rename_i J K' hJ hK
    go_region_held3 (fun w' => w'.cell? ⟨W.heap.size, 2, none⟩ = some (.int .u8 (b : Int)) ∧ w'.cell? ⟨W.heap.size, 3, none⟩ = some (.int .u8 (c : Int)) ∧ w'.cell? ⟨W.heap.size + 1, b * 2, none⟩ = some (.bool b1) ∧ w'.cell? ⟨W.heap.size + 1, b * 2 + 1, none⟩ = some (.int .i64 b2) ∧ w'.cell? ⟨W.heap.size + 1, c * 2, none⟩ = some (.bool c1) ∧ w'.cell? ⟨W.heap.size + 1, c * 2 + 1, none⟩ = some (.int .i64 c2))
      (first | exact ⟨i2, i3, ib0, ib1, ic0, ic1⟩ | go_keep)
      (fail)
    all_goals (change K' _ _; refine hK _ _ (Met.intro (hJ _ _ ?_)); (repeat apply Exists.intro); refine ⟨?_, rfl⟩)
    all_goals (first
      | exact ⟨_, _, rfl, rfl, (two_kn W3 (b1, b2) (c1, c2)).1, (two_kn W3 (b1, b2) (c1, c2)).2.1, (two_kn W3 (b1, b2) (c1, c2)).2.2⟩
      | exact ⟨_, _, rfl, rfl, (two_kn W3 (c1, c2) (b1, b2)).2.1, (two_kn W3 (c1, c2) (b1, b2)).1, (two_kn W3 (c1, c2) (b1, b2)).2.2⟩)
  case rest =>
    obtain ⟨P, Q, rfl, rfl, HP, HQ2, HW⟩ := hcut
    have HI := Lib.hid ((Mod.of_same (S := fun _ => False) HW.out).heap HI3.out (fun h => h))
    have HOo : Hid (KnAt wc (W.heap.size + 2) (false, 0)) := (Mod.of_same (S := fun _ => False) HW.out).heap HO3.out (fun h => h)
    have HBc := Lib.hid (HB3.out.trans (HW.out.mono HB3.out.size))
    have i0 : wc.cell? ⟨W.heap.size, 0, none⟩ = some (.int .u8 i.op) := by simp [World.cell?, HI.out]
    have i4 : wc.cell? ⟨W.heap.size, 4, none⟩ = some (.int .i64 i.n) := by simp [World.cell?, HI.out]
    obtain ⟨p0, p1, -, -⟩ := HP.out.cells
    obtain ⟨q0, q1, -, -⟩ := HQ2.out.cells
    obtain ⟨o0, o1, of0, of1⟩ := HOo.out.cells
    clear HI3 HO3 HB3 HS3 HR4 HW ib0 ib1 ic0 ic1 i2 i3 hb8 hc8
    generalize (.agg #[.bool (k 0).1, .int .i64 (k 0).2, .bool (k 1).1, .int .i64 (k 1).2, .bool (k 2).1, .int .i64 (k 2).2, .bool (k 3).1, .int .i64 (k 3).2, .bool (k 4).1, .int .i64 (k 4).2, .bool (k 5).1, .int .i64 (k 5).2, .bool (k 6).1, .int .i64 (k 6).2, .bool (k 7).1, .int .i64 (k 7).2] : Value) = rv
    by_cases e3 : i.op = 3
    · have HX : Hid (resV i k = ((true, i.n), true)) := by rw [Hid, HV.out, if_pos e3]
      rw [e3] at i0
      clear HV e3
      go_wp2_with fail
      exact rs_end rfl rfl ⟨rfl, rfl⟩ HOo.out HX.out HBc.out (by omega)
    have e3' : (i.op == 3) = false := by simpa using e3
    by_cases e4 : i.op = 4
    · have HX : Hid (resV i k = ((b1, b2), true)) := by rw [Hid, HV.out, if_neg e3, if_pos e4]
      rw [e4] at i0
      clear HV e3 e3' e4
      go_wp2_with fail
      exact rs_end rfl rfl ⟨rfl, rfl⟩ HOo.out HX.out HBc.out (by omega)
    have e4' : (i.op == 4) = false := by simpa using e4
    by_cases e32 : i.op ≤ 32
    · have HX : Hid (resV i k = (kn0, true)) := by rw [Hid, HV.out, if_neg e3, if_neg e4, if_pos e32]
      clear HV e3 e4
      go_wp2_with fail
      exact rs_end (x := kn0) rfl rfl ⟨rfl, rfl⟩ HOo.out HX.out HBc.out (by omega)
    have HX : Hid (resV i k = if dvB i = true ∧ (c1, c2) = (true, 0) then (kn0, false) else if b1 = false ∨ c1 = false then (kn0, true)
      else ((decide (apE (i.op - 32) c2 = 0), apR (i.op - 32) b2 c2), decide (apE (i.op - 32) c2 = 0))) := by rw [Hid, HV.out, if_neg e3, if_neg e4, if_neg e32]
    clear HV e3 e4
    have ii1 : wc.cell? ⟨W.heap.size, 1, none⟩ = some (.int .u8 i.a) := by simp [World.cell?, HI.out]
    have ii2 : wc.cell? ⟨W.heap.size, 2, none⟩ = some (.int .u8 (b : Int)) := by simp [World.cell?, HI.out]
    have ii3 : wc.cell? ⟨W.heap.size, 3, none⟩ = some (.int .u8 (c : Int)) := by simp [World.cell?, HI.out]
    go_wp2_with fail
    refine (HDV.out wc).mono ?_; rintro e wd ⟨rfl, hbd⟩
    have HId := Lib.hid ((Mod.of_same (S := fun _ => False) hbd).heap HI.out (fun h => h))
    have HOd : Hid (KnAt wd (W.heap.size + 2) (false, 0)) := (Mod.of_same (S := fun _ => False) hbd).heap HOo.out (fun h => h)
    have HPd : Hid (KnAt wd P (b1, b2)) := (Mod.of_same (S := fun _ => False) hbd).heap HP.out (fun h => h)
    have HQd : Hid (KnAt wd Q (c1, c2)) := (Mod.of_same (S := fun _ => False) hbd).heap HQ2.out (fun h => h)
    have HBd := Lib.hid (HBc.out.trans (hbd.mono HBc.out.size))
    have i0d : wd.cell? ⟨W.heap.size, 0, none⟩ = some (.int .u8 i.op) := by simp [World.cell?, HId.out]
    obtain ⟨p0d, p1d, -, -⟩ := HPd.out.cells
    obtain ⟨q0d, q1d, -, -⟩ := HQd.out.cells
    obtain ⟨o0d, o1d, of0d, of1d⟩ := HOd.out.cells
    have hop32 : 32 < i.op := by omega
    clear hbd HI HOo HP HQ2 HBc i0 i4 p0 p1 q0 q1 o0 o1 of0 of1 ii1 ii2 ii3 e3' e4' e32 HDV
    by_cases hdv : dvB i = true ∧ (c1, c2) = (true, 0)
    · have HX2 : Hid (resV i k = (kn0, false)) := by rw [Hid, HX.out, if_pos hdv]
      have hq : decide ((c1, c2) = ((true, 0) : Kn)) = true := decide_eq_true hdv.2
      have hqe : ∀ w, (binOp .eql 538 (.agg #[.bool c1, .int .i64 c2]) (.agg #[.bool true, .int .i64 0])).run Tryz.prog w = .ok (.bool true) w := fun w => by have := HQ.out w; rw [hq] at this; exact this
      rw [hdv.1]
      clear hdv hq HQ HX
      go_wp2_with fail
      exact rs_end (x := kn0) rfl rfl ⟨rfl, rfl⟩ HOd.out HX2.out HBd.out (by omega)
    · have hw : IntKind.u8.wrap (i.op - 32) = i.op - 32 := by rw [IntKind.wrap_u8]; omega
      have HAP := Lib.hid (Apply_any (i.op - 32) b2 c2 (by omega) (by omega))
      by_cases hd : dvB i = true
      · have hne : ¬ (c1, c2) = ((true, 0) : Kn) := fun e => hdv ⟨hd, e⟩
        have hq : decide ((c1, c2) = ((true, 0) : Kn)) = false := decide_eq_false hne
        have hqe : ∀ w, (binOp .eql 538 (.agg #[.bool c1, .int .i64 c2]) (.agg #[.bool true, .int .i64 0])).run Tryz.prog w = .ok (.bool false) w := fun w => by have := HQ.out w; rw [hq] at this; exact this
        rw [hd]
        clear hne hq hd
        have HX2 : Hid (resV i k = if b1 = false ∨ c1 = false then (kn0, true) else ((decide (apE (i.op - 32) c2 = 0), apR (i.op - 32) b2 c2), decide (apE (i.op - 32) c2 = 0))) := by rw [Hid, HX.out, if_neg hdv]
        clear hdv HX HQ
        cases b1 with
        | false =>
          have HX3 : Hid (resV i k = (kn0, true)) := by rw [Hid, HX2.out, if_pos (.inl rfl)]
          clear HX2
          go_wp2_with fail
          exact rs_end (x := kn0) rfl rfl ⟨rfl, rfl⟩ HOd.out HX3.out HBd.out (by omega)
        | true =>
          cases c1 with
          | false =>
            have HX3 : Hid (resV i k = (kn0, true)) := by rw [Hid, HX2.out, if_pos (.inr rfl)]
            clear HX2
            go_wp2_with fail
            exact rs_end (x := kn0) rfl rfl ⟨rfl, rfl⟩ HOd.out HX3.out HBd.out (by omega)
          | true =>
            have HX3 : Hid (resV i k = ((decide (apE (i.op - 32) c2 = 0), apR (i.op - 32) b2 c2), decide (apE (i.op - 32) c2 = 0))) := by rw [Hid, HX2.out, if_neg (by simp)]
            clear HX2
            go_wp2_with fail
            refine (HAP.out wd).mono ?_; rintro e we ⟨rfl, hbe⟩
            have HOe : Hid (KnAt we (W.heap.size + 2) (false, 0)) := (Mod.of_same (S := fun _ => False) hbe).heap HOd.out (fun h => h)
            have HBe := Lib.hid (HBd.out.trans (hbe.mono HBd.out.size))
            obtain ⟨o0e, o1e, of0e, of1e⟩ := HOe.out.cells
            clear hbe HOd HBd o0d o1d of0d of1d HPd HQd HId i0d p0d p1d q0d q1d
            go_wp2_with fail
            exact rs_end rfl rfl ⟨rfl, rfl⟩ HOe.out HX3.out HBe.out (by omega)
      · have hd' : dvB i = false := by simpa using hd
        rw [hd']
        clear hd hd'
        have HX2 : Hid (resV i k = if b1 = false ∨ c1 = false then (kn0, true) else ((decide (apE (i.op - 32) c2 = 0), apR (i.op - 32) b2 c2), decide (apE (i.op - 32) c2 = 0))) := by rw [Hid, HX.out, if_neg hdv]
        clear hdv HX HQ
        cases b1 with
        | false =>
          have HX3 : Hid (resV i k = (kn0, true)) := by rw [Hid, HX2.out, if_pos (.inl rfl)]
          clear HX2
          go_wp2_with fail
          exact rs_end (x := kn0) rfl rfl ⟨rfl, rfl⟩ HOd.out HX3.out HBd.out (by omega)
        | true =>
          cases c1 with
          | false =>
            have HX3 : Hid (resV i k = (kn0, true)) := by rw [Hid, HX2.out, if_pos (.inr rfl)]
            clear HX2
            go_wp2_with fail
            exact rs_end (x := kn0) rfl rfl ⟨rfl, rfl⟩ HOd.out HX3.out HBd.out (by omega)
          | true =>
            have HX3 : Hid (resV i k = ((decide (apE (i.op - 32) c2 = 0), apR (i.op - 32) b2 c2), decide (apE (i.op - 32) c2 = 0))) := by rw [Hid, HX2.out, if_neg (by simp)]
            clear HX2
            go_wp2_with fail
            refine (HAP.out wd).mono ?_; rintro e we ⟨rfl, hbe⟩
            have HOe : Hid (KnAt we (W.heap.size + 2) (false, 0)) := (Mod.of_same (S := fun _ => False) hbe).heap HOd.out (fun h => h)
            have HBe := Lib.hid (HBd.out.trans (hbe.mono HBd.out.size))
            obtain ⟨o0e, o1e, of0e, of1e⟩ := HOe.out.cells
            clear hbe HOd HBd o0d o1d of0d of1d HPd HQd HId i0d p0d p1d q0d q1d
            go_wp2_with fail
            exact rs_end rfl rfl ⟨rfl, rfl⟩ HOe.out HX3.out HBe.out (by omega)
end Eng
end Go.Proofs.YtdfmgneicdpjmaaGreat
