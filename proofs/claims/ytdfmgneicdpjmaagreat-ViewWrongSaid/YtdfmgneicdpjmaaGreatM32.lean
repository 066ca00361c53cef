import Derived.Test.YtdfmgneicdpjmaaGreatM31
import Derived.Test.YtdfmgneicdpjmaaGreatM27
import Derived.Test.YtdfmgneicdpjmaaGreatM28
/- check.why: why an instruction is doomed. -/
namespace Go.Proofs.YtdfmgneicdpjmaaGreat
open Go.RowKit Go.Shelf
attribute [local go_sem] Oper.semAt_some
set_option linter.unusedVariables false
set_option linter.unusedSimpArgs false
set_option maxRecDepth 100000
namespace Eng
open Resp

/-- Why an instruction is doomed, by its registers. -/
def whyK (l : Lm) (i : Ins) (ka kb kc : Kn) : Int :=
  if i.op = 2 then 176
  else if i.op = 5 ∨ i.op = 6 then (if l.cells = 0 ∨ (kb.1 = true ∧ (kb.2 < 0 ∨ l.cells ≤ kb.2)) then 172 else 0)
  else if i.op = 8 ∧ l.ports ≤ i.n then 173
  else if i.op = 8 ∧ ka.1 = true ∧ ka.2 < l.ahead then 174
  else if i.op = 7 ∧ kb.1 = true ∧ kb.2 < 1 then 175
  else if dvB i = true ∧ kc = (true, 0) then 131 else 0
def whyE (l : Lm) (i : Ins) (f : Fc) : Int := if f.is = false then 0 else whyK l i (f.k i.a.toNat) (f.k i.b.toNat) (f.k i.c.toNat)
theorem three_kn (W : World) (x y z : Kn) : KnAt ((((W.alloc (.cells #[.bool x.1, .int .i64 x.2] 538)).alloc (.cells #[.bool y.1, .int .i64 y.2] 538)).alloc (.cells #[.bool z.1, .int .i64 z.2] 538)).drew) W.heap.size x ∧ KnAt ((((W.alloc (.cells #[.bool x.1, .int .i64 x.2] 538)).alloc (.cells #[.bool y.1, .int .i64 y.2] 538)).alloc (.cells #[.bool z.1, .int .i64 z.2] 538)).drew) (W.heap.size + 1) y ∧ KnAt ((((W.alloc (.cells #[.bool x.1, .int .i64 x.2] 538)).alloc (.cells #[.bool y.1, .int .i64 y.2] 538)).alloc (.cells #[.bool z.1, .int .i64 z.2] 538)).drew) (W.heap.size + 2) z ∧ Below W.heap.size W ((((W.alloc (.cells #[.bool x.1, .int .i64 x.2] 538)).alloc (.cells #[.bool y.1, .int .i64 y.2] 538)).alloc (.cells #[.bool z.1, .int .i64 z.2] 538)).drew) := by
  have z1 : (W.alloc (.cells #[.bool x.1, .int .i64 x.2] 538)).heap.size = W.heap.size + 1 := by show (W.heap.push _).size = _; rw [Array.size_push]
  have z2 : ((W.alloc (.cells #[.bool x.1, .int .i64 x.2] 538)).alloc (.cells #[.bool y.1, .int .i64 y.2] 538)).heap.size = W.heap.size + 2 := by show (((W.alloc (.cells #[.bool x.1, .int .i64 x.2] 538)).heap.push _)).size = _; rw [Array.size_push, z1]
  refine ⟨(((Mod.refl (fun _ => False) _).alloc _).alloc _).heap (World.alloc_heap_new W _) (fun h => h), ?_, ?_, below_drew_ (((((Mod.refl (fun _ => False) W).alloc _).alloc _).alloc _).below (Nat.le_refl _) (fun _ _ h => h))⟩
  · have := World.alloc_heap_new (W.alloc (.cells #[.bool x.1, .int .i64 x.2] 538)) (.cells #[.bool y.1, .int .i64 y.2] 538)
    rw [z1] at this
    exact ((Mod.refl (fun _ => False) _).alloc _).heap this (fun h => h)
  · have := World.alloc_heap_new ((W.alloc (.cells #[.bool x.1, .int .i64 x.2] 538)).alloc (.cells #[.bool y.1, .int .i64 y.2] 538)) (.cells #[.bool z.1, .int .i64 z.2] 538)
    rw [z2] at this
    exact this
def KpS (I F a b c : Nat) (ka kb kc : Kn) (w' : World) : Prop := w'.cell? ⟨I, 1, none⟩ = some (.int .u8 (a : Int)) ∧ w'.cell? ⟨I, 2, none⟩ = some (.int .u8 (b : Int)) ∧ w'.cell? ⟨I, 3, none⟩ = some (.int .u8 (c : Int)) ∧ w'.cell? ⟨F, 1 + a * 2, none⟩ = some (.bool ka.1) ∧ w'.cell? ⟨F, 1 + a * 2 + 1, none⟩ = some (.int .i64 ka.2) ∧ w'.cell? ⟨F, 1 + b * 2, none⟩ = some (.bool kb.1) ∧ w'.cell? ⟨F, 1 + b * 2 + 1, none⟩ = some (.int .i64 kb.2) ∧ w'.cell? ⟨F, 1 + c * 2, none⟩ = some (.bool kc.1) ∧ w'.cell? ⟨F, 1 + c * 2 + 1, none⟩ = some (.int .i64 kc.2)
theorem KpS.mod {I F a b c : Nat} {ka kb kc : Kn} {W W' : World} (h : KpS I F a b c ka kb kc W) (hm : Mod (fun _ => False) W W') : KpS I F a b c ka kb kc W' := by
  obtain ⟨h1, h2, h3, h4, h5, h6, h7, h8, h9⟩ := h
  exact ⟨hm.cell (fun h => h) h1, hm.cell (fun h => h) h2, hm.cell (fun h => h) h3, hm.cell (fun h => h) h4, hm.cell (fun h => h) h5, hm.cell (fun h => h) h6, hm.cell (fun h => h) h7, hm.cell (fun h => h) h8, hm.cell (fun h => h) h9⟩
theorem KpS.drew {I F a b c : Nat} {ka kb kc : Kn} {W : World} (h : KpS I F a b c ka kb kc W) : KpS I F a b c ka kb kc W.drew := h
def WyP (l : Lm) (i : Ins) (f : Fc) (W : World) (e : Ending) (w' : World) : Prop := e = .returned (.int .i64 (whyE l i f)) ∧ Below W.heap.size W w'
theorem WyP.mk {l : Lm} {i : Ins} {f : Fc} {W w' : World} {x : Int} (h : whyE l i f = x) (hb : Below W.heap.size W w') : WyP l i f W (.returned (.int .i64 x)) w' := by
  unfold WyP; rw [h]; exact ⟨rfl, hb⟩
set_option maxHeartbeats 8000000 in
theorem why_ops (l : Lm) (op nn : Int) (a b c : Nat) (f : Fc) (ha : a < 8) (hb : b < 8) (hc : c < 8) (W : World) :
    Calls Tryz.prog 378 #[lmV l, insV ⟨op, (a : Int), (b : Int), (c : Int), nn⟩, fcV f] W (WyP l ⟨op, (a : Int), (b : Int), (c : Int), nn⟩ f W) := by
  have HV : Hid (whyE l ⟨op, (a : Int), (b : Int), (c : Int), nn⟩ f = if f.is = false then 0 else whyK l ⟨op, (a : Int), (b : Int), (c : Int), nn⟩ (f.k a) (f.k b) (f.k c)) := rfl
  have HDV := Lib.hid (divides_any ⟨op, (a : Int), (b : Int), (c : Int), nn⟩)
  have HQ := Lib.hid (eq_kn (f.k c))
  unfold insV at HDV ⊢
  unfold lmV fcV fcL rgL
  simp only at HDV ⊢
  go_enter Tryz.func378, Tryz.ntmps378
  go_upto_region 1 with fail
  have hz1 : (W.alloc (.cells #[.int .i64 l.cells, .int .i64 l.ports, .int .i64 l.ahead] 415)).heap.size = W.heap.size + 1 := by show (W.heap.push _).size = _; rw [Array.size_push]
  have hz2 : ((W.alloc (.cells #[.int .i64 l.cells, .int .i64 l.ports, .int .i64 l.ahead] 415)).alloc (.cells #[.int .u8 op, .int .u8 (a : Int), .int .u8 (b : Int), .int .u8 (c : Int), .int .i64 nn] 169)).heap.size = W.heap.size + 2 := by show (((W.alloc (.cells #[.int .i64 l.cells, .int .i64 l.ports, .int .i64 l.ahead] 415)).heap.push _)).size = _; rw [Array.size_push, hz1]
  have HL : Hid ((((W.alloc (.cells #[.int .i64 l.cells, .int .i64 l.ports, .int .i64 l.ahead] 415)).alloc (.cells #[.int .u8 op, .int .u8 (a : Int), .int .u8 (b : Int), .int .u8 (c : Int), .int .i64 nn] 169)).alloc (.cells (fcL f).toArray 541)).heap[W.heap.size]? = some (.cells #[.int .i64 l.cells, .int .i64 l.ports, .int .i64 l.ahead] 415)) := (((Mod.refl (fun _ => False) _).alloc _).alloc _).heap (World.alloc_heap_new W _) (fun h => h)
  have HI : Hid ((((W.alloc (.cells #[.int .i64 l.cells, .int .i64 l.ports, .int .i64 l.ahead] 415)).alloc (.cells #[.int .u8 op, .int .u8 (a : Int), .int .u8 (b : Int), .int .u8 (c : Int), .int .i64 nn] 169)).alloc (.cells (fcL f).toArray 541)).heap[W.heap.size + 1]? = some (.cells #[.int .u8 op, .int .u8 (a : Int), .int .u8 (b : Int), .int .u8 (c : Int), .int .i64 nn] 169)) := by
    have := World.alloc_heap_new (W.alloc (.cells #[.int .i64 l.cells, .int .i64 l.ports, .int .i64 l.ahead] 415)) (.cells #[.int .u8 op, .int .u8 (a : Int), .int .u8 (b : Int), .int .u8 (c : Int), .int .i64 nn] 169)
    rw [hz1] at this
    exact ((Mod.refl (fun _ => False) _).alloc _).heap this (fun h => h)
  have HF : Hid (FcAt (((W.alloc (.cells #[.int .i64 l.cells, .int .i64 l.ports, .int .i64 l.ahead] 415)).alloc (.cells #[.int .u8 op, .int .u8 (a : Int), .int .u8 (b : Int), .int .u8 (c : Int), .int .i64 nn] 169)).alloc (.cells (fcL f).toArray 541)) (W.heap.size + 2) f) := by
    have := World.alloc_heap_new ((W.alloc (.cells #[.int .i64 l.cells, .int .i64 l.ports, .int .i64 l.ahead] 415)).alloc (.cells #[.int .u8 op, .int .u8 (a : Int), .int .u8 (b : Int), .int .u8 (c : Int), .int .i64 nn] 169)) (.cells (fcL f).toArray 541)
    rw [hz2] at this
    exact this
  have HB : Hid (Below W.heap.size W (((W.alloc (.cells #[.int .i64 l.cells, .int .i64 l.ports, .int .i64 l.ahead] 415)).alloc (.cells #[.int .u8 op, .int .u8 (a : Int), .int .u8 (b : Int), .int .u8 (c : Int), .int .i64 nn] 169)).alloc (.cells (fcL f).toArray 541))) := ((((Mod.refl (fun _ => False) W).alloc _).alloc _).alloc _).below (Nat.le_refl _) (fun _ _ h => h)
  have HS : Hid ((((W.alloc (.cells #[.int .i64 l.cells, .int .i64 l.ports, .int .i64 l.ahead] 415)).alloc (.cells #[.int .u8 op, .int .u8 (a : Int), .int .u8 (b : Int), .int .u8 (c : Int), .int .i64 nn] 169)).alloc (.cells (fcL f).toArray 541)).heap.size = W.heap.size + 3) := by show (((W.alloc (.cells #[.int .i64 l.cells, .int .i64 l.ports, .int .i64 l.ahead] 415)).alloc (.cells #[.int .u8 op, .int .u8 (a : Int), .int .u8 (b : Int), .int .u8 (c : Int), .int .i64 nn] 169)).heap.push _).size = _; rw [Array.size_push, hz2]
  clear hz1 hz2
  have hun : ((W.alloc (.cells #[.int .i64 l.cells, .int .i64 l.ports, .int .i64 l.ahead] 415)).alloc (.cells #[.int .u8 op, .int .u8 (a : Int), .int .u8 (b : Int), .int .u8 (c : Int), .int .i64 nn] 169)).alloc (.cells (fcL f).toArray 541) = ((W.alloc (.cells #[.int .i64 l.cells, .int .i64 l.ports, .int .i64 l.ahead] 415)).alloc (.cells #[.int .u8 op, .int .u8 (a : Int), .int .u8 (b : Int), .int .u8 (c : Int), .int .i64 nn] 169)).alloc (.cells [.bool f.is, .bool (f.k 0).1, .int .i64 (f.k 0).2, .bool (f.k 1).1, .int .i64 (f.k 1).2, .bool (f.k 2).1, .int .i64 (f.k 2).2, .bool (f.k 3).1, .int .i64 (f.k 3).2, .bool (f.k 4).1, .int .i64 (f.k 4).2, .bool (f.k 5).1, .int .i64 (f.k 5).2, .bool (f.k 6).1, .int .i64 (f.k 6).2, .bool (f.k 7).1, .int .i64 (f.k 7).2].toArray 541) := rfl
  rw [hun] at HL HI HF HB HS
  clear hun
  generalize ((W.alloc (.cells #[.int .i64 l.cells, .int .i64 l.ports, .int .i64 l.ahead] 415)).alloc (.cells #[.int .u8 op, .int .u8 (a : Int), .int .u8 (b : Int), .int .u8 (c : Int), .int .i64 nn] 169)).alloc (.cells [.bool f.is, .bool (f.k 0).1, .int .i64 (f.k 0).2, .bool (f.k 1).1, .int .i64 (f.k 1).2, .bool (f.k 2).1, .int .i64 (f.k 2).2, .bool (f.k 3).1, .int .i64 (f.k 3).2, .bool (f.k 4).1, .int .i64 (f.k 4).2, .bool (f.k 5).1, .int .i64 (f.k 5).2, .bool (f.k 6).1, .int .i64 (f.k 6).2, .bool (f.k 7).1, .int .i64 (f.k 7).2].toArray 541) = W3 at *
  go_cut [7, 8, 9] from 10 (fun s7 s8 s9 wx => ∃ P Q R, s7 = .pointer (some ⟨P, 0, none⟩) ∧ s8 = .pointer (some ⟨Q, 0, none⟩) ∧ s9 = .pointer (some ⟨R, 0, none⟩) ∧ Hid (KnAt wx P (f.k a)) ∧ Hid (KnAt wx Q (f.k b)) ∧ Hid (KnAt wx R (f.k c)) ∧ Hid (Below W3.heap.size W3 wx))
  case first =>
    rename_i J K' hJ hK
    obtain ⟨fa0, fa1⟩ := HF.out.reg ha
    obtain ⟨fb0, fb1⟩ := HF.out.reg hb
    obtain ⟨fc0, fc1⟩ := HF.out.reg hc
    have i1 : W3.cell? ⟨W.heap.size + 1, 1, none⟩ = some (.int .u8 (a : Int)) := by simp [World.cell?, HI.out]
    have i2 : W3.cell? ⟨W.heap.size + 1, 2, none⟩ = some (.int .u8 (b : Int)) := by simp [World.cell?, HI.out]
    have i3 : W3.cell? ⟨W.heap.size + 1, 3, none⟩ = some (.int .u8 (c : Int)) := by simp [World.cell?, HI.out]
    have haI : (a : Int) < 8 := by omega
    have hbI : (b : Int) < 8 := by omega
    have hcI : (c : Int) < 8 := by omega
    obtain ⟨ka, hka⟩ : ∃ ka, f.k a = ka := ⟨_, rfl⟩
    obtain ⟨kb, hkb⟩ : ∃ kb, f.k b = kb := ⟨_, rfl⟩
    obtain ⟨kc, hkc⟩ : ∃ kc, f.k c = kc := ⟨_, rfl⟩
    rw [hka] at fa0 fa1 hJ
    rw [hkb] at fb0 fb1 hJ
    rw [hkc] at fc0 fc1 hJ
    have HKP : Hid (KpS (W.heap.size + 1) (W.heap.size + 2) a b c ka kb kc W3) := ⟨i1, i2, i3, fa0, fa1, fb0, fb1, fc0, fc1⟩
    go_region_held3 (fun w' => w'.cell? ⟨W.heap.size + 1, 1, none⟩ = some (.int .u8 (a : Int)) ∧ w'.cell? ⟨W.heap.size + 1, 2, none⟩ = some (.int .u8 (b : Int)) ∧ w'.cell? ⟨W.heap.size + 1, 3, none⟩ = some (.int .u8 (c : Int)) ∧ w'.cell? ⟨W.heap.size + 2, 1 + a * 2, none⟩ = some (.bool ka.1) ∧ w'.cell? ⟨W.heap.size + 2, 1 + a * 2 + 1, none⟩ = some (.int .i64 ka.2) ∧ w'.cell? ⟨W.heap.size + 2, 1 + b * 2, none⟩ = some (.bool kb.1) ∧ w'.cell? ⟨W.heap.size + 2, 1 + b * 2 + 1, none⟩ = some (.int .i64 kb.2) ∧ w'.cell? ⟨W.heap.size + 2, 1 + c * 2, none⟩ = some (.bool kc.1) ∧ w'.cell? ⟨W.heap.size + 2, 1 + c * 2 + 1, none⟩ = some (.int .i64 kc.2))
      (first | exact HKP.out.drew | exact (HKP.out.mod ((Mod.refl _ _).alloc _)).drew | exact (HKP.out.mod (((Mod.refl _ _).alloc _).alloc _)).drew | exact (HKP.out.mod ((((Mod.refl _ _).alloc _).alloc _).alloc _)).drew | go_keep)
      (fail)
    all_goals (change K' _ _; refine hK _ _ (Met.intro (hJ _ _ ?_)); (repeat apply Exists.intro); refine ⟨?_, rfl⟩)
    all_goals (first
      | exact ⟨_, _, _, rfl, rfl, rfl, (three_kn W3 ka kb kc).1, (three_kn W3 ka kb kc).2.1, (three_kn W3 ka kb kc).2.2.1, (three_kn W3 ka kb kc).2.2.2⟩
      | exact ⟨_, _, _, rfl, rfl, rfl, (three_kn W3 ka kc kb).1, (three_kn W3 ka kc kb).2.2.1, (three_kn W3 ka kc kb).2.1, (three_kn W3 ka kc kb).2.2.2⟩
      | exact ⟨_, _, _, rfl, rfl, rfl, (three_kn W3 kb ka kc).2.1, (three_kn W3 kb ka kc).1, (three_kn W3 kb ka kc).2.2.1, (three_kn W3 kb ka kc).2.2.2⟩
      | exact ⟨_, _, _, rfl, rfl, rfl, (three_kn W3 kb kc ka).2.2.1, (three_kn W3 kb kc ka).1, (three_kn W3 kb kc ka).2.1, (three_kn W3 kb kc ka).2.2.2⟩
      | exact ⟨_, _, _, rfl, rfl, rfl, (three_kn W3 kc ka kb).2.1, (three_kn W3 kc ka kb).2.2.1, (three_kn W3 kc ka kb).1, (three_kn W3 kc ka kb).2.2.2⟩
      | exact ⟨_, _, _, rfl, rfl, rfl, (three_kn W3 kc kb ka).2.2.1, (three_kn W3 kc kb ka).2.1, (three_kn W3 kc kb ka).1, (three_kn W3 kc kb ka).2.2.2⟩)
  case rest =>
    obtain ⟨P, Q, R, rfl, rfl, rfl, HP, HQ2, HR, HW⟩ := hcut
    have hmw : Mod (fun _ => False) W3 wc := Mod.of_same HW.out
    have HLc : Hid (wc.heap[W.heap.size]? = some (.cells #[.int .i64 l.cells, .int .i64 l.ports, .int .i64 l.ahead] 415)) := hmw.heap HL.out (fun h => h)
    have HIc : Hid (wc.heap[W.heap.size + 1]? = some (.cells #[.int .u8 op, .int .u8 (a : Int), .int .u8 (b : Int), .int .u8 (c : Int), .int .i64 nn] 169)) := hmw.heap HI.out (fun h => h)
    have HFc : Hid (FcAt wc (W.heap.size + 2) f) := hmw.heap HF.out (fun h => h)
    have HBc : Hid (Below W.heap.size W wc) := HB.out.trans (HW.out.mono HB.out.size)
    have c0 := HFc.out.is
    have l0 : wc.cell? ⟨W.heap.size, 0, none⟩ = some (.int .i64 l.cells) := by simp [World.cell?, HLc.out]
    have l1 : wc.cell? ⟨W.heap.size, 1, none⟩ = some (.int .i64 l.ports) := by simp [World.cell?, HLc.out]
    have l2 : wc.cell? ⟨W.heap.size, 2, none⟩ = some (.int .i64 l.ahead) := by simp [World.cell?, HLc.out]
    have i0 : wc.cell? ⟨W.heap.size + 1, 0, none⟩ = some (.int .u8 op) := by simp [World.cell?, HIc.out]
    have i1 : wc.cell? ⟨W.heap.size + 1, 1, none⟩ = some (.int .u8 (a : Int)) := by simp [World.cell?, HIc.out]
    have i2 : wc.cell? ⟨W.heap.size + 1, 2, none⟩ = some (.int .u8 (b : Int)) := by simp [World.cell?, HIc.out]
    have i3 : wc.cell? ⟨W.heap.size + 1, 3, none⟩ = some (.int .u8 (c : Int)) := by simp [World.cell?, HIc.out]
    have i4 : wc.cell? ⟨W.heap.size + 1, 4, none⟩ = some (.int .i64 nn) := by simp [World.cell?, HIc.out]
    obtain ⟨p0, p1, -, -⟩ := HP.out.cells
    obtain ⟨q0, q1, -, -⟩ := HQ2.out.cells
    obtain ⟨r0, r1, -, -⟩ := HR.out.cells
    have HQc := Lib.hid (HQ.out)
    generalize f.k a = ka at *
    generalize f.k b = kb at *
    generalize f.k c = kc at *
    obtain ⟨a1, a2⟩ := ka
    obtain ⟨b1, b2⟩ := kb
    obtain ⟨c1, c2⟩ := kc
    obtain ⟨lc, lp, la⟩ := l
    obtain ⟨fi, fk⟩ := f
    simp only at c0 l0 l1 l2 p0 p1 q0 q1 r0 r1
    clear hmw HL HI HF HB HS HW HQ HFc HLc HIc
    clear ha hb hc
    cases fi with
    | false =>
      have HX := Lib.hid (HV.out.trans (show _ = (0 : Int) by simp [whyK, ]))
      clear HV HDV HQc
      go_wp2_with fail
      go_ret
      exact WyP.mk HX.out HBc.out
    | true =>
      by_cases e2 : op = 2
      · subst e2
        have HX := Lib.hid (HV.out.trans (show _ = (176 : Int) by simp [whyK, ]))
        clear HV HDV HQc
        go_wp2_with fail
        go_ret
        exact WyP.mk HX.out HBc.out
      have n2 : (op == 2) = false := by simpa using e2
      by_cases e5 : op = 5
      · subst e5
        by_cases h0 : lc = 0
        · subst h0
          have HX := Lib.hid (HV.out.trans (show _ = (172 : Int) by simp [whyK, ]))
          clear HV HDV HQc
          go_wp2_with fail
          go_ret
          exact WyP.mk HX.out HBc.out
        have m0 : (lc == 0) = false := by simpa using h0
        cases b1 with
        | false =>
          have HX := Lib.hid (HV.out.trans (show _ = (0 : Int) by simp [whyK, h0]))
          clear HV HDV HQc
          go_wp2_with fail
          go_ret
          exact WyP.mk HX.out HBc.out
        | true =>
          by_cases h1 : b2 < 0
          · have m1 : decide (b2 < 0) = true := decide_eq_true h1
            have HX := Lib.hid (HV.out.trans (show _ = (172 : Int) by simp [whyK, h0, h1]))
            clear HV HDV HQc
            go_wp2_with fail
            go_ret
            exact WyP.mk HX.out HBc.out
          have m1 : decide (b2 < 0) = false := decide_eq_false h1
          by_cases h2 : lc ≤ b2
          · have m2 : decide (lc ≤ b2) = true := decide_eq_true h2
            have HX := Lib.hid (HV.out.trans (show _ = (172 : Int) by simp [whyK, h0, h1, h2]))
            clear HV HDV HQc
            go_wp2_with fail
            go_ret
            exact WyP.mk HX.out HBc.out
          have m2 : decide (lc ≤ b2) = false := decide_eq_false h2
          have HX := Lib.hid (HV.out.trans (show _ = (0 : Int) by simp [whyK, h0, h1, h2]))
          clear HV HDV HQc
          go_wp2_with fail
          go_ret
          exact WyP.mk HX.out HBc.out
      have n5 : (op == 5) = false := by simpa using e5
      by_cases e6 : op = 6
      · subst e6
        by_cases h0 : lc = 0
        · subst h0
          have HX := Lib.hid (HV.out.trans (show _ = (172 : Int) by simp [whyK, ]))
          clear HV HDV HQc
          go_wp2_with fail
          go_ret
          exact WyP.mk HX.out HBc.out
        have m0 : (lc == 0) = false := by simpa using h0
        cases b1 with
        | false =>
          have HX := Lib.hid (HV.out.trans (show _ = (0 : Int) by simp [whyK, h0]))
          clear HV HDV HQc
          go_wp2_with fail
          go_ret
          exact WyP.mk HX.out HBc.out
        | true =>
          by_cases h1 : b2 < 0
          · have m1 : decide (b2 < 0) = true := decide_eq_true h1
            have HX := Lib.hid (HV.out.trans (show _ = (172 : Int) by simp [whyK, h0, h1]))
            clear HV HDV HQc
            go_wp2_with fail
            go_ret
            exact WyP.mk HX.out HBc.out
          have m1 : decide (b2 < 0) = false := decide_eq_false h1
          by_cases h2 : lc ≤ b2
          · have m2 : decide (lc ≤ b2) = true := decide_eq_true h2
            have HX := Lib.hid (HV.out.trans (show _ = (172 : Int) by simp [whyK, h0, h1, h2]))
            clear HV HDV HQc
            go_wp2_with fail
            go_ret
            exact WyP.mk HX.out HBc.out
          have m2 : decide (lc ≤ b2) = false := decide_eq_false h2
          have HX := Lib.hid (HV.out.trans (show _ = (0 : Int) by simp [whyK, h0, h1, h2]))
          clear HV HDV HQc
          go_wp2_with fail
          go_ret
          exact WyP.mk HX.out HBc.out
      have n6 : (op == 6) = false := by simpa using e6
      by_cases e8 : op = 8
      · subst e8
        have hd : dvB ⟨8, (a : Int), (b : Int), (c : Int), nn⟩ = false := rfl
        by_cases h0 : lp ≤ nn
        · have m0 : decide (lp ≤ nn) = true := decide_eq_true h0
          have HX := Lib.hid (HV.out.trans (show _ = (173 : Int) by simp [whyK, h0]))
          clear HV HDV HQc
          go_wp2_with fail
          go_ret
          exact WyP.mk HX.out HBc.out
        have m0 : decide (lp ≤ nn) = false := decide_eq_false h0
        cases a1 with
        | false =>
          have HX := Lib.hid (HV.out.trans (show _ = (0 : Int) by simp [whyK, h0, hd]))
          clear HV
          go_wp2_with fail
          refine (HDV.out wc).mono ?_; rintro e wd ⟨rfl, hbd⟩
          have HBd : Hid (Below W.heap.size W wd) := HBc.out.trans (hbd.mono HBc.out.size)
          have HRd : Hid (KnAt wd R (c1, c2)) := (Mod.of_same (S := fun _ => False) hbd).heap HR.out (fun h => h)
          obtain ⟨r0d, r1d, -, -⟩ := HRd.out.cells
          rw [hd]
          clear hbd HDV
          go_wp2_with fail
          go_ret
          exact WyP.mk HX.out HBd.out
        | true =>
          by_cases h1 : a2 < la
          · have m1 : decide (a2 < la) = true := decide_eq_true h1
            have HX := Lib.hid (HV.out.trans (show _ = (174 : Int) by simp [whyK, h0, h1]))
            clear HV HDV HQc
            go_wp2_with fail
            go_ret
            exact WyP.mk HX.out HBc.out
          have m1 : decide (a2 < la) = false := decide_eq_false h1
          have HX := Lib.hid (HV.out.trans (show _ = (0 : Int) by simp [whyK, h0, h1, hd]))
          clear HV
          go_wp2_with fail
          refine (HDV.out wc).mono ?_; rintro e wd ⟨rfl, hbd⟩
          have HBd : Hid (Below W.heap.size W wd) := HBc.out.trans (hbd.mono HBc.out.size)
          have HRd : Hid (KnAt wd R (c1, c2)) := (Mod.of_same (S := fun _ => False) hbd).heap HR.out (fun h => h)
          obtain ⟨r0d, r1d, -, -⟩ := HRd.out.cells
          rw [hd]
          clear hbd HDV
          go_wp2_with fail
          go_ret
          exact WyP.mk HX.out HBd.out
      have n8 : (op == 8) = false := by simpa using e8
      by_cases e7 : op = 7
      · subst e7
        have hd : dvB ⟨7, (a : Int), (b : Int), (c : Int), nn⟩ = false := rfl
        cases b1 with
        | false =>
          have HX := Lib.hid (HV.out.trans (show _ = (0 : Int) by simp [whyK, hd]))
          clear HV
          go_wp2_with fail
          refine (HDV.out wc).mono ?_; rintro e wd ⟨rfl, hbd⟩
          have HBd : Hid (Below W.heap.size W wd) := HBc.out.trans (hbd.mono HBc.out.size)
          have HRd : Hid (KnAt wd R (c1, c2)) := (Mod.of_same (S := fun _ => False) hbd).heap HR.out (fun h => h)
          obtain ⟨r0d, r1d, -, -⟩ := HRd.out.cells
          rw [hd]
          clear hbd HDV
          go_wp2_with fail
          go_ret
          exact WyP.mk HX.out HBd.out
        | true =>
          by_cases h1 : b2 < 1
          · have m1 : decide (b2 < 1) = true := decide_eq_true h1
            have HX := Lib.hid (HV.out.trans (show _ = (175 : Int) by simp [whyK, h1]))
            clear HV HDV HQc
            go_wp2_with fail
            go_ret
            exact WyP.mk HX.out HBc.out
          have m1 : decide (b2 < 1) = false := decide_eq_false h1
          have HX := Lib.hid (HV.out.trans (show _ = (0 : Int) by simp [whyK, h1, hd]))
          clear HV
          go_wp2_with fail
          refine (HDV.out wc).mono ?_; rintro e wd ⟨rfl, hbd⟩
          have HBd : Hid (Below W.heap.size W wd) := HBc.out.trans (hbd.mono HBc.out.size)
          have HRd : Hid (KnAt wd R (c1, c2)) := (Mod.of_same (S := fun _ => False) hbd).heap HR.out (fun h => h)
          obtain ⟨r0d, r1d, -, -⟩ := HRd.out.cells
          rw [hd]
          clear hbd HDV
          go_wp2_with fail
          go_ret
          exact WyP.mk HX.out HBd.out
      have n7 : (op == 7) = false := by simpa using e7
      by_cases hd : dvB ⟨op, (a : Int), (b : Int), (c : Int), nn⟩ = true
      · by_cases hk : (c1, c2) = ((true, 0) : Kn)
        · have hq : decide ((c1, c2) = ((true, 0) : Kn)) = true := decide_eq_true hk
          have hqe : ∀ w, (binOp .eql 538 (.agg #[.bool c1, .int .i64 c2]) (.agg #[.bool true, .int .i64 0])).run Tryz.prog w = .ok (.bool true) w := fun w => by have := HQc.out w; rw [hq] at this; exact this
          clear hq
          have HX := Lib.hid (HV.out.trans (show _ = (131 : Int) by simp [whyK, e2, e5, e6, e8, e7, hd, hk]))
          clear hk
          clear HV
          go_wp2_with fail
          refine (HDV.out wc).mono ?_; rintro e wd ⟨rfl, hbd⟩
          have HBd : Hid (Below W.heap.size W wd) := HBc.out.trans (hbd.mono HBc.out.size)
          have HRd : Hid (KnAt wd R (c1, c2)) := (Mod.of_same (S := fun _ => False) hbd).heap HR.out (fun h => h)
          obtain ⟨r0d, r1d, -, -⟩ := HRd.out.cells
          rw [hd]
          clear hbd HDV
          go_wp2_with fail
          go_ret
          exact WyP.mk HX.out HBd.out
        · have hq : decide ((c1, c2) = ((true, 0) : Kn)) = false := decide_eq_false hk
          have hqe : ∀ w, (binOp .eql 538 (.agg #[.bool c1, .int .i64 c2]) (.agg #[.bool true, .int .i64 0])).run Tryz.prog w = .ok (.bool false) w := fun w => by have := HQc.out w; rw [hq] at this; exact this
          clear hq
          have HX := Lib.hid (HV.out.trans (show _ = (0 : Int) by simp [whyK, e2, e5, e6, e8, e7, hd, hk]))
          clear hk
          clear HV
          go_wp2_with fail
          refine (HDV.out wc).mono ?_; rintro e wd ⟨rfl, hbd⟩
          have HBd : Hid (Below W.heap.size W wd) := HBc.out.trans (hbd.mono HBc.out.size)
          have HRd : Hid (KnAt wd R (c1, c2)) := (Mod.of_same (S := fun _ => False) hbd).heap HR.out (fun h => h)
          obtain ⟨r0d, r1d, -, -⟩ := HRd.out.cells
          rw [hd]
          clear hbd HDV
          go_wp2_with fail
          go_ret
          exact WyP.mk HX.out HBd.out
      have hdf : dvB ⟨op, (a : Int), (b : Int), (c : Int), nn⟩ = false := by simpa using hd
      have HX := Lib.hid (HV.out.trans (show _ = (0 : Int) by simp [whyK, e2, e5, e6, e8, e7, hdf]))
      clear hd
      clear HV
      go_wp2_with fail
      refine (HDV.out wc).mono ?_; rintro e wd ⟨rfl, hbd⟩
      have HBd : Hid (Below W.heap.size W wd) := HBc.out.trans (hbd.mono HBc.out.size)
      have HRd : Hid (KnAt wd R (c1, c2)) := (Mod.of_same (S := fun _ => False) hbd).heap HR.out (fun h => h)
      obtain ⟨r0d, r1d, -, -⟩ := HRd.out.cells
      rw [hdf]
      clear hbd HDV
      go_wp2_with fail
      go_ret
      exact WyP.mk HX.out HBd.out
end Eng
end Go.Proofs.YtdfmgneicdpjmaaGreat
