/- field.Read over the body of a response with a number and the code 341. -/
import Derived.Test.YtdfmgneicdpjmaaGreatReadB
import Derived.Test.YtdfmgneicdpjmaaGreatFermRange
import Derived.Stop.RegionWithIn
namespace Go.Proofs.YtdfmgneicdpjmaaGreat
open Go.RowKit Go.Shelf
attribute [local go_sem] Oper.semAt_some
set_option linter.unusedVariables false
set_option linter.unusedSimpArgs false
set_option maxRecDepth 100000
namespace Resp

theorem fields_any (av : Option Addr) (n c : Nat) (w : World) :
    Calls Tryz.prog 121 #[.slice av n c] w fun e w' => e = .returned (.func (.func 166) #[] #[.pointer (some ⟨w.heap.size, 0, none⟩)]) ∧ w' = w.alloc (.cells #[.slice av n c] 25) := by
  go_enter Tryz.func121, Tryz.ntmps121
  go_wp2_with fail
  go_ret
  exact ⟨rfl, rfl⟩
/-- The body of a response, from cell o on. -/
def BodyAt (W : World) (g o n : Nat) : Prop := ∀ i, i < 8 → W.cell? ⟨g, o + i, none⟩ = some (.int .u8 ((bodyR n)[i]?.getD 0))
theorem BodyAt.mod {S : Nat → Prop} {W W' : World} {g o n : Nat} (h : BodyAt W g o n) (hm : Mod S W W') (hg : ¬ S g) : BodyAt W' g o n := fun i hi => hm.cell hg (h i hi)
theorem BodyAt.reads {W : World} {g o n c : Nat} (h : BodyAt W g o n) : Reads .u8 W (.slice (some ⟨g, o, none⟩) 8 c) (bodyR n) := .inr ⟨g, o, c, rfl, by unfold maxLen; simp [bodyR], fun i hi => h i hi⟩
def fldSt (g o c n bx : Nat) (_ : Nat) (W : World) : Prop := W.heap[bx]? = some (.cells #[.slice (some ⟨g, o, none⟩) 8 c] 25) ∧ BodyAt W g o n
def fldX (g o c : Nat) : Nat → Value × Value
  | 0 => (.int .i64 0, .agg #[.int .i64 1, .slice (some ⟨g, o + 2, none⟩) 1 (c - 2)])
  | _ => (.int .i64 3, .agg #[.int .i64 3, .slice (some ⟨g, o + 5, none⟩) 3 (c - 5)])
def fldYa (g o c n bx : Nat) (k : Nat) (x : Value × Value) (W : World) : Prop := x = fldX g o c k ∧ fldSt g o c n bx k W
set_option maxHeartbeats 2000000 in
theorem fields1_st (m : Nat) (hm : 1 ≤ m) (g o c n bx : Nat) (hn : n ≤ 246) (hc : 8 ≤ c) :
    SeqSt Fence.wide m Tryz.prog 166 #[.pointer (some ⟨bx, 0, none⟩)] (fun x : Value × Value => #[x.1, x.2]) (fun _ => False) (fldSt g o c n bx) (fldYa g o c n bx) 2 := by
  intro l J W hS hJ hY h0
  have HY := Lib.hid hY
  have HJ := Lib.hid hJ
  have H0 := Lib.hid h0
  have HS := Lib.hid hS
  obtain ⟨hbx, hbd⟩ := hS
  have k1 := cell_of_heap_ hbx
  have HR := Lib.hid (hbd.reads (c := c))
  have c0 := hbd 0 (by omega)
  simp [bodyR] at c0
  have n2 : ¬ c = 2 := by omega
  have n5 : ¬ c = 5 := by omega
  have n2' : ¬ c - 2 = 0 := by omega
  have n5' : ¬ c - 5 = 0 := by omega
  have n3 : 3 ≤ c := by omega
  have w1 : IntKind.i64.wrap 1 = 1 := by decide +kernel
  have w3 : IntKind.i64.wrap 3 = 3 := by decide +kernel
  have w8 : IntKind.i64.wrap 8 = 8 := by decide +kernel
  have n8 : 8 ≤ c := hc
  have n3I : (3 : Int) ≤ c := by omega
  have n8I : (8 : Int) ≤ c := by omega
  have n3J : ¬ (c : Int) < 3 := by omega
  have n8J : ¬ (c : Int) < 8 := by omega
  have n3K : ¬ c < 3 := by omega
  have n8K : ¬ c < 8 := by omega
  clear hJ hY h0 hbx hbd
  refine callsIn_of_wp Tryz.func166 rfl trivial ?_ rfl
  simp only [Tryz.ntmps166, List.size_toArray, List.length_cons, List.length_nil, Nat.reduceAdd, Nat.reduceSub, Array.replicate_succ, Array.replicate_zero, List.push_toArray, List.append_toArray, List.nil_append, List.cons_append]
  refine wpIn_wide.2 ?_
  go_wp2_with fail
  refine wp_loop_rounds 3 ?_
  rw [rounds_succ]
  go_wp2_with fail
  refine (NumInt_small (some ⟨g, o, none⟩) 8 c (bodyR n) W 1 1 HR.out rfl (by omega) (by omega) rfl (by omega) (by omega)).mono ?_; rintro e w1 ⟨rfl, hy⟩
  subst hy
  go_upto_region 6 with fail
  go_cut [53] from 38 (fun s wx => s = .bool false ∧ Hid (J 1 wx) ∧ Hid (fldSt g o c n bx 1 wx))
  case first =>
    rename_i J1 K1 hJ1 hK1
    refine (wpIn_wide (n := m)).1 ?_
    obtain ⟨fn, tmps, assign, body, hy, hR⟩ := HY.out 0 (fldX g o c 0) W.drew (by omega) (HJ.out 0 W W.drew H0.out ((Mod.refl _ W).drew)) ⟨rfl, HS.out⟩
    simp only [fldX] at hy
    gi_region_with (refine hR.mono ?_; rintro e W5 ⟨rfl, hJ5, hS5⟩)
    all_goals (change K1 _ _; refine hK1 _ _ (Met.intro (hJ1 _ _ ?_)); (repeat apply Exists.intro); refine ⟨⟨rfl, hJ5, hS5⟩, rfl⟩)
  case rest =>
    clear HS H0 k1 HR c0
    obtain ⟨rfl, H1, HS1⟩ := hcut
    have hST1 := HS1.out
    obtain ⟨hbx, hbd⟩ := hST1
    have k1 := cell_of_heap_ hbx
    have HR := Lib.hid (hbd.reads (c := c))
    have c3 := hbd 3 (by omega)
    simp [bodyR] at c3
    clear hbx hbd
    go_wp2_with fail
    rw [rounds_succ]
    go_wp2_with fail
    refine (NumInt_small (some ⟨g, o, none⟩) 8 c (bodyR n) wc 4 3 HR.out rfl (by omega) (by omega) rfl (by omega) (by omega)).mono ?_; rintro e w1 ⟨rfl, hy⟩
    subst hy
    go_upto_region 6 with fail
    go_cut [53] from 38 (fun s wx => s = .bool false ∧ Hid (J 2 wx) ∧ Hid (fldSt g o c n bx 2 wx))
    case first =>
      rename_i J1 K1 hJ1 hK1
      refine (wpIn_wide (n := m)).1 ?_
      obtain ⟨fn, tmps, assign, body, hy, hR⟩ := HY.out 1 (fldX g o c 1) wc.drew (by omega) (HJ.out 1 wc wc.drew H1.out ((Mod.refl _ wc).drew)) ⟨rfl, HS1.out⟩
      simp only [fldX] at hy
      gi_region_with (refine hR.mono ?_; rintro e W5 ⟨rfl, hJ5, hS5⟩)
      all_goals (change K1 _ _; refine hK1 _ _ (Met.intro (hJ1 _ _ ?_)); (repeat apply Exists.intro); refine ⟨⟨rfl, hJ5, hS5⟩, rfl⟩)
    case rest =>
      clear HS1 H1 k1 HR c3
      obtain ⟨rfl, H2, HS2⟩ := hcut
      have hST2 := HS2.out
      obtain ⟨hbx, hbd⟩ := hST2
      have k1 := cell_of_heap_ hbx
      clear hbx hbd
      go_wp2_with fail
      rw [rounds_succ]
      go_wp2_with fail
      go_end0
      exact ⟨⟨_, rfl⟩, H2.out, HS2.out⟩
end Resp
end Go.Proofs.YtdfmgneicdpjmaaGreat
