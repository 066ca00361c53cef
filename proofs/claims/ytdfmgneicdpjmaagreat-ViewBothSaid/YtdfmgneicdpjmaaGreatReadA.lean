/- num.Read, num.Int at small numbers and at 341; what takes numbers of a response's bytes. -/
import Derived.Test.YtdfmgneicdpjmaaGreatTenK
namespace Go.Proofs.YtdfmgneicdpjmaaGreat
open Go.RowKit Go.Shelf
set_option linter.unusedVariables false
set_option linter.unusedSimpArgs false
set_option maxRecDepth 100000
namespace Resp

theorem NumRead_small (a : Option Addr) (n c : Nat) (zs : List Int) (W : World) (p : Nat) (x : Int) (h : Reads .u8 W (.slice a n c) zs) (hn : zs.length = n) (hl : n ≤ 1000) (hp : p < n) (hx : zs[p]?.getD 0 = x) (h0 : 0 ≤ x) (h1 : x ≤ 246) :
    Calls Tryz.prog 172 #[.slice a n c, .int .i64 (p : Int)] W fun e w' => e = .returned (.tuple #[.int .u64 x, .int .i64 1, .int .i64 0]) ∧ W = w' := by
  rcases h with ⟨a2, c2, e2, e3⟩ | ⟨b, o, c2, e2, hl2, hc⟩
  · subst e3; simp at hn; omega
  · rw [hn] at e2
    cases e2
    have hcell := hc p (by omega)
    rw [hx] at hcell
    clear hc
    have hpI : (p : Int) < n := by omega
    have hpn : ¬ (p : Int) = n := by omega
    have hpb : ((p : Int) == (n : Int)) = false := by simp; omega
    have hw : IntKind.u64.wrap x = x := by rw [IntKind.wrap_u64]; omega
    go_enter Tryz.func172, Tryz.ntmps172
    go_wp2_with fail
    go_step3
    go_wp2_with fail
    rw [Exit.noGoto_ret]
    go_returns
    exact ⟨rfl, rfl⟩
theorem NumRead_341 (b o c : Nat) (W : World) (h0 : W.cell? ⟨b, o, none⟩ = some (.int .u8 248)) (h1 : W.cell? ⟨b, o + 1, none⟩ = some (.int .u8 1)) (h2 : W.cell? ⟨b, o + 2, none⟩ = some (.int .u8 85)) :
    Calls Tryz.prog 172 #[.slice (some ⟨b, o, none⟩) 3 c, .int .i64 0] W fun e w' => e = .returned (.tuple #[.int .u64 341, .int .i64 3, .int .i64 0]) ∧ W = w' := by
  have hb1 : bits BinOp.or IntKind.u64 0 1 = 1 := by decide +kernel
  have hb2 : bits BinOp.or IntKind.u64 256 85 = 341 := by decide +kernel
  have hb3 : IntKind.u64.wrap 256 = 256 := by decide +kernel
  go_enter Tryz.func172, Tryz.ntmps172
  go_wp2_with fail
  go_step3
  go_wp2_with fail
  go_step3
  go_wp2_with fail
  refine wp_loop_rounds 3 ?_
  rw [rounds_succ]
  go_wp2_with fail
  rw [rounds_succ]
  go_wp2_with fail
  rw [rounds_succ]
  go_wp2_with fail
  rw [Exit.noGoto_ret]
  go_returns
  exact ⟨rfl, rfl⟩
theorem NumInt_small (a : Option Addr) (n c : Nat) (zs : List Int) (W : World) (p : Nat) (x : Int) (h : Reads .u8 W (.slice a n c) zs) (hn : zs.length = n) (hl : n ≤ 1000) (hp : p < n) (hx : zs[p]?.getD 0 = x) (h0 : 0 ≤ x) (h1 : x ≤ 246) :
    Calls Tryz.prog 167 #[.slice a n c, .int .i64 (p : Int), .int .i64 0, .int .i64 16384] W fun e w' => e = .returned (.tuple #[.int .i64 x, .int .i64 1, .int .i64 0]) ∧ W = w' := by
  have hw : IntKind.i64.wrap x = x := by rw [IntKind.wrap_i64]; omega
  have h2 : ¬ x > 16384 := by omega
  have h3 : ¬ 16384 < x := by omega
  have h4 : decide (16384 < x) = false := by simp; omega
  have h5 : decide (x > 16384) = false := by simp; omega
  have HR := Lib.hid (NumRead_small a n c zs W p x h hn hl hp hx h0 h1)
  clear h
  go_enter Tryz.func167, Tryz.ntmps167
  go_wp2_with fail
  refine HR.out.mono ?_; rintro e w1 ⟨rfl, hy⟩
  subst hy
  go_wp2_with fail
  go_returns
  exact ⟨rfl, rfl⟩
/-- What takes numbers: a slice, and whether it has failed. -/
def RdAt (W : World) (B : Nat) (v : Value) : Prop := W.heap[B]? = some (.cells #[v, .bool false] 196)
theorem RdAt.sets {W : World} {B : Nat} {v : Value} (h : RdAt W B v) (u : Value) : RdAt ((W.setCell ⟨B, 1, none⟩ (.bool false)).setCell ⟨B, 0, none⟩ u) B u := by
  have := heap_set_ (heap_set_ h 1 (.bool false)) 0 u
  simpa [RdAt] using this
theorem RdAt.set1 {W : World} {B : Nat} {v : Value} (h : RdAt W B v) : RdAt (W.setCell ⟨B, 1, none⟩ (.bool false)) B v := by
  have := heap_set_ h 1 (.bool false)
  simpa [RdAt] using this
theorem next_takes (B : Nat) (b o c k : Nat) (x : Int) (W : World) (h : RdAt W B (.slice (some ⟨b, o, none⟩) k c)) (hkc : k ≤ c)
    (hr : Calls Tryz.prog 172 #[.slice (some ⟨b, o, none⟩) k c, .int .i64 0] W fun e w' => e = .returned (.tuple #[.int .u64 x, .int .i64 (k : Int), .int .i64 0]) ∧ W = w') :
    Calls Tryz.prog 130 #[.pointer (some ⟨B, 0, none⟩)] W fun e w' => e = .returned (.int .u64 x) ∧ (∃ a' c', RdAt w' B (.slice a' 0 c')) ∧ Mod (fun g => g = B) W w' := by
  obtain ⟨c0, c1, f0, f1⟩ := pair_cells_ h
  have HR := Lib.hid hr
  have HB := Lib.hid h
  have HM := Lib.hid (fun u => (mod_set_ W B 1 (.bool false)).trans (mod_set_ (W.setCell ⟨B, 1, none⟩ (.bool false)) B 0 u))
  clear h hr
  go_enter Tryz.func130, Tryz.ntmps130
  go_wp2_with fail
  refine HR.out.mono ?_; rintro e w1 ⟨rfl, hy⟩
  subst hy
  go_wp2_with fail
  all_goals (go_ret; exact ⟨rfl, ⟨_, _, HB.out.sets _⟩, HM.out _⟩)
theorem number_takes (B : Nat) (b o c k : Nat) (x : Int) (W : World) (h : RdAt W B (.slice (some ⟨b, o, none⟩) k c)) (hkc : k ≤ c) (hx0 : 0 ≤ x) (hx1 : x ≤ 1000)
    (hr : Calls Tryz.prog 172 #[.slice (some ⟨b, o, none⟩) k c, .int .i64 0] W fun e w' => e = .returned (.tuple #[.int .u64 x, .int .i64 (k : Int), .int .i64 0]) ∧ W = w') :
    Calls Tryz.prog 122 #[.pointer (some ⟨B, 0, none⟩)] W fun e w' => e = .returned (.int .i64 x) ∧ (∃ a' c', RdAt w' B (.slice a' 0 c')) ∧ Mod (fun g => g = B) W w' := by
  have HN := Lib.hid (next_takes B b o c k x W h hkc hr)
  have hw : IntKind.i64.wrap x = x := by rw [IntKind.wrap_i64]; omega
  have h2 : ¬ x > 9223372036854775807 := by omega
  have h3 : ¬ 9223372036854775807 < x := by omega
  have h4 : decide (9223372036854775807 < x) = false := by simp; omega
  have h5 : decide (x > 9223372036854775807) = false := by simp; omega
  clear h hr
  go_enter Tryz.func122, Tryz.ntmps122
  go_wp2_with fail
  refine HN.out.mono ?_; rintro e w1 ⟨rfl, ⟨a', c', hb⟩, hm⟩
  obtain ⟨c0, c1, f0, f1⟩ := pair_cells_ hb
  have HB := Lib.hid hb
  have HM := Lib.hid (hm.trans (mod_set_ w1 B 1 (.bool false)))
  clear hb hm
  go_wp2_with fail
  go_ret
  exact ⟨rfl, ⟨_, _, HB.out.set1⟩, HM.out⟩
end Resp
end Go.Proofs.YtdfmgneicdpjmaaGreat
