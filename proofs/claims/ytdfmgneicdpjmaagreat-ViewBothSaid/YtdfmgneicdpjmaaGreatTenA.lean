/- A slot without a life: what it answers a frame that is no request. -/
import Derived.Test.YtdfmgneicdpjmaaGreatRespH
namespace Go.Proofs.YtdfmgneicdpjmaaGreat
open Go.RowKit Go.Shelf
set_option linter.unusedVariables false
set_option linter.unusedSimpArgs false
set_option maxRecDepth 100000
namespace Resp

theorem results_cell_tmp_ {P : Program} {fn : Func} {p q : Tmp} {ty : TypeId} (h : fn.results = #[.cell p ty, .tmp q]) (tmps : Array Value) (w : World) (g : Nat) (t : TypeId) (cs : Array Value) (fr : Nat × Nat) (d : TypeDesc)
    (hp : tmps.getD p undef = .pointer (some ⟨g, 0, none⟩)) (hg : w.heap[g]? = some (.cells cs t fr))
    (hu : P.underlying ty = some d) (hd : (match d with | .struct _ | .array _ _ => true | _ => false) = true) (hi : (P.info? ty).map (·.size) = some cs.size) :
    (results fn tmps).run P w = .ok (.tuple #[.agg cs, tmps.getD q undef]) w := by
  have hp' : tmps[p]?.getD undef = .pointer (some ⟨g, 0, none⟩) := by simpa using hp
  simp [results, h, hp', asAddr, run_loadVar_row w g t ty cs fr d hg hu hd hi]
theorem infoReq : (Tryz.prog.info? 165).map (·.size) = some 12 := by kernel_rfl
theorem ReqRead_short (a : Option Addr) (n c : Nat) (hn : n < 2) (w : World) :
    Calls Tryz.prog 209 #[.slice a n c] w fun e w' => e = .returned (.tuple #[.agg #[.int .u8 0, .int .u8 0, .string ⟨#[]⟩, .int .i64 0, .int .i64 0, .int .i64 0, .int .i64 0, .int .i64 0, .int .i64 0, .int .i64 0, .int .i64 0, .slice none 0 0], .int .i64 341]) ∧ Below w.heap.size w w' := by
  have hnI : (n : Int) < 2 := by omega
  go_enter Tryz.func209, Tryz.ntmps209
  go_wp2_with fail
  go_step3
  go_wp2_with fail
  rw [Exit.noGoto_ret]
  refine bodyPost_ret (results_cell_tmp_ rfl _ _ w.heap.size _ _ _ _ rfl (World.alloc_heap_new _ _) Tryz.underlying165 rfl infoReq) rfl ⟨rfl, (Below.refl _ _).alloc (Nat.le_refl _) _⟩

def SlotAt (W : World) (B k : Nat) : Prop := W.heap[B]? = some (.cells #[.pointer none, .bool true, .int .i64 (k : Int), .int .i64 1, .int .i64 0, .pointer none] 236)
theorem SlotAt.cells {W : World} {B k : Nat} (h : SlotAt W B k) : W.cell? ⟨B, 0, none⟩ = some (.pointer none) ∧ W.cell? ⟨B, 1, none⟩ = some (.bool true) ∧ W.cell? ⟨B, 2, none⟩ = some (.int .i64 (k : Int)) ∧ W.cell? ⟨B, 3, none⟩ = some (.int .i64 1) ∧ W.cell? ⟨B, 4, none⟩ = some (.int .i64 0) ∧ W.cell? ⟨B, 5, none⟩ = some (.pointer none) ∧ W.frozen? ⟨B, 2, none⟩ = false := by
  have h' : W.heap[B]? = _ := h
  refine ⟨?_, ?_, ?_, ?_, ?_, ?_, ?_⟩ <;> first | simp [World.cell?, h'] | simp [World.frozen?, h']
theorem SlotAt.lt {W : World} {B k : Nat} (h : SlotAt W B k) : B < W.heap.size := (Array.getElem?_eq_some_iff.1 h).1
theorem SlotAt.below {W W' : World} {B k : Nat} (h : SlotAt W B k) (hb : Below W.heap.size W W') : SlotAt W' B k := (hb.block _ h.lt).trans h
theorem SlotAt.mod {S : Nat → Prop} {W W' : World} {B k : Nat} (h : SlotAt W B k) (hm : Mod S W W') (hB : ¬ S B) : SlotAt W' B k := hm.heap h hB
theorem SlotAt.set {W : World} {B k : Nat} (h : SlotAt W B k) : SlotAt (W.setCell ⟨B, 2, none⟩ (.int .i64 ((k : Int) + 1))) B (k + 1) := by
  have := heap_set_ h 2 (.int .i64 ((k : Int) + 1))
  simpa [SlotAt] using this
theorem none_no (B k : Nat) (W : World) (h : SlotAt W B k) : Calls Tryz.prog 145 #[.pointer (some ⟨B, 0, none⟩)] W fun e w' => e = .returned (.bool false) ∧ W = w' := by
  obtain ⟨c0, c1, c2, c3, c4, c5, -⟩ := h.cells
  go_enter Tryz.func145, Tryz.ntmps145
  go_wp2_with fail
  go_ret
  exact ⟨rfl, rfl⟩
theorem New_any (w : World) : Calls Tryz.prog 89 #[] w fun e w' => e = .returned (.pointer (some ⟨w.heap.size, 0, none⟩)) ∧ SlotAt w' w.heap.size 0 ∧ Below w.heap.size w w' := by
  go_enter Tryz.func89, Tryz.ntmps89
  go_wp2_with fail
  go_ret
  exact ⟨rfl, World.alloc_heap_new w _, (Below.refl _ _).alloc (Nat.le_refl _) _⟩
theorem R0At.mod {S : Nat → Prop} {W W' : World} {B n : Nat} (h : R0At W B n) (hm : Mod S W W') (hB : ¬ S B) : R0At W' B n := hm.heap h hB
theorem R0At.set {W : World} {B n : Nat} (h : R0At W B n) (k : Nat) : R0At (W.setCell ⟨B, 0, none⟩ (.int .i64 (k : Int))) B k := by
  have := heap_set_ h 0 (.int .i64 (k : Int))
  simpa [R0At] using this
theorem R0At.cool {W : World} {B n : Nat} (h : R0At W B n) : W.frozen? ⟨B, 0, none⟩ = false := by
  have h' : W.heap[B]? = _ := h
  simp [World.frozen?, h']
theorem R0At.new0 (W : World) : R0At (W.alloc (.cells #[.int .i64 0, .int .i64 341, .int .i64 0, .int .i64 0, .int .i64 0, .int .u8 0, .bool false, .int .i64 0, .int .i64 0, .int .i64 0, .slice none 0 0, .slice none 0 0, .slice none 0 0, .slice none 0 0, .slice none 0 0] 76)) W.heap.size 0 := World.alloc_heap_new W _
set_option maxHeartbeats 2000000 in
theorem answer_any (B k : Nat) (hk : k < 246) (W : World) (h : SlotAt W B k) :
    Calls Tryz.prog 210 #[.pointer (some ⟨B, 0, none⟩), .agg #[.int .i64 0, .int .i64 341, .int .i64 0, .int .i64 0, .int .i64 0, .int .u8 0, .bool false, .int .i64 0, .int .i64 0, .int .i64 0, .slice none 0 0, .slice none 0 0, .slice none 0 0, .slice none 0 0, .slice none 0 0]] W fun e w' => ∃ v, e = .returned (.tuple #[v, .bool true]) ∧ w'.ownsRow W.heap.size 5 1 v 9 (u8s (frameR (k + 1))) ∧ SlotAt w' B (k + 1) ∧ Mod (fun g => g = B) W w' := by
  have hw1 : IntKind.i64.wrap ((k : Int) + 1) = (k : Int) + 1 := by rw [IntKind.wrap_i64]; omega
  go_enter Tryz.func210, Tryz.ntmps210
  go_upto_region 1 with fail
  have hb1 : Below W.heap.size W (W.alloc (.cells #[.int .i64 0, .int .i64 341, .int .i64 0, .int .i64 0, .int .i64 0, .int .u8 0, .bool false, .int .i64 0, .int .i64 0, .int .i64 0, .slice none 0 0, .slice none 0 0, .slice none 0 0, .slice none 0 0, .slice none 0 0] 76)) := (Below.refl _ _).alloc (Nat.le_refl _) _
  have HS := Lib.hid (h.below hb1)
  have hR := R0At.new0 W
  have hm1 : Mod (fun g => g = B) W (W.alloc (.cells #[.int .i64 0, .int .i64 341, .int .i64 0, .int .i64 0, .int .i64 0, .int .u8 0, .bool false, .int .i64 0, .int .i64 0, .int .i64 0, .slice none 0 0, .slice none 0 0, .slice none 0 0, .slice none 0 0, .slice none 0 0] 76)) := (Mod.refl _ _).alloc _
  have hne : ¬ W.heap.size = B := fun e => by have := h.lt; omega
  have hne' : ¬ B = W.heap.size := fun e => hne e.symm
  generalize W.alloc (.cells #[.int .i64 0, .int .i64 341, .int .i64 0, .int .i64 0, .int .i64 0, .int .u8 0, .bool false, .int .i64 0, .int .i64 0, .int .i64 0, .slice none 0 0, .slice none 0 0, .slice none 0 0, .slice none 0 0, .slice none 0 0] 76) = W1 at *
  obtain ⟨c0, c1, c2, c3, c4, c5, cf⟩ := HS.out.cells
  have f0 := hR.cool
  generalize hX : W.heap.size = X at *
  go_upto_region 2 with fail
  have hm2 : Mod (fun g => g = B) W1 (W1.setCell ⟨B, 2, none⟩ (.int .i64 ((k : Int) + 1))) := (Mod.refl (fun g => g = B) W1).setCell (p := ⟨B, 2, none⟩) (.inr rfl) _
  have HS2 := Lib.hid HS.out.set
  have hR2 := hR.mod hm2 hne
  have hm12 := hm1.trans hm2
  clear c0 c1 c2 c3 c4 c5 cf f0 HS hR
  generalize W1.setCell ⟨B, 2, none⟩ (.int .i64 ((k : Int) + 1)) = W2 at *
  obtain ⟨c0, c1, c2, c3, c4, c5, cf⟩ := HS2.out.cells
  obtain ⟨d0, -⟩ := hR2.cells
  have f0 := hR2.cool
  rw [show ((k + 1 : Nat) : Int) = (k : Int) + 1 by simp] at c2
  go_upto_region 3 with fail
  have hc1 : ((k + 1 : Nat) : Int) = (k : Int) + 1 := by simp
  have HR3 := Lib.hid (hR2.set (k + 1))
  have hmx : Mod (fun g => g = X) W2 (W2.setCell ⟨X, 0, none⟩ (.int .i64 ((k : Int) + 1))) := (Mod.refl (fun g => g = X) W2).setCell (p := ⟨X, 0, none⟩) (.inr rfl) _
  have HS3 := Lib.hid (HS2.out.mod hmx hne')
  have HM3 := Lib.hid (hm12.setCell (p := ⟨X, 0, none⟩) (.inl (Nat.le_of_eq hX)) (.int .i64 ((k : Int) + 1)))
  rw [hc1] at HR3
  clear c0 c1 c2 c3 c4 c5 cf f0 d0 HS2 hR2 hm2 hm12 hm1 hmx
  generalize W2.setCell ⟨X, 0, none⟩ (.int .i64 ((k : Int) + 1)) = W3 at *
  obtain ⟨d0, d1, d2, d3, d4, d5, d6, d7, d8, d9, d10, d11, d12, d13, d14⟩ := HR3.out.cells
  rw [hc1] at d0
  have hX3 : X ≤ W3.heap.size := Nat.le_of_lt HR3.out.lt
  have hW := WriteResp_R0 (k + 1) (by omega) (by omega) W3
  rw [hc1] at hW
  have HW := Lib.hid hW
  clear hW
  go_wp2_with fail
  refine HW.out.mono ?_; rintro e W4 ⟨v, rfl, ho, hb4⟩
  have HO := Lib.hid (ownsRow_base ho hX3)
  have HS4 := Lib.hid (HS3.out.below hb4)
  have HM4 := Lib.hid (HM3.out.trans (Mod.of_same hb4))
  clear d0 d1 d2 d3 d4 d5 d6 d7 d8 d9 d10 d11 d12 d13 d14 ho hb4
  go_wp2_with fail
  go_ret2
  exact ⟨v, rfl, by first | exact HO.out | (rw [hX]; exact HO.out), HS4.out, HM4.out⟩

set_option maxHeartbeats 2000000 in
theorem Do_short (B k : Nat) (hk : k < 246) (W : World) (h : SlotAt W B k) (a : Option Addr) (n c : Nat) (hn : n < 2) :
    Calls Tryz.prog 164 #[.pointer (some ⟨B, 0, none⟩), .slice a n c] W fun e w' => ∃ v, e = .returned (.tuple #[v, .bool true]) ∧ w'.ownsRow W.heap.size 5 1 v 9 (u8s (frameR (k + 1))) ∧ SlotAt w' B (k + 1) ∧ Mod (fun g => g = B) W w' := by
  go_enter Tryz.func164, Tryz.ntmps164
  obtain ⟨c0, c1, c2, c3, c4, c5, -⟩ := h.cells
  have HS := Lib.hid h
  clear h
  go_wp2_with fail
  refine (none_no B k _ HS.out).mono ?_; rintro e w1 ⟨rfl, hy⟩
  subst hy
  go_wp2_with fail
  refine (ReqRead_short a n c hn _).mono ?_; rintro e W2 ⟨rfl, hb2⟩
  have HS2 := Lib.hid (HS.out.below hb2)
  have HM2 := Lib.hid (Mod.of_same (S := fun g => g = B) hb2)
  have hs2 := hb2.size
  clear c0 c1 c2 c3 c4 c5 hb2
  go_upto_region 4 with fail
  have hbz : Below W2.heap.size W2 (W2.alloc (.cells #[.int .u8 0, .int .u8 0, .string ⟨#[]⟩, .int .i64 0, .int .i64 0, .int .i64 0, .int .i64 0, .int .i64 0, .int .i64 0, .int .i64 0, .int .i64 0, .slice none 0 0] 165)) := (Below.refl _ _).alloc (Nat.le_refl _) _
  have HS3 := Lib.hid (HS2.out.below hbz)
  have HM3 := Lib.hid (HM2.out.trans (Mod.of_same hbz))
  have hs3 := Nat.le_trans hs2 hbz.size
  clear HS2 HM2 hs2 hbz HS
  generalize W2.alloc (.cells #[.int .u8 0, .int .u8 0, .string ⟨#[]⟩, .int .i64 0, .int .i64 0, .int .i64 0, .int .i64 0, .int .i64 0, .int .i64 0, .int .i64 0, .int .i64 0, .slice none 0 0] 165) = W3 at *
  generalize W2.heap.size = Y at *
  go_wp2_with fail
  refine (answer_any B k hk W3 HS3.out).mono ?_; rintro e W4 ⟨v, rfl, ho, hs4, hm4⟩
  have HO := Lib.hid (ownsRow_base ho hs3)
  have HS4 := Lib.hid hs4
  have HM4 := Lib.hid (HM3.out.trans hm4)
  clear ho hs4 hm4
  go_wp2_with fail
  go_ret2
  exact ⟨v, rfl, HO.out, HS4.out, HM4.out⟩
theorem Begin_short (B k : Nat) (hk : k < 246) (W : World) (h : SlotAt W B k) (a : Option Addr) (n c : Nat) (hn : n < 2) :
    Calls Tryz.prog 119 #[.agg #[.pointer (some ⟨B, 0, none⟩)], .slice a n c] W fun e w' => ∃ v, e = .returned (.tuple #[v, .bool true]) ∧ w'.ownsRow W.heap.size 5 1 v 9 (u8s (frameR (k + 1))) ∧ SlotAt w' B (k + 1) ∧ Mod (fun g => g = B) W w' := by
  go_enter Tryz.func119, Tryz.ntmps119
  have HS := Lib.hid h
  clear h
  go_wp2_with fail
  have hbz : Below W.heap.size W (W.alloc (.cells #[.pointer (some ⟨B, 0, none⟩)] 147)) := (Below.refl _ _).alloc (Nat.le_refl _) _
  have HS3 := Lib.hid (HS.out.below hbz)
  have HM3 := Lib.hid (Mod.of_same (S := fun g => g = B) hbz)
  have hs3 := hbz.size
  clear hbz HS
  generalize W.alloc (.cells #[.pointer (some ⟨B, 0, none⟩)] 147) = W3 at *
  generalize hY : W.heap.size = Y at *
  refine (Do_short B k hk W3 HS3.out a n c hn).mono ?_; rintro e W4 ⟨v, rfl, ho, hs4, hm4⟩
  have HO := Lib.hid (ownsRow_base ho hs3)
  have HS4 := Lib.hid hs4
  have HM4 := Lib.hid (HM3.out.trans hm4)
  clear ho hs4 hm4
  go_wp2_with fail
  go_ret2
  exact ⟨v, rfl, by first | exact HO.out | (rw [hY]; exact HO.out), HS4.out, HM4.out⟩
end Resp
end Go.Proofs.YtdfmgneicdpjmaaGreat
