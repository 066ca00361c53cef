import Derived.Test.YtdfmgneicdpjmaaGreatM04
import Derived.Handy
/- response.values, response.bytes, response.Write at Response{Number: n, Code: 341}. -/
namespace Go.Proofs.YtdfmgneicdpjmaaGreat
open Go.RowKit Go.Shelf
set_option linter.unusedVariables false
set_option linter.unusedSimpArgs false
set_option maxRecDepth 100000
namespace Resp

theorem reads_nil_ (k : IntKind) (W : World) : Reads k W (.slice none 0 0) [] := .inl ⟨none, 0, rfl, rfl⟩
theorem R0At.ten {W : World} {B n : Nat} (h : R0At W B n) : W.cell? ⟨B, 0, none⟩ = some (.int .i64 (n : Int)) ∧ W.cell? ⟨B, 1, none⟩ = some (.int .i64 341) ∧ W.cell? ⟨B, 2, none⟩ = some (.int .i64 0) ∧ W.cell? ⟨B, 3, none⟩ = some (.int .i64 0) ∧ W.cell? ⟨B, 4, none⟩ = some (.int .i64 0) ∧ W.cell? ⟨B, 5, none⟩ = some (.int .u8 0) ∧ W.cell? ⟨B, 7, none⟩ = some (.int .i64 0) ∧ W.cell? ⟨B, 8, none⟩ = some (.int .i64 0) ∧ W.cell? ⟨B, 9, none⟩ = some (.int .i64 0) ∧ W.cell? ⟨B, 10, none⟩ = some (.slice none 0 0) := by
  obtain ⟨d0, d1, d2, d3, d4, d5, d6, d7, d8, d9, d10, d11, d12, d13, d14⟩ := h.cells
  exact ⟨d0, d1, d2, d3, d4, d5, d7, d8, d9, d10⟩
theorem R0At.new (W : World) (n : Nat) : R0At (W.alloc (.cells #[.int .i64 (n : Int), .int .i64 341, .int .i64 0, .int .i64 0, .int .i64 0, .int .u8 0, .bool false, .int .i64 0, .int .i64 0, .int .i64 0, .slice none 0 0, .slice none 0 0, .slice none 0 0, .slice none 0 0, .slice none 0 0] 76)) W.heap.size n := World.alloc_heap_new W _
theorem reads_seven_ (W : World) : Reads .i64 (W.alloc (.cells #[.int .i64 341, .int .i64 0, .int .i64 0, .int .i64 0, .int .i64 0, .int .i64 0, .int .i64 0] 3)) (.slice (some ⟨W.heap.size, 0, none⟩) 7 7) [341, 0, 0, 0, 0, 0, 0] :=
  Reads.of_owns (base := 0) (World.ownsRow_lit W #[.int .i64 341, .int .i64 0, .int .i64 0, .int .i64 0, .int .i64 0, .int .i64 0, .int .i64 0] 7 (Nat.zero_le _) (by unfold maxLen; omega) rfl)
set_option maxHeartbeats 2000000 in
theorem values_R0 (n : Nat) (hn1 : 1 ≤ n) (hn2 : n ≤ 246) (w : World) :
    Calls Tryz.prog 179 #[.agg #[.int .i64 (n : Int), .int .i64 341, .int .i64 0, .int .i64 0, .int .i64 0, .int .u8 0, .bool false, .int .i64 0, .int .i64 0, .int .i64 0, .slice none 0 0, .slice none 0 0, .slice none 0 0, .slice none 0 0, .slice none 0 0]] w fun e w' => e = .returned (.bool true) ∧ Below w.heap.size w w' := by
  go_enter Tryz.func179, Tryz.ntmps179
  have hb1 : Below w.heap.size w (w.alloc (.cells #[.int .i64 (n : Int), .int .i64 341, .int .i64 0, .int .i64 0, .int .i64 0, .int .u8 0, .bool false, .int .i64 0, .int .i64 0, .int .i64 0, .slice none 0 0, .slice none 0 0, .slice none 0 0, .slice none 0 0, .slice none 0 0] 76)) := (Below.refl _ _).alloc (Nat.le_refl _) _
  have HR := Lib.hid (R0At.new w n)
  have c1 : decide ((n : Int) < 1) = false := by simp; omega
  have c2 : decide ((n : Int) > 281474976710656) = false := by simp; omega
  have c3 : ¬ (n : Int) < 1 := by omega
  have c4 : ¬ (n : Int) > 281474976710656 := by omega
  have c5 : ¬ 281474976710656 < (n : Int) := by omega
  have c6 : decide (281474976710656 < (n : Int)) = false := by simp; omega
  go_upto_region 1 with fail
  generalize w.alloc (.cells #[.int .i64 (n : Int), .int .i64 341, .int .i64 0, .int .i64 0, .int .i64 0, .int .u8 0, .bool false, .int .i64 0, .int .i64 0, .int .i64 0, .slice none 0 0, .slice none 0 0, .slice none 0 0, .slice none 0 0, .slice none 0 0] 76) = W1 at *
  generalize hB : w.heap.size = B at *
  obtain ⟨d0, d1, d2, d3, d4, d5, d6, d7, d8, d9, d10, d11, d12, d13, d14⟩ := HR.out.cells
  have HB1 := Lib.hid hb1
  clear hb1
  go_wp2_with fail
  refine (right_yes _ [341, 0, 0, 0, 0, 0, 0] _ (reads_seven_ W1) (by simp) (by simp)).mono ?_; rintro e y1 ⟨rfl, hy⟩
  subst hy
  have hbx : Below W1.heap.size W1 (W1.alloc (.cells #[.int .i64 341, .int .i64 0, .int .i64 0, .int .i64 0, .int .i64 0, .int .i64 0, .int .i64 0] 3)) := (Below.refl _ _).alloc (Nat.le_refl _) _
  have HR2 := Lib.hid (HR.out.below hbx)
  have HB2 := Lib.hid (HB1.out.trans (hbx.mono (Nat.le_of_lt HR.out.lt)))
  clear d0 d1 d2 d3 d4 d5 d6 d7 d8 d9 d10 d11 d12 d13 d14 hbx HB1 HR
  generalize (W1.alloc (.cells #[.int .i64 341, .int .i64 0, .int .i64 0, .int .i64 0, .int .i64 0, .int .i64 0, .int .i64 0] 3)) = W2 at *
  generalize W1.heap.size = X at *
  obtain ⟨d0, d1, d2, d3, d4, d5, d6, d7, d8, d9, d10, d11, d12, d13, d14⟩ := HR2.out.cells
  go_wp2_with fail
  refine (right_yes _ [] _ (reads_nil_ _ _) (by decide) (by simp)).mono ?_; rintro e y2 ⟨rfl, hy⟩
  subst hy
  go_wp2_with fail
  go_loopw [81] (fun i wr => i = .int .i64 0 ∧ wr = W2) (fun _ _ => 0)
  case atStart => exact ⟨rfl, rfl⟩
  case round =>
    obtain ⟨rfl, rfl⟩ := hrel
    go_wp2_with fail
    go_loopw [103] (fun i wr2 => i = .int .i64 0 ∧ wr2 = wr) (fun _ _ => 0)
    case atStart => exact ⟨rfl, rfl⟩
    case round =>
      obtain ⟨rfl, rfl⟩ := hrel
      go_wp2_with fail
      go_loopw [124] (fun i wr3 => i = .int .i64 0 ∧ wr3 = wr) (fun _ _ => 0)
      case atStart => exact ⟨rfl, rfl⟩
      case round =>
        obtain ⟨rfl, rfl⟩ := hrel
        go_wp2_with fail
        go_ret
        exact ⟨rfl, by rw [hB]; exact HB2.out⟩

def bodyR (n : Nat) : List Int := [1, 1, (n : Int), 3, 3, 248, 1, 85]
theorem flat_R (n : Nat) (v1 v2 : Value) : flat [(1, v1, [(n : Int)]), (3, v2, [248, 1, 85])] = bodyR n := by
  simp [flat, fieldBytes, numBytes, bodyR]
set_option maxHeartbeats 2000000 in
theorem bytes_R0 (n : Nat) (hn1 : 1 ≤ n) (hn2 : n ≤ 246) (w : World) :
    Calls Tryz.prog 140 #[.agg #[.int .i64 (n : Int), .int .i64 341, .int .i64 0, .int .i64 0, .int .i64 0, .int .u8 0, .bool false, .int .i64 0, .int .i64 0, .int .i64 0, .slice none 0 0, .slice none 0 0, .slice none 0 0, .slice none 0 0, .slice none 0 0]] w fun e w' => ∃ v, e = .returned (.tuple #[v, .bool true]) ∧ w'.ownsRow w.heap.size 5 1 v 8 (u8s (bodyR n)) ∧ Below w.heap.size w w' := by
  go_enter Tryz.func140, Tryz.ntmps140
  have hb1 : Below w.heap.size w (w.alloc (.cells #[.int .i64 (n : Int), .int .i64 341, .int .i64 0, .int .i64 0, .int .i64 0, .int .u8 0, .bool false, .int .i64 0, .int .i64 0, .int .i64 0, .slice none 0 0, .slice none 0 0, .slice none 0 0, .slice none 0 0, .slice none 0 0] 76)) := (Below.refl _ _).alloc (Nat.le_refl _) _
  have HR := Lib.hid (R0At.new w n)
  go_upto_region 1 with fail
  generalize w.alloc (.cells #[.int .i64 (n : Int), .int .i64 341, .int .i64 0, .int .i64 0, .int .i64 0, .int .u8 0, .bool false, .int .i64 0, .int .i64 0, .int .i64 0, .slice none 0 0, .slice none 0 0, .slice none 0 0, .slice none 0 0, .slice none 0 0] 76) = W1 at *
  generalize hB : w.heap.size = B at *
  obtain ⟨d0, d1, d2, d3, d4, d5, d6, d7, d8, d9, d10, d11, d12, d13, d14⟩ := HR.out.cells
  have HB1 := Lib.hid hb1
  clear hb1
  go_wp2_with fail
  refine (values_R0 n hn1 hn2 _).mono ?_; rintro e W2 ⟨rfl, hb2⟩
  have HR2 := Lib.hid (HR.out.below hb2)
  have HB2 := Lib.hid (HB1.out.trans (hb2.mono (Nat.le_of_lt HR.out.lt)))
  clear d0 d1 d2 d3 d4 d5 d6 d7 d8 d9 d10 d11 d12 d13 d14 hb2 HR HB1
  obtain ⟨d0, d1, d2, d3, d4, d5, d6, d7, d8, d9, d10, d11, d12, d13, d14⟩ := HR2.out.cells
  go_wp2_with fail
  refine (fields_R0 n hn1 hn2 _).mono ?_; rintro e W3 ⟨v, v1, v2, rfl, hf3, hb3⟩
  have hBW2 : B ≤ W2.heap.size := Nat.le_of_lt HR2.out.lt
  have HB3 := Lib.hid (HB2.out.trans (hb3.mono hBW2))
  have hBW3 : B ≤ W3.heap.size := Nat.le_trans hBW2 hb3.size
  have HF3 := Lib.hid hf3
  clear d0 d1 d2 d3 d4 d5 d6 d7 d8 d9 d10 d11 d12 d13 d14 hb3 hf3 HR2 HB2
  go_wp2_with fail
  refine (Write_yes v _ _ HF3.out.reads (by simp) (by simp [rightL]) (by simp)).mono ?_; rintro e W4 ⟨v4, rfl, ho4, hb4⟩
  rw [flat_R] at ho4
  obtain ⟨a4, c4, e4⟩ := ownsRow_form ho4
  subst e4
  have HO4 := Lib.hid (ownsRow_base ho4 hBW3)
  have HB4 := Lib.hid (HB3.out.trans (hb4.mono hBW3))
  have hl8 : (bodyR n).length = 8 := rfl
  rw [hl8] at *
  clear ho4 hb4
  go_wp2_with fail
  go_ret2
  exact ⟨_, rfl, by rw [hB]; exact HO4.out, by rw [hB]; exact HB4.out⟩
def frameR (n : Nat) : List Int := 1 :: bodyR n
set_option maxHeartbeats 2000000 in
theorem WriteResp_R0 (n : Nat) (hn1 : 1 ≤ n) (hn2 : n ≤ 246) (w : World) :
    Calls Tryz.prog 87 #[.agg #[.int .i64 (n : Int), .int .i64 341, .int .i64 0, .int .i64 0, .int .i64 0, .int .u8 0, .bool false, .int .i64 0, .int .i64 0, .int .i64 0, .slice none 0 0, .slice none 0 0, .slice none 0 0, .slice none 0 0, .slice none 0 0]] w fun e w' => ∃ v, e = .returned (.tuple #[v, .int .i64 0]) ∧ w'.ownsRow w.heap.size 5 1 v 9 (u8s (frameR n)) ∧ Below w.heap.size w w' := by
  obtain ⟨i0, hi, hz0, hz1, hz2⟩ := info_parts infoByte
  go_enter Tryz.func87, Tryz.ntmps87
  have hb1 : Below w.heap.size w (w.alloc (.cells #[.int .i64 (n : Int), .int .i64 341, .int .i64 0, .int .i64 0, .int .i64 0, .int .u8 0, .bool false, .int .i64 0, .int .i64 0, .int .i64 0, .slice none 0 0, .slice none 0 0, .slice none 0 0, .slice none 0 0, .slice none 0 0] 76)) := (Below.refl _ _).alloc (Nat.le_refl _) _
  have HR := Lib.hid (R0At.new w n)
  go_upto_region 1 with fail
  generalize w.alloc (.cells #[.int .i64 (n : Int), .int .i64 341, .int .i64 0, .int .i64 0, .int .i64 0, .int .u8 0, .bool false, .int .i64 0, .int .i64 0, .int .i64 0, .slice none 0 0, .slice none 0 0, .slice none 0 0, .slice none 0 0, .slice none 0 0] 76) = W1 at *
  generalize hB : w.heap.size = B at *
  obtain ⟨d0, d1, d2, d3, d4, d5, d6, d7, d8, d9, d10, d11, d12, d13, d14⟩ := HR.out.cells
  have HB1 := Lib.hid hb1
  clear hb1
  go_wp2_with fail
  refine (bytes_R0 n hn1 hn2 _).mono ?_; rintro e W2 ⟨v2, rfl, ho2, hb2⟩
  have hn2' : ∃ ad c, v2 = .slice (some ad) 8 c ∧ ad.block < W2.heap.size ∧ ∀ (w' : World), Below W2.heap.size W2 w' → ∀ (j : Nat) (u : Value), (u8s (bodyR n))[j]? = some u → w'.cell? (ad.add j) = some u := Reads.lies_ (zs := bodyR n) (Reads.of_owns ho2) (by simp [bodyR])
  obtain ⟨a2, c2, e2, -, hnw⟩ := hn2'
  subst e2
  have HNW := Lib.hid hnw
  clear hnw
  have hB1 : B ≤ W1.heap.size := Nat.le_of_lt HR.out.lt
  have HB2 := Lib.hid (HB1.out.trans (hb2.mono hB1))
  have HO2 := Lib.hid ho2
  have hB2 : B ≤ W2.heap.size := Nat.le_trans hB1 hb2.size
  clear d0 d1 d2 d3 d4 d5 d6 d7 d8 d9 d10 d11 d12 d13 d14 hb2 ho2 HR HB1
  go_wp2_with (at_builtin; refine wpList_append_own _ rfl _ _ 25 rfl B 5 i0 (.int .u8 0) 1 1 Tryz.underlying25 hi hz0 hz1 hz2 rfl (by decide) _ _ _ rfl (World.ownsRow_lit W2 #[.int .u8 1] 1 hB2 (by unfold maxLen; omega) rfl) a2 8 c2 (u8s (bodyR n)) rfl rfl (HNW.out _ ((Below.refl _ _).alloc (Nat.le_refl _) _)) (u8s_one _) (by unfold maxLen; omega) (by omega) (by simp; omega) ?_; intro v' w5 hown' hgrow hat; obtain ⟨g, c, e⟩ := owns_form_pos_ hown' (by simp); subst e; have HOWN := Lib.hid hown'; have HG := Lib.hid hgrow; clear hown' hgrow hat)
  go_ret2
  have hm5 : Mod (fun k => some k = (Value.slice (some ⟨W2.heap.size, 0, none⟩) 1 1).ownBlock) W2 w5 := ((Mod.refl _ W2).alloc _).trans (Mod.of_grownBy HG.out)
  exact ⟨.slice (some ⟨g, 0, none⟩) 9 c, rfl, by first | exact HOWN.out | (rw [hB]; exact HOWN.out), by first | (rw [hB]; exact HB2.out.trans (hm5.below hB2 (fun k hk e => by simp [Value.ownBlock] at e; omega))) | exact HB2.out.trans (hm5.below hB2 (fun k hk e => by simp [Value.ownBlock] at e; omega))⟩
end Resp
end Go.Proofs.YtdfmgneicdpjmaaGreat

/- A slot without a life: what it answers a frame that is no request. -/
namespace Go.Proofs.YtdfmgneicdpjmaaGreat
open Go.RowKit Go.Shelf
set_option linter.unusedVariables false
set_option linter.unusedSimpArgs false
set_option maxRecDepth 100000
namespace Resp

theorem results_cell_tmp_ {P : Program} {fn : Func} {p q : Tmp} {ty : TypeId} (h : fn.results = #[.cell p ty, .tmp q]) (tmps : Array Value) (w : World) (g : Nat) (t : TypeId) (cs : Array Value) (fr : Nat × Nat) (d : TypeDesc)
    (hp : tmps.getD p undef = .pointer (some ⟨g, 0, none⟩)) (hg : w.heap[g]? = some (.cells cs t fr))
    (hu : P.underlying ty = some d) (hd : (match d with | .struct _ | .array _ _ => true | _ => false) = true) (hi : (P.info? ty).map (·.size) = some cs.size) :
    (results fn tmps).run P w = .ok (.tuple #[.agg cs, tmps.getD q undef]) w := by
  have hp' : tmps[p]?.getD undef = .pointer (some ⟨g, 0, none⟩) := by simpa using hp
  simp [results, h, hp', asAddr, run_loadVar_row w g t ty cs fr d hg hu hd hi]
theorem infoReq : (Tryz.prog.info? 165).map (·.size) = some 12 := by kernel_rfl
theorem ReqRead_short (a : Option Addr) (n c : Nat) (hn : n < 2) (w : World) :
    Calls Tryz.prog 209 #[.slice a n c] w fun e w' => e = .returned (.tuple #[.agg #[.int .u8 0, .int .u8 0, .string ⟨#[]⟩, .int .i64 0, .int .i64 0, .int .i64 0, .int .i64 0, .int .i64 0, .int .i64 0, .int .i64 0, .int .i64 0, .slice none 0 0], .int .i64 341]) ∧ Below w.heap.size w w' := by
  have hnI : (n : Int) < 2 := by omega
  go_enter Tryz.func209, Tryz.ntmps209
  go_wp2_with fail
  go_step3
  go_wp2_with fail
  rw [Exit.noGoto_ret]
  refine bodyPost_ret (results_cell_tmp_ rfl _ _ w.heap.size _ _ _ _ rfl (World.alloc_heap_new _ _) Tryz.underlying165 rfl infoReq) rfl ⟨rfl, (Below.refl _ _).alloc (Nat.le_refl _) _⟩

def SlotAt (W : World) (B k : Nat) : Prop := W.heap[B]? = some (.cells #[.pointer none, .bool true, .int .i64 (k : Int), .int .i64 1, .int .i64 0, .pointer none] 236)
theorem SlotAt.cells {W : World} {B k : Nat} (h : SlotAt W B k) : W.cell? ⟨B, 0, none⟩ = some (.pointer none) ∧ W.cell? ⟨B, 1, none⟩ = some (.bool true) ∧ W.cell? ⟨B, 2, none⟩ = some (.int .i64 (k : Int)) ∧ W.cell? ⟨B, 3, none⟩ = some (.int .i64 1) ∧ W.cell? ⟨B, 4, none⟩ = some (.int .i64 0) ∧ W.cell? ⟨B, 5, none⟩ = some (.pointer none) ∧ W.frozen? ⟨B, 2, none⟩ = false := by
  have h' : W.heap[B]? = _ := h
  refine ⟨?_, ?_, ?_, ?_, ?_, ?_, ?_⟩ <;> first | simp [World.cell?, h'] | simp [World.frozen?, h']
theorem SlotAt.lt {W : World} {B k : Nat} (h : SlotAt W B k) : B < W.heap.size := (Array.getElem?_eq_some_iff.1 h).1
theorem SlotAt.below {W W' : World} {B k : Nat} (h : SlotAt W B k) (hb : Below W.heap.size W W') : SlotAt W' B k := (hb.block _ h.lt).trans h
theorem SlotAt.mod {S : Nat → Prop} {W W' : World} {B k : Nat} (h : SlotAt W B k) (hm : Mod S W W') (hB : ¬ S B) : SlotAt W' B k := hm.heap h hB
theorem SlotAt.set {W : World} {B k : Nat} (h : SlotAt W B k) : SlotAt (W.setCell ⟨B, 2, none⟩ (.int .i64 ((k : Int) + 1))) B (k + 1) := by
  have := heap_set_ h 2 (.int .i64 ((k : Int) + 1))
  simpa [SlotAt] using this
theorem none_no (B k : Nat) (W : World) (h : SlotAt W B k) : Calls Tryz.prog 145 #[.pointer (some ⟨B, 0, none⟩)] W fun e w' => e = .returned (.bool false) ∧ W = w' := by
  obtain ⟨c0, c1, c2, c3, c4, c5, -⟩ := h.cells
  go_enter Tryz.func145, Tryz.ntmps145
  go_wp2_with fail
  go_ret
  exact ⟨rfl, rfl⟩
theorem New_any (w : World) : Calls Tryz.prog 89 #[] w fun e w' => e = .returned (.pointer (some ⟨w.heap.size, 0, none⟩)) ∧ SlotAt w' w.heap.size 0 ∧ Below w.heap.size w w' := by
  go_enter Tryz.func89, Tryz.ntmps89
  go_wp2_with fail
  go_ret
  exact ⟨rfl, World.alloc_heap_new w _, (Below.refl _ _).alloc (Nat.le_refl _) _⟩
theorem R0At.mod {S : Nat → Prop} {W W' : World} {B n : Nat} (h : R0At W B n) (hm : Mod S W W') (hB : ¬ S B) : R0At W' B n := hm.heap h hB
theorem R0At.set {W : World} {B n : Nat} (h : R0At W B n) (k : Nat) : R0At (W.setCell ⟨B, 0, none⟩ (.int .i64 (k : Int))) B k := by
  have := heap_set_ h 0 (.int .i64 (k : Int))
  simpa [R0At] using this
theorem R0At.cool {W : World} {B n : Nat} (h : R0At W B n) : W.frozen? ⟨B, 0, none⟩ = false := by
  have h' : W.heap[B]? = _ := h
  simp [World.frozen?, h']
theorem R0At.new0 (W : World) : R0At (W.alloc (.cells #[.int .i64 0, .int .i64 341, .int .i64 0, .int .i64 0, .int .i64 0, .int .u8 0, .bool false, .int .i64 0, .int .i64 0, .int .i64 0, .slice none 0 0, .slice none 0 0, .slice none 0 0, .slice none 0 0, .slice none 0 0] 76)) W.heap.size 0 := World.alloc_heap_new W _
set_option maxHeartbeats 2000000 in
theorem answer_any (B k : Nat) (hk : k < 246) (W : World) (h : SlotAt W B k) :
    Calls Tryz.prog 210 #[.pointer (some ⟨B, 0, none⟩), .agg #[.int .i64 0, .int .i64 341, .int .i64 0, .int .i64 0, .int .i64 0, .int .u8 0, .bool false, .int .i64 0, .int .i64 0, .int .i64 0, .slice none 0 0, .slice none 0 0, .slice none 0 0, .slice none 0 0, .slice none 0 0]] W fun e w' => ∃ v, e = .returned (.tuple #[v, .bool true]) ∧ w'.ownsRow W.heap.size 5 1 v 9 (u8s (frameR (k + 1))) ∧ SlotAt w' B (k + 1) ∧ Mod (fun g => g = B) W w' := by
  have hw1 : IntKind.i64.wrap ((k : Int) + 1) = (k : Int) + 1 := by rw [IntKind.wrap_i64]; omega
  go_enter Tryz.func210, Tryz.ntmps210
  go_upto_region 1 with fail
  have hb1 : Below W.heap.size W (W.alloc (.cells #[.int .i64 0, .int .i64 341, .int .i64 0, .int .i64 0, .int .i64 0, .int .u8 0, .bool false, .int .i64 0, .int .i64 0, .int .i64 0, .slice none 0 0, .slice none 0 0, .slice none 0 0, .slice none 0 0, .slice none 0 0] 76)) := (Below.refl _ _).alloc (Nat.le_refl _) _
  have HS := Lib.hid (h.below hb1)
  have hR := R0At.new0 W
  have hm1 : Mod (fun g => g = B) W (W.alloc (.cells #[.int .i64 0, .int .i64 341, .int .i64 0, .int .i64 0, .int .i64 0, .int .u8 0, .bool false, .int .i64 0, .int .i64 0, .int .i64 0, .slice none 0 0, .slice none 0 0, .slice none 0 0, .slice none 0 0, .slice none 0 0] 76)) := (Mod.refl _ _).alloc _
  have hne : ¬ W.heap.size = B := fun e => by have := h.lt; omega
  have hne' : ¬ B = W.heap.size := fun e => hne e.symm
  generalize W.alloc (.cells #[.int .i64 0, .int .i64 341, .int .i64 0, .int .i64 0, .int .i64 0, .int .u8 0, .bool false, .int .i64 0, .int .i64 0, .int .i64 0, .slice none 0 0, .slice none 0 0, .slice none 0 0, .slice none 0 0, .slice none 0 0] 76) = W1 at *
  obtain ⟨c0, c1, c2, c3, c4, c5, cf⟩ := HS.out.cells
  have f0 := hR.cool
  generalize hX : W.heap.size = X at *
  go_upto_region 2 with fail
  have hm2 : Mod (fun g => g = B) W1 (W1.setCell ⟨B, 2, none⟩ (.int .i64 ((k : Int) + 1))) := (Mod.refl (fun g => g = B) W1).setCell (p := ⟨B, 2, none⟩) (.inr rfl) _
  have HS2 := Lib.hid HS.out.set
  have hR2 := hR.mod hm2 hne
  have hm12 := hm1.trans hm2
  clear c0 c1 c2 c3 c4 c5 cf f0 HS hR
  generalize W1.setCell ⟨B, 2, none⟩ (.int .i64 ((k : Int) + 1)) = W2 at *
  obtain ⟨c0, c1, c2, c3, c4, c5, cf⟩ := HS2.out.cells
  obtain ⟨d0, -⟩ := hR2.cells
  have f0 := hR2.cool
  rw [show ((k + 1 : Nat) : Int) = (k : Int) + 1 by simp] at c2
  go_upto_region 3 with fail
  have hc1 : ((k + 1 : Nat) : Int) = (k : Int) + 1 := by simp
  have HR3 := Lib.hid (hR2.set (k + 1))
  have hmx : Mod (fun g => g = X) W2 (W2.setCell ⟨X, 0, none⟩ (.int .i64 ((k : Int) + 1))) := (Mod.refl (fun g => g = X) W2).setCell (p := ⟨X, 0, none⟩) (.inr rfl) _
  have HS3 := Lib.hid (HS2.out.mod hmx hne')
  have HM3 := Lib.hid (hm12.setCell (p := ⟨X, 0, none⟩) (.inl (Nat.le_of_eq hX)) (.int .i64 ((k : Int) + 1)))
  rw [hc1] at HR3
  clear c0 c1 c2 c3 c4 c5 cf f0 d0 HS2 hR2 hm2 hm12 hm1 hmx
  generalize W2.setCell ⟨X, 0, none⟩ (.int .i64 ((k : Int) + 1)) = W3 at *
  obtain ⟨d0, d1, d2, d3, d4, d5, d6, d7, d8, d9, d10, d11, d12, d13, d14⟩ := HR3.out.cells
  rw [hc1] at d0
  have hX3 : X ≤ W3.heap.size := Nat.le_of_lt HR3.out.lt
  have hW := WriteResp_R0 (k + 1) (by omega) (by omega) W3
  rw [hc1] at hW
  have HW := Lib.hid hW
  clear hW
  go_wp2_with fail
  refine HW.out.mono ?_; rintro e W4 ⟨v, rfl, ho, hb4⟩
  have HO := Lib.hid (ownsRow_base ho hX3)
  have HS4 := Lib.hid (HS3.out.below hb4)
  have HM4 := Lib.hid (HM3.out.trans (Mod.of_same hb4))
  clear d0 d1 d2 d3 d4 d5 d6 d7 d8 d9 d10 d11 d12 d13 d14 ho hb4
  go_wp2_with fail
  go_ret2
  exact ⟨v, rfl, by first | exact HO.out | (rw [hX]; exact HO.out), HS4.out, HM4.out⟩

set_option maxHeartbeats 2000000 in
theorem Do_short (B k : Nat) (hk : k < 246) (W : World) (h : SlotAt W B k) (a : Option Addr) (n c : Nat) (hn : n < 2) :
    Calls Tryz.prog 164 #[.pointer (some ⟨B, 0, none⟩), .slice a n c] W fun e w' => ∃ v, e = .returned (.tuple #[v, .bool true]) ∧ w'.ownsRow W.heap.size 5 1 v 9 (u8s (frameR (k + 1))) ∧ SlotAt w' B (k + 1) ∧ Mod (fun g => g = B) W w' := by
  go_enter Tryz.func164, Tryz.ntmps164
  obtain ⟨c0, c1, c2, c3, c4, c5, -⟩ := h.cells
  have HS := Lib.hid h
  clear h
  go_wp2_with fail
  refine (none_no B k _ HS.out).mono ?_; rintro e w1 ⟨rfl, hy⟩
  subst hy
  go_wp2_with fail
  refine (ReqRead_short a n c hn _).mono ?_; rintro e W2 ⟨rfl, hb2⟩
  have HS2 := Lib.hid (HS.out.below hb2)
  have HM2 := Lib.hid (Mod.of_same (S := fun g => g = B) hb2)
  have hs2 := hb2.size
  clear c0 c1 c2 c3 c4 c5 hb2
  go_upto_region 4 with fail
  have hbz : Below W2.heap.size W2 (W2.alloc (.cells #[.int .u8 0, .int .u8 0, .string ⟨#[]⟩, .int .i64 0, .int .i64 0, .int .i64 0, .int .i64 0, .int .i64 0, .int .i64 0, .int .i64 0, .int .i64 0, .slice none 0 0] 165)) := (Below.refl _ _).alloc (Nat.le_refl _) _
  have HS3 := Lib.hid (HS2.out.below hbz)
  have HM3 := Lib.hid (HM2.out.trans (Mod.of_same hbz))
  have hs3 := Nat.le_trans hs2 hbz.size
  clear HS2 HM2 hs2 hbz HS
  generalize W2.alloc (.cells #[.int .u8 0, .int .u8 0, .string ⟨#[]⟩, .int .i64 0, .int .i64 0, .int .i64 0, .int .i64 0, .int .i64 0, .int .i64 0, .int .i64 0, .int .i64 0, .slice none 0 0] 165) = W3 at *
  generalize W2.heap.size = Y at *
  go_wp2_with fail
  refine (answer_any B k hk W3 HS3.out).mono ?_; rintro e W4 ⟨v, rfl, ho, hs4, hm4⟩
  have HO := Lib.hid (ownsRow_base ho hs3)
  have HS4 := Lib.hid hs4
  have HM4 := Lib.hid (HM3.out.trans hm4)
  clear ho hs4 hm4
  go_wp2_with fail
  go_ret2
  exact ⟨v, rfl, HO.out, HS4.out, HM4.out⟩
theorem Begin_short (B k : Nat) (hk : k < 246) (W : World) (h : SlotAt W B k) (a : Option Addr) (n c : Nat) (hn : n < 2) :
    Calls Tryz.prog 119 #[.agg #[.pointer (some ⟨B, 0, none⟩)], .slice a n c] W fun e w' => ∃ v, e = .returned (.tuple #[v, .bool true]) ∧ w'.ownsRow W.heap.size 5 1 v 9 (u8s (frameR (k + 1))) ∧ SlotAt w' B (k + 1) ∧ Mod (fun g => g = B) W w' := by
  go_enter Tryz.func119, Tryz.ntmps119
  have HS := Lib.hid h
  clear h
  go_wp2_with fail
  have hbz : Below W.heap.size W (W.alloc (.cells #[.pointer (some ⟨B, 0, none⟩)] 147)) := (Below.refl _ _).alloc (Nat.le_refl _) _
  have HS3 := Lib.hid (HS.out.below hbz)
  have HM3 := Lib.hid (Mod.of_same (S := fun g => g = B) hbz)
  have hs3 := hbz.size
  clear hbz HS
  generalize W.alloc (.cells #[.pointer (some ⟨B, 0, none⟩)] 147) = W3 at *
  generalize hY : W.heap.size = Y at *
  refine (Do_short B k hk W3 HS3.out a n c hn).mono ?_; rintro e W4 ⟨v, rfl, ho, hs4, hm4⟩
  have HO := Lib.hid (ownsRow_base ho hs3)
  have HS4 := Lib.hid hs4
  have HM4 := Lib.hid (HM3.out.trans hm4)
  clear ho hs4 hm4
  go_wp2_with fail
  go_ret2
  exact ⟨v, rfl, by first | exact HO.out | (rw [hY]; exact HO.out), HS4.out, HM4.out⟩
end Resp
end Go.Proofs.YtdfmgneicdpjmaaGreat

/- bytes.Clone; model.answered where each frame is one byte. -/
namespace Go.Proofs.YtdfmgneicdpjmaaGreat
open Go.RowKit Go.Shelf
set_option linter.unusedVariables false
set_option linter.unusedSimpArgs false
set_option maxRecDepth 100000
namespace Resp

theorem Clone_bytes (v : Value) (zs : List Int) (W : World) (h : Reads .u8 W v zs) (h0 : 0 < zs.length) (hl : zs.length ≤ 1048576) :
    Calls Tryz.prog 59 #[v] W fun e w' => ∃ v', e = .returned v' ∧ w'.ownsRow W.heap.size 5 1 v' zs.length (u8s zs) ∧ Below W.heap.size W w' := by
  obtain ⟨i0, hi, hz0, hz1, hz2⟩ := info_parts infoByte
  obtain ⟨ad, c, e, -, hnw⟩ := Reads.lies_ h h0
  subst e
  have HNW := Lib.hid hnw
  clear hnw
  generalize hn : zs.length = n at *
  have HN := Lib.hid hn
  have hlI : (n : Int) ≤ 1048576 := by omega
  have hnz : ¬ n = 0 := by omega
  clear hn
  have hnil : (binOp .eql 25 (.slice (some ad) n c) (.slice none 0 0)).run Tryz.prog W = .ok (.bool false) W := by kernel_rfl
  go_enter Tryz.func59, Tryz.ntmps59
  go_wp2_with (at_builtin; refine wpList_append_own _ rfl _ _ 25 rfl W.heap.size 5 i0 (.int .u8 0) 1 1 Tryz.underlying25 hi hz0 hz1 hz2 rfl (by decide) _ _ _ rfl (World.ownsRow_lit W #[] 0 (Nat.le_refl _) (by unfold maxLen; omega) rfl) ad n c (u8s zs) rfl (by rw [u8s_length, HN.out, Nat.mul_one]) (HNW.out _ ((Below.refl _ _).alloc (Nat.le_refl _) _)) (u8s_one _) (by unfold maxLen; omega) (by omega) (by simp) ?_; intro v' w5 hown' hgrow hat; obtain ⟨a', c', e⟩ := ownsRow_form hown'; subst e; have HOWN := Lib.hid hown'; have HG := Lib.hid hgrow; clear hown' hgrow hat)
  go_ret
  have hm5 : Mod (fun k => some k = (Value.slice (some ⟨W.heap.size, 0, none⟩) 0 0).ownBlock) W w5 := ((Mod.refl _ W).alloc _).trans (Mod.of_grownBy HG.out)
  refine ⟨.slice a' n c', by simp, by simpa using HOWN.out, hm5.below (Nat.le_refl _) (fun k hk e => by simp [Value.ownBlock] at e; omega)⟩

/-- A slice of slices of one byte each. -/
def Frames1 (W : World) (v : Value) (m : Nat) : Prop := (m = 0 ∧ ∃ a c, v = .slice a 0 c) ∨ ∃ b c, v = .slice (some ⟨b, 0, none⟩) m c ∧ ∀ i < m, ∃ g cc z, W.cell? ⟨b, i, none⟩ = some (.slice (some ⟨g, 0, none⟩) 1 cc) ∧ W.cell? ⟨g, 0, none⟩ = some (.int .u8 z)
theorem Frames1.form {W : World} {v : Value} {m : Nat} (h : Frames1 W v m) : ∃ a c, v = .slice a m c := by
  rcases h with ⟨rfl, a, c, rfl⟩ | ⟨b, c, rfl, -⟩
  · exact ⟨_, _, rfl⟩
  · exact ⟨_, _, rfl⟩
theorem Frames1.at_ {W : World} {a : Option Addr} {m c : Nat} (h : Frames1 W (.slice a m c) m) {i : Nat} (hi : i < m) : ∃ b, a = some ⟨b, 0, none⟩ ∧ ∃ g cc z, W.cell? ⟨b, i, none⟩ = some (.slice (some ⟨g, 0, none⟩) 1 cc) ∧ W.cell? ⟨g, 0, none⟩ = some (.int .u8 z) := by
  rcases h with ⟨rfl, a', c', e⟩ | ⟨b, c', e, hc⟩
  · exact absurd hi (Nat.not_lt_zero _)
  · cases e
    exact ⟨b, rfl, hc i hi⟩
theorem reads_one_ {W : World} {g c : Nat} {z : Int} (h : W.cell? ⟨g, 0, none⟩ = some (.int .u8 z)) : Reads .u8 W (.slice (some ⟨g, 0, none⟩) 1 c) [z] :=
  .inr ⟨g, 0, c, rfl, by unfold maxLen; simp, fun i hi => by
    have : i = 0 := by simpa using hi
    subst this
    simpa using h⟩
/-- A row of responses, one for each number from one on. -/
def OutRow (W : World) (base : Nat) (v : Value) (m : Nat) : Prop := ∃ vs : List Value, vs.length = m ∧ W.ownsRow base 25 1 v m vs ∧ ∀ i (hi : i < vs.length), W.ownsRow base 5 1 vs[i] 9 (u8s (frameR (i + 1)))
theorem OutRow.keep {W W' : World} {base base2 : Nat} {v v2 : Value} {m n2 : Nat} {e2 : TypeId} {size2 : Nat} {xs2 : List Value} (h : OutRow W base v m) (h2 : W.ownsRow base2 e2 size2 v2 n2 xs2) (hm : Mod (fun k => some k = v2.ownBlock) W W') (ht : ¬ e2 = 25) (ht2 : ¬ e2 = 5) : OutRow W' base v m := by
  obtain ⟨vs, hl, ho, he⟩ := h
  exact ⟨vs, hl, owns_keep_ ho h2 hm ht, fun i hi => owns_keep_ (he i hi) h2 hm ht2⟩
theorem owns_keep_at_ {W W' : World} {base : Nat} {e : TypeId} {size : Nat} {v : Value} {n : Nat} {xs : List Value} (h : W.ownsRow base e size v n xs) {B : Nat} {cs : Array Value} {t : TypeId} {fr : Nat × Nat} (hB : W.heap[B]? = some (.cells cs t fr)) (hm : Mod (fun g => g = B) W W') (ht : ¬ e = t) : W'.ownsRow base e size v n xs :=
  ownsRow_mod h hm fun g hg e => own_other_ h hB ht (by rw [hg, e])
theorem OutRow.keep_at {W W' : World} {base : Nat} {v : Value} {m : Nat} (h : OutRow W base v m) {B : Nat} {cs : Array Value} {t : TypeId} {fr : Nat × Nat} (hB : W.heap[B]? = some (.cells cs t fr)) (hm : Mod (fun g => g = B) W W') (ht : ¬ 25 = t) (ht2 : ¬ 5 = t) : OutRow W' base v m := by
  obtain ⟨vs, hl, ho, he⟩ := h
  exact ⟨vs, hl, owns_keep_at_ ho hB hm ht, fun i hi => owns_keep_at_ (he i hi) hB hm ht2⟩
def AloneAt (W : World) (A B : Nat) : Prop := W.heap[A]? = some (.cells #[.pointer (some ⟨B, 0, none⟩)] 147)
theorem AloneAt.cell {W : World} {A B : Nat} (h : AloneAt W A B) : W.cell? ⟨A, 0, none⟩ = some (.pointer (some ⟨B, 0, none⟩)) := by
  have h' : W.heap[A]? = _ := h
  simp [World.cell?, h']
theorem AloneAt.lt {W : World} {A B : Nat} (h : AloneAt W A B) : A < W.heap.size := (Array.getElem?_eq_some_iff.1 h).1
theorem AloneAt.mod {S : Nat → Prop} {W W' : World} {A B : Nat} (h : AloneAt W A B) (hm : Mod S W W') (hA : ¬ S A) : AloneAt W' A B := hm.heap h hA
theorem infoBytes : (Tryz.prog.info? 25).map (fun i => (i.zero, i.size, i.bytes)) = some (some (.slice none 0 0), 1, 24) := by kernel_rfl
theorem infoInt : (Tryz.prog.info? 3).map (fun i => (i.zero, i.size, i.bytes)) = some (some (.int .i64 0), 1, 8) := by kernel_rfl
set_option maxHeartbeats 2000000 in
theorem answered_short (v : Value) (m : Nat) (W : World) (h : Frames1 W v m) (hm : m ≤ 100) :
    Calls Tryz.prog 84 #[v] W fun e w' => ∃ p vo vt, e = .returned (.tuple #[p, vo, vt, .int .i64 0]) ∧ OutRow w' W.heap.size vo m ∧ w'.ownsRow W.heap.size 3 1 vt m (List.replicate m (.int .i64 0)) ∧ Below W.heap.size W w' := by
  obtain ⟨i1, hi, hz0, hz1, hz2⟩ := info_parts infoBytes
  obtain ⟨i2, ki, kz0, kz1, kz2⟩ := info_parts infoInt
  obtain ⟨a, c, e⟩ := Frames1.form h
  subst e
  have hmI : (m : Int) ≤ 100 := by omega
  have HF := Lib.hid h
  clear h
  generalize hX : W.heap.size = X at *
  go_enter Tryz.func84, Tryz.ntmps84
  go_wp2_with fail
  refine (New_any W).mono ?_; rintro e W1 ⟨rfl, hs1, hb1⟩
  rw [hX] at hs1 hb1
  have HS1 := Lib.hid hs1
  have HB1 := Lib.hid hb1
  clear hs1 hb1
  go_wp2_with fail
  have hAB : ¬ W1.heap.size = X := fun e => by have := HS1.out.lt; omega
  have hAB2 : ¬ X = W1.heap.size := fun e => hAB e.symm
  have hbz : Below W1.heap.size W1 (W1.alloc (.cells #[.pointer (some ⟨X, 0, none⟩)] 147)) := (Below.refl _ _).alloc (Nat.le_refl _) _
  have HS2 := Lib.hid (HS1.out.below hbz)
  have HB2 := Lib.hid (HB1.out.trans (hbz.mono (Nat.le_of_lt HS1.out.lt)))
  have HA2 : Hid (AloneAt (W1.alloc (.cells #[.pointer (some ⟨X, 0, none⟩)] 147)) W1.heap.size X) := World.alloc_heap_new _ _
  clear hbz HS1 HB1
  generalize W1.alloc (.cells #[.pointer (some ⟨X, 0, none⟩)] 147) = W2 at *
  generalize W1.heap.size = A at *
  have HX := Lib.hid hX
  clear hX
  go_loopw [7, 8, 21] (fun d t i wr => ∃ k : Nat, k ≤ m ∧ i = .int .i64 k ∧ ∃ ad cd ta ct, d = .slice ad k cd ∧ t = .slice ta k ct ∧ Hid (OutRow wr X (.slice ad k cd) k) ∧ Hid (wr.ownsRow X 3 1 (.slice ta k ct) k (List.replicate k (.int .i64 0))) ∧ Hid (SlotAt wr X k) ∧ Hid (AloneAt wr A X) ∧ Hid (Below X W wr)) (fun _ _ i _ => m - (intOf i).toNat)
  case atStart => exact ⟨0, Nat.zero_le _, rfl, none, 0, none, 0, rfl, rfl, ⟨[], rfl, owns_nil _ _ _ _, fun i hi => absurd hi (by simp)⟩, owns_nil _ _ _ _, HS2, HA2, HB2⟩
  case round =>
    obtain ⟨k, hk, rfl, ad, cd, ta, ct, rfl, rfl, HO, HT, HS, HA, HB⟩ := hrel
    by_cases hlt : k < m
    · have hltI : (k : Int) < m := by omega
      obtain ⟨b, rfl, g, cc, z, hc1, hc2⟩ := Frames1.at_ HF.out hlt
      have hmw : Mod (fun _ => False) W wr := Mod.of_same (by have := HB.out; rw [← HX.out] at this; exact this)
      have g1 := hmw.cell (by simp) hc1
      have g2 := hmw.cell (by simp) hc2
      have HR := Lib.hid (reads_one_ (c := cc) g2)
      have hA := HA.out.cell
      have hXr : X ≤ wr.heap.size := Nat.le_of_lt HS.out.lt
      clear hmw hc1 hc2 g2
      go_upto_region 10 with fail
      go_region_held3 (fun W => W.cell? ⟨A, 0, none⟩ = some (.pointer (some ⟨X, 0, none⟩)))
        (first | (with_reducible exact HK2.out) | (with_reducible exact HK1.out) | exact hA | go_keep)
        ((first
          | (go_at_call 59; refine (Clone_bytes _ [z] _ (by exact HR.out) (by simp) (by simp)).mono ?_; rintro e y1 ⟨v1, rfl, ho1, hb1⟩; obtain ⟨a1, c1, e1⟩ := ownsRow_form ho1; subst e1; have HY1 : Hid (Mod (fun g => g = X) wr y1) := Mod.of_same (below_step_ (by repeat (first | exact Below.refl _ _ | refine below_drew_ ?_ | refine below_alloc_ ?_ _)) hb1); have HS1 := Lib.hid (HS.out.below (below_step_ (by repeat (first | exact Below.refl _ _ | refine below_drew_ ?_ | refine below_alloc_ ?_ _)) hb1)); have HK1 : Hid (y1.cell? ⟨A, 0, none⟩ = some (.pointer (some ⟨X, 0, none⟩))) := (HA.out.mod HY1.out hAB).cell; clear hb1 ho1)
          | (go_at_call 119; refine (Begin_short X k (by omega) _ (by exact HS1.out) _ _ _ (by simp)).mono ?_; rintro e y2 ⟨v2, rfl, ho2, hs2, hm2⟩; obtain ⟨a2, c2, e2⟩ := ownsRow_form ho2; subst e2; have HY2 := Lib.hid (HY1.out.trans (Mod.trans (Mod.of_same (by repeat (first | exact Below.refl _ _ | refine below_drew_ ?_ | refine below_alloc_ ?_ _))) hm2)); have HS2 := Lib.hid hs2; have HO2 := Lib.hid (ownsRow_base ho2 (base' := X) (by have := HY1.out.size; show X ≤ y1.heap.size; omega)); have HK2 : Hid (y2.cell? ⟨A, 0, none⟩ = some (.pointer (some ⟨X, 0, none⟩))) := (HA.out.mod HY2.out hAB).cell; clear hm2 hs2 ho2)))
      have HT2 := Lib.hid (owns_keep_at_ HT.out HS.out HY2.out (by decide))
      have HO2' := Lib.hid (HO.out.keep_at HS.out HY2.out (by decide) (by decide))
      have HA2' := Lib.hid (HA.out.mod HY2.out hAB)
      have HB2' : Hid (Below X W y2) := HB.out.trans (HY2.out.below hXr (fun k hk e => by omega))
      have hXy : X ≤ y2.heap.size := Nat.le_of_lt HS2.out.lt
      clear HK1 HK2 HS1 HY1 HO HT HS HA HB hA g1 hXr HR
      obtain ⟨vs, hvl, hvo, hve⟩ := HO2'.out
      have HVL := Lib.hid hvl
      have HVO := Lib.hid hvo
      have HVE := Lib.hid hve
      clear hvl hvo hve
      go_wp2_with fail
      go_loopw [11, 12, 13] (fun n r d wx => n = .int .i64 0 ∧ r = .slice a2 9 c2 ∧ d = .bool true ∧ wx = y2) (fun _ _ _ _ => 0)
      case atStart => exact ⟨rfl, rfl, rfl, rfl⟩
      case round =>
        obtain ⟨rfl, rfl, rfl, rfl⟩ := hrel
        go_wp2_with (at_builtin; first | (refine wpList_append_own _ rfl _ _ 22 rfl X 25 i1 (.slice none 0 0) 1 24 Tryz.underlying22 hi hz0 hz1 hz2 rfl (by decide) _ _ _ rfl (HVO.out.alloc _) ⟨wr.heap.size, 0, none⟩ 1 1 [.slice a2 9 c2] rfl rfl (news_one_ (by simp)) (by simp [Value.oneCell']) (by unfold maxLen; omega) (by omega) (by simp; omega) ?_; intro v' w3 hown' hgrow hat; obtain ⟨oa, oc, e⟩ := owns_form_pos_ hown' (by omega); subst e; have HOWNO := Lib.hid hown'; have hgr' : (wr.alloc (.cells #[.slice a2 9 c2] 25)).grownBy w3 (Value.slice ad k cd).ownBlock := hgrow; have HM3 := Lib.hid (((Mod.refl _ wr).alloc _).trans (Mod.of_grownBy hgr')); have HT3 := Lib.hid (owns_keep_ HT2.out HVO.out HM3.out (by decide)); clear hown' hgrow hat hgr') | (refine wpList_append_own _ rfl _ _ 30 rfl X 3 i2 (.int .i64 0) 1 8 Tryz.underlying30 ki kz0 kz1 kz2 rfl (by decide) _ _ _ rfl (HT3.out.alloc _) ⟨w3.heap.size, 0, none⟩ 1 1 [.int .i64 0] rfl rfl (news_one_ (by simp)) (by simp [Value.oneCell']) (by unfold maxLen; omega) (by omega) (by have := HM3.out.size; simp; omega) ?_; intro v' w4 hown' hgrow hat; obtain ⟨pa, pc, e⟩ := owns_form_pos_ hown' (by omega); subst e; have HOWNT := Lib.hid hown'; have hgr2 : (w3.alloc (.cells #[.int .i64 0] 3)).grownBy w4 (Value.slice ta k ct).ownBlock := hgrow; have HM4 := Lib.hid (((Mod.refl _ w3).alloc _).trans (Mod.of_grownBy hgr2)); clear hown' hgrow hat hgr2))
        have hs3 := HS2.out.mod HM3.out (own_other_ HVO.out HS2.out (by decide))
        have hs4 := hs3.mod HM4.out (own_other_ HT3.out hs3 (by decide))
        have ha3 := HA2'.out.mod HM3.out (own_other_ HVO.out HA2'.out (by decide))
        have ha4 := ha3.mod HM4.out (own_other_ HT3.out ha3 (by decide))
        have hb3 : Below X W w3 := HB2'.out.trans (HM3.out.below hXy (fun q hk e => by have := ownBlock_ge_ HVO.out e.symm; omega))
        have hb4 : Below X W w4 := hb3.trans (HM4.out.below (Nat.le_trans hXy HM3.out.size) (fun q hk e => by have := ownBlock_ge_ HT3.out e.symm; omega))
        refine ⟨⟨k + 1, by omega, by simp, _, _, _, _, rfl, rfl, ⟨vs ++ [.slice a2 9 c2], by simp [HVL.out], owns_keep_ HOWNO.out HT3.out HM4.out (by decide), fun i hi => ?_⟩, by rw [List.replicate_succ']; exact HOWNT.out, hs4, ha4, hb4⟩, by simp [intOf]; omega⟩
        by_cases hlt2 : i < vs.length
        · rw [List.getElem_append_left hlt2]
          exact owns_keep_ (owns_keep_ (HVE.out i hlt2) HVO.out HM3.out (by decide)) HT3.out HM4.out (by decide)
        · have hik : i = k := by have := HVL.out; simp at hi; omega
          subst hik
          rw [List.getElem_append_right (by omega)]
          simp only [List.getElem_singleton]
          exact owns_keep_ (owns_keep_ HO2.out HVO.out HM3.out (by decide)) HT3.out HM4.out (by decide)
    · have hk2 : k = m := by omega
      subst hk2
      have hA := HA.out.cell
      go_wp2_with fail
      go_returns
      exact ⟨_, _, _, rfl, HO.out, HT.out, HB.out⟩
end Resp
end Go.Proofs.YtdfmgneicdpjmaaGreat
