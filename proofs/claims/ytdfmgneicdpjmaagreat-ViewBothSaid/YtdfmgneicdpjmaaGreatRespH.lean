/- response.values, response.bytes, response.Write at Response{Number: n, Code: 341}. -/
import Derived.Test.YtdfmgneicdpjmaaGreatRespG
namespace Go.Proofs.YtdfmgneicdpjmaaGreat
open Go.RowKit Go.Shelf
set_option linter.unusedVariables false
set_option linter.unusedSimpArgs false
set_option maxRecDepth 100000
namespace Resp

theorem reads_nil_ (k : IntKind) (W : World) : Reads k W (.slice none 0 0) [] := .inl ⟨none, 0, rfl, rfl⟩
theorem R0At.ten {W : World} {B n : Nat} (h : R0At W B n) : W.cell? ⟨B, 0, none⟩ = some (.int .i64 (n : Int)) ∧ W.cell? ⟨B, 1, none⟩ = some (.int .i64 341) ∧ W.cell? ⟨B, 2, none⟩ = some (.int .i64 0) ∧ W.cell? ⟨B, 3, none⟩ = some (.int .i64 0) ∧ W.cell? ⟨B, 4, none⟩ = some (.int .i64 0) ∧ W.cell? ⟨B, 5, none⟩ = some (.int .u8 0) ∧ W.cell? ⟨B, 7, none⟩ = some (.int .i64 0) ∧ W.cell? ⟨B, 8, none⟩ = some (.int .i64 0) ∧ W.cell? ⟨B, 9, none⟩ = some (.int .i64 0) ∧ W.cell? ⟨B, 10, none⟩ = some (.slice none 0 0) := by
  obtain ⟨d0, d1, d2, d3, d4, d5, d6, d7, d8, d9, d10, d11, d12, d13, d14⟩ := h.cells
  exact ⟨d0, d1, d2, d3, d4, d5, d7, d8, d9, d10⟩
theorem R0At.new (W : World) (n : Nat) : R0At (W.alloc (.cells #[.int .i64 (n : Int), .int .i64 341, .int .i64 0, .int .i64 0, .int .i64 0, .int .u8 0, .bool false, .int .i64 0, .int .i64 0, .int .i64 0, .slice none 0 0, .slice none 0 0, .slice none 0 0, .slice none 0 0, .slice none 0 0] 76)) W.heap.size n := World.alloc_heap_new W _
theorem reads_seven_ (W : World) : Reads .i64 (W.alloc (.cells #[.int .i64 341, .int .i64 0, .int .i64 0, .int .i64 0, .int .i64 0, .int .i64 0, .int .i64 0] 3)) (.slice (some ⟨W.heap.size, 0, none⟩) 7 7) [341, 0, 0, 0, 0, 0, 0] :=
  Reads.of_owns (base := 0) (World.ownsRow_lit W #[.int .i64 341, .int .i64 0, .int .i64 0, .int .i64 0, .int .i64 0, .int .i64 0, .int .i64 0] 7 (Nat.zero_le _) (by unfold maxLen; omega) rfl)
set_option maxHeartbeats 2000000 in
theorem values_R0 (n : Nat) (hn1 : 1 ≤ n) (hn2 : n ≤ 246) (w : World) :
    Calls Tryz.prog 179 #[.agg #[.int .i64 (n : Int), .int .i64 341, .int .i64 0, .int .i64 0, .int .i64 0, .int .u8 0, .bool false, .int .i64 0, .int .i64 0, .int .i64 0, .slice none 0 0, .slice none 0 0, .slice none 0 0, .slice none 0 0, .slice none 0 0]] w fun e w' => e = .returned (.bool true) ∧ Below w.heap.size w w' := by
  go_enter Tryz.func179, Tryz.ntmps179
  have hb1 : Below w.heap.size w (w.alloc (.cells #[.int .i64 (n : Int), .int .i64 341, .int .i64 0, .int .i64 0, .int .i64 0, .int .u8 0, .bool false, .int .i64 0, .int .i64 0, .int .i64 0, .slice none 0 0, .slice none 0 0, .slice none 0 0, .slice none 0 0, .slice none 0 0] 76)) := (Below.refl _ _).alloc (Nat.le_refl _) _
  have HR := Lib.hid (R0At.new w n)
  have c1 : decide ((n : Int) < 1) = false := by simp; omega
  have c2 : decide ((n : Int) > 281474976710656) = false := by simp; omega
  have c3 : ¬ (n : Int) < 1 := by omega
  have c4 : ¬ (n : Int) > 281474976710656 := by omega
  have c5 : ¬ 281474976710656 < (n : Int) := by omega
  have c6 : decide (281474976710656 < (n : Int)) = false := by simp; omega
  go_upto_region 1 with fail
  generalize w.alloc (.cells #[.int .i64 (n : Int), .int .i64 341, .int .i64 0, .int .i64 0, .int .i64 0, .int .u8 0, .bool false, .int .i64 0, .int .i64 0, .int .i64 0, .slice none 0 0, .slice none 0 0, .slice none 0 0, .slice none 0 0, .slice none 0 0] 76) = W1 at *
  generalize hB : w.heap.size = B at *
  obtain ⟨d0, d1, d2, d3, d4, d5, d6, d7, d8, d9, d10, d11, d12, d13, d14⟩ := HR.out.cells
  have HB1 := Lib.hid hb1
  clear hb1
  go_wp2_with fail
  refine (right_yes _ [341, 0, 0, 0, 0, 0, 0] _ (reads_seven_ W1) (by simp) (by simp)).mono ?_; rintro e y1 ⟨rfl, hy⟩
  subst hy
  have hbx : Below W1.heap.size W1 (W1.alloc (.cells #[.int .i64 341, .int .i64 0, .int .i64 0, .int .i64 0, .int .i64 0, .int .i64 0, .int .i64 0] 3)) := (Below.refl _ _).alloc (Nat.le_refl _) _
  have HR2 := Lib.hid (HR.out.below hbx)
  have HB2 := Lib.hid (HB1.out.trans (hbx.mono (Nat.le_of_lt HR.out.lt)))
  clear d0 d1 d2 d3 d4 d5 d6 d7 d8 d9 d10 d11 d12 d13 d14 hbx HB1 HR
  generalize (W1.alloc (.cells #[.int .i64 341, .int .i64 0, .int .i64 0, .int .i64 0, .int .i64 0, .int .i64 0, .int .i64 0] 3)) = W2 at *
  generalize W1.heap.size = X at *
  obtain ⟨d0, d1, d2, d3, d4, d5, d6, d7, d8, d9, d10, d11, d12, d13, d14⟩ := HR2.out.cells
  go_wp2_with fail
  refine (right_yes _ [] _ (reads_nil_ _ _) (by decide) (by simp)).mono ?_; rintro e y2 ⟨rfl, hy⟩
  subst hy
  go_wp2_with fail
  go_loopw [81] (fun i wr => i = .int .i64 0 ∧ wr = W2) (fun _ _ => 0)
  case atStart => exact ⟨rfl, rfl⟩
  case round =>
    obtain ⟨rfl, rfl⟩ := hrel
    go_wp2_with fail
    go_loopw [103] (fun i wr2 => i = .int .i64 0 ∧ wr2 = wr) (fun _ _ => 0)
    case atStart => exact ⟨rfl, rfl⟩
    case round =>
      obtain ⟨rfl, rfl⟩ := hrel
      go_wp2_with fail
      go_loopw [124] (fun i wr3 => i = .int .i64 0 ∧ wr3 = wr) (fun _ _ => 0)
      case atStart => exact ⟨rfl, rfl⟩
      case round =>
        obtain ⟨rfl, rfl⟩ := hrel
        go_wp2_with fail
        go_ret
        exact ⟨rfl, by rw [hB]; exact HB2.out⟩

def bodyR (n : Nat) : List Int := [1, 1, (n : Int), 3, 3, 248, 1, 85]
theorem flat_R (n : Nat) (v1 v2 : Value) : flat [(1, v1, [(n : Int)]), (3, v2, [248, 1, 85])] = bodyR n := by
  simp [flat, fieldBytes, numBytes, bodyR]
set_option maxHeartbeats 2000000 in
theorem bytes_R0 (n : Nat) (hn1 : 1 ≤ n) (hn2 : n ≤ 246) (w : World) :
    Calls Tryz.prog 140 #[.agg #[.int .i64 (n : Int), .int .i64 341, .int .i64 0, .int .i64 0, .int .i64 0, .int .u8 0, .bool false, .int .i64 0, .int .i64 0, .int .i64 0, .slice none 0 0, .slice none 0 0, .slice none 0 0, .slice none 0 0, .slice none 0 0]] w fun e w' => ∃ v, e = .returned (.tuple #[v, .bool true]) ∧ w'.ownsRow w.heap.size 5 1 v 8 (u8s (bodyR n)) ∧ Below w.heap.size w w' := by
  go_enter Tryz.func140, Tryz.ntmps140
  have hb1 : Below w.heap.size w (w.alloc (.cells #[.int .i64 (n : Int), .int .i64 341, .int .i64 0, .int .i64 0, .int .i64 0, .int .u8 0, .bool false, .int .i64 0, .int .i64 0, .int .i64 0, .slice none 0 0, .slice none 0 0, .slice none 0 0, .slice none 0 0, .slice none 0 0] 76)) := (Below.refl _ _).alloc (Nat.le_refl _) _
  have HR := Lib.hid (R0At.new w n)
  go_upto_region 1 with fail
  generalize w.alloc (.cells #[.int .i64 (n : Int), .int .i64 341, .int .i64 0, .int .i64 0, .int .i64 0, .int .u8 0, .bool false, .int .i64 0, .int .i64 0, .int .i64 0, .slice none 0 0, .slice none 0 0, .slice none 0 0, .slice none 0 0, .slice none 0 0] 76) = W1 at *
  generalize hB : w.heap.size = B at *
  obtain ⟨d0, d1, d2, d3, d4, d5, d6, d7, d8, d9, d10, d11, d12, d13, d14⟩ := HR.out.cells
  have HB1 := Lib.hid hb1
  clear hb1
  go_wp2_with fail
  refine (values_R0 n hn1 hn2 _).mono ?_; rintro e W2 ⟨rfl, hb2⟩
  have HR2 := Lib.hid (HR.out.below hb2)
  have HB2 := Lib.hid (HB1.out.trans (hb2.mono (Nat.le_of_lt HR.out.lt)))
  clear d0 d1 d2 d3 d4 d5 d6 d7 d8 d9 d10 d11 d12 d13 d14 hb2 HR HB1
  obtain ⟨d0, d1, d2, d3, d4, d5, d6, d7, d8, d9, d10, d11, d12, d13, d14⟩ := HR2.out.cells
  go_wp2_with fail
  refine (fields_R0 n hn1 hn2 _).mono ?_; rintro e W3 ⟨v, v1, v2, rfl, hf3, hb3⟩
  have hBW2 : B ≤ W2.heap.size := Nat.le_of_lt HR2.out.lt
  have HB3 := Lib.hid (HB2.out.trans (hb3.mono hBW2))
  have hBW3 : B ≤ W3.heap.size := Nat.le_trans hBW2 hb3.size
  have HF3 := Lib.hid hf3
  clear d0 d1 d2 d3 d4 d5 d6 d7 d8 d9 d10 d11 d12 d13 d14 hb3 hf3 HR2 HB2
  go_wp2_with fail
  refine (Write_yes v _ _ HF3.out.reads (by simp) (by simp [rightL]) (by simp)).mono ?_; rintro e W4 ⟨v4, rfl, ho4, hb4⟩
  rw [flat_R] at ho4
  obtain ⟨a4, c4, e4⟩ := ownsRow_form ho4
  subst e4
  have HO4 := Lib.hid (ownsRow_base ho4 hBW3)
  have HB4 := Lib.hid (HB3.out.trans (hb4.mono hBW3))
  have hl8 : (bodyR n).length = 8 := rfl
  rw [hl8] at *
  clear ho4 hb4
  go_wp2_with fail
  go_ret2
  exact ⟨_, rfl, by rw [hB]; exact HO4.out, by rw [hB]; exact HB4.out⟩
def frameR (n : Nat) : List Int := 1 :: bodyR n
set_option maxHeartbeats 2000000 in
theorem WriteResp_R0 (n : Nat) (hn1 : 1 ≤ n) (hn2 : n ≤ 246) (w : World) :
    Calls Tryz.prog 87 #[.agg #[.int .i64 (n : Int), .int .i64 341, .int .i64 0, .int .i64 0, .int .i64 0, .int .u8 0, .bool false, .int .i64 0, .int .i64 0, .int .i64 0, .slice none 0 0, .slice none 0 0, .slice none 0 0, .slice none 0 0, .slice none 0 0]] w fun e w' => ∃ v, e = .returned (.tuple #[v, .int .i64 0]) ∧ w'.ownsRow w.heap.size 5 1 v 9 (u8s (frameR n)) ∧ Below w.heap.size w w' := by
  obtain ⟨i0, hi, hz0, hz1, hz2⟩ := info_parts infoByte
  go_enter Tryz.func87, Tryz.ntmps87
  have hb1 : Below w.heap.size w (w.alloc (.cells #[.int .i64 (n : Int), .int .i64 341, .int .i64 0, .int .i64 0, .int .i64 0, .int .u8 0, .bool false, .int .i64 0, .int .i64 0, .int .i64 0, .slice none 0 0, .slice none 0 0, .slice none 0 0, .slice none 0 0, .slice none 0 0] 76)) := (Below.refl _ _).alloc (Nat.le_refl _) _
  have HR := Lib.hid (R0At.new w n)
  go_upto_region 1 with fail
  generalize w.alloc (.cells #[.int .i64 (n : Int), .int .i64 341, .int .i64 0, .int .i64 0, .int .i64 0, .int .u8 0, .bool false, .int .i64 0, .int .i64 0, .int .i64 0, .slice none 0 0, .slice none 0 0, .slice none 0 0, .slice none 0 0, .slice none 0 0] 76) = W1 at *
  generalize hB : w.heap.size = B at *
  obtain ⟨d0, d1, d2, d3, d4, d5, d6, d7, d8, d9, d10, d11, d12, d13, d14⟩ := HR.out.cells
  have HB1 := Lib.hid hb1
  clear hb1
  go_wp2_with fail
  refine (bytes_R0 n hn1 hn2 _).mono ?_; rintro e W2 ⟨v2, rfl, ho2, hb2⟩
  have hn2' : ∃ ad c, v2 = .slice (some ad) 8 c ∧ ad.block < W2.heap.size ∧ ∀ (w' : World), Below W2.heap.size W2 w' → ∀ (j : Nat) (u : Value), (u8s (bodyR n))[j]? = some u → w'.cell? (ad.add j) = some u := Reads.lies_ (zs := bodyR n) (Reads.of_owns ho2) (by simp [bodyR])
  obtain ⟨a2, c2, e2, -, hnw⟩ := hn2'
  subst e2
  have HNW := Lib.hid hnw
  clear hnw
  have hB1 : B ≤ W1.heap.size := Nat.le_of_lt HR.out.lt
  have HB2 := Lib.hid (HB1.out.trans (hb2.mono hB1))
  have HO2 := Lib.hid ho2
  have hB2 : B ≤ W2.heap.size := Nat.le_trans hB1 hb2.size
  clear d0 d1 d2 d3 d4 d5 d6 d7 d8 d9 d10 d11 d12 d13 d14 hb2 ho2 HR HB1
  go_wp2_with (at_builtin; refine wpList_append_own _ rfl _ _ 25 rfl B 5 i0 (.int .u8 0) 1 1 Tryz.underlying25 hi hz0 hz1 hz2 rfl (by decide) _ _ _ rfl (World.ownsRow_lit W2 #[.int .u8 1] 1 hB2 (by unfold maxLen; omega) rfl) a2 8 c2 (u8s (bodyR n)) rfl rfl (HNW.out _ ((Below.refl _ _).alloc (Nat.le_refl _) _)) (u8s_one _) (by unfold maxLen; omega) (by omega) (by simp; omega) ?_; intro v' w5 hown' hgrow hat; obtain ⟨g, c, e⟩ := owns_form_pos_ hown' (by simp); subst e; have HOWN := Lib.hid hown'; have HG := Lib.hid hgrow; clear hown' hgrow hat)
  go_ret2
  have hm5 : Mod (fun k => some k = (Value.slice (some ⟨W2.heap.size, 0, none⟩) 1 1).ownBlock) W2 w5 := ((Mod.refl _ W2).alloc _).trans (Mod.of_grownBy HG.out)
  exact ⟨.slice (some ⟨g, 0, none⟩) 9 c, rfl, by first | exact HOWN.out | (rw [hB]; exact HOWN.out), by first | (rw [hB]; exact HB2.out.trans (hm5.below hB2 (fun k hk e => by simp [Value.ownBlock] at e; omega))) | exact HB2.out.trans (hm5.below hB2 (fun k hk e => by simp [Value.ownBlock] at e; omega))⟩
end Resp
end Go.Proofs.YtdfmgneicdpjmaaGreat
