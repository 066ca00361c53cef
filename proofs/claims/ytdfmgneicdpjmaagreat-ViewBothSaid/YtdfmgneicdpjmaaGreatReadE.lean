/- slices.Equal over bytes; response.Read of what response.Write made. -/
import Derived.Test.YtdfmgneicdpjmaaGreatReadD
import Derived.BigQuiet
namespace Go.Proofs.YtdfmgneicdpjmaaGreat
open Go.RowKit Go.Shelf
set_option linter.unusedVariables false
set_option linter.unusedSimpArgs false
set_option maxRecDepth 100000
namespace Resp

theorem below_drewN_ {B : Nat} {a w : World} (h : Below B a w) : ∀ k, Below B a (w.drewN k)
  | 0 => h
  | k + 1 => ⟨(below_drewN_ h k).os, (below_drewN_ h k).tape, (below_drewN_ h k).output, (below_drewN_ h k).size, (below_drewN_ h k).block⟩
set_option maxHeartbeats 1000000 in
theorem EqualB_same (a a' : Option Addr) (n c c' : Nat) (zs : List Int) (w : World) (h : Reads .u8 w (.slice a n c) zs) (h' : Reads .u8 w (.slice a' n c') zs) (hn : zs.length = n) (hl : n ≤ 1000) :
    Calls Tryz.prog 88 #[.slice a n c, .slice a' n c'] w fun e w' => e = .returned (.bool true) ∧ Below w.heap.size w w' := by
  go_enter Tryz.func88, Tryz.ntmps88
  have HR := Lib.hid h
  have HR' := Lib.hid h'
  have HN := Lib.hid hn
  have hlI : (n : Int) ≤ 1000 := by omega
  clear h h' hn
  go_wp2_with fail
  go_loopw [5, 13] (fun j i wr => ∃ k : Nat, k ≤ n ∧ i = .int .i64 k ∧ Below w.heap.size w wr) (fun _ i _ => n - (intOf i).toNat)
  case atStart => exact ⟨0, Nat.zero_le _, rfl, Below.refl _ _⟩
  case round =>
    obtain ⟨k, hk, rfl, hb⟩ := hrel
    by_cases hlt : k < n
    · have hltI : (k : Int) < n := by omega
      rcases HR.out with ⟨a2, c2, e2, e3⟩ | ⟨b, o, c2, e2, hl2, hc⟩
      · have := HN.out; rw [e3] at this; simp at this; omega
      · rcases HR'.out with ⟨a3, c3, e3, e4⟩ | ⟨b', o', c3, e3, hl3, hc'⟩
        · have := HN.out; rw [e4] at this; simp at this; omega
        · rw [HN.out] at e2 e3
          cases e2
          cases e3
          have hm : Mod (fun _ => False) w wr := Mod.of_same hb
          have g1 := hm.cell (by simp) (hc k (by have := HN.out; omega))
          have g2 := hm.cell (by simp) (hc' k (by have := HN.out; omega))
          clear hc hc' hm
          have HB := Lib.hid hb
          clear hb
          generalize zs[k]?.getD 0 = z at *
          go_wp2_with fail
          go_quiet (fail)
          go_wp2_with fail
          exact ⟨⟨k + 1, by omega, by simp, below_drewN_ HB.out nq⟩, by simp [intOf]; omega⟩
    · go_wp2_with fail
      go_ret
      exact ⟨rfl, hb⟩
theorem owns_cells_pos_ {W : World} {base : Nat} {e : TypeId} {size : Nat} {v : Value} {k : Nat} {xs : List Value} (h : W.ownsRow base e size v k xs) (hk : 0 < k) : ∃ g c, v = .slice (some ⟨g, 0, none⟩) k c ∧ k ≤ c ∧ base ≤ g ∧ ∀ i u, xs[i]? = some u → W.cell? ⟨g, i, none⟩ = some u := by
  rcases h.2 with ⟨rfl, rfl⟩ | ⟨g', cap, cur, rfl, hb, hg, hc, hm, hs, ht⟩
  · exact absurd hk (Nat.lt_irrefl _)
  · refine ⟨g', cap, rfl, hc, hb, fun i u hu => ?_⟩
    rw [← ht] at hu
    rw [List.getElem?_take] at hu
    split at hu
    · simp [World.cell?, hg]; simpa using hu
    · cases hu
theorem infoRsp : (Tryz.prog.info? 76).map (·.size) = some 15 := by kernel_rfl
theorem rsp_row_ {W : World} {B n : Nat} (h : RC W B 0 0) : (Instr.storeAt 76 (.pointer (some ⟨B, 0, none⟩)) (.agg #[.int .i64 (n : Int), .int .i64 341, .int .i64 0, .int .i64 0, .int .i64 0, .int .u8 0, .bool false, .int .i64 0, .int .i64 0, .int .i64 0, .slice none 0 0, .slice none 0 0, .slice none 0 0, .slice none 0 0, .slice none 0 0])).run Tryz.prog W = .ok () (W.setRow B #[.int .i64 (n : Int), .int .i64 341, .int .i64 0, .int .i64 0, .int .i64 0, .int .u8 0, .bool false, .int .i64 0, .int .i64 0, .int .i64 0, .slice none 0 0, .slice none 0 0, .slice none 0 0, .slice none 0 0, .slice none 0 0]) := by
  simp only [Instr.storeAt, Instr.sureAddr, Sem.run_bind, Sem.run_pure, Result.andThen]
  exact run_storeVar_row W B 76 76 #[.int .i64 0, .int .i64 0, .int .i64 0, .int .i64 0, .int .i64 0, .int .u8 0, .bool false, .int .i64 0, .int .i64 0, .int .i64 0, .slice none 0 0, .slice none 0 0, .slice none 0 0, .slice none 0 0, .slice none 0 0] #[.int .i64 (n : Int), .int .i64 341, .int .i64 0, .int .i64 0, .int .i64 0, .int .u8 0, .bool false, .int .i64 0, .int .i64 0, .int .i64 0, .slice none 0 0, .slice none 0 0, .slice none 0 0, .slice none 0 0, .slice none 0 0] h infoRsp rfl (by simp [Value.oneCell'])
theorem rsp_ld_ {W : World} {B n : Nat} (h : RC W B (n : Int) 341) : (Instr.loadAt 76 (.pointer (some ⟨B, 0, none⟩))).run Tryz.prog W = .ok (.agg #[.int .i64 (n : Int), .int .i64 341, .int .i64 0, .int .i64 0, .int .i64 0, .int .u8 0, .bool false, .int .i64 0, .int .i64 0, .int .i64 0, .slice none 0 0, .slice none 0 0, .slice none 0 0, .slice none 0 0, .slice none 0 0]) W := by
  simp only [Instr.loadAt, Instr.sureAddr, Sem.run_bind, Sem.run_pure, Result.andThen]
  exact run_loadVar_row W B 76 76 #[.int .i64 (n : Int), .int .i64 341, .int .i64 0, .int .i64 0, .int .i64 0, .int .u8 0, .bool false, .int .i64 0, .int .i64 0, .int .i64 0, .slice none 0 0, .slice none 0 0, .slice none 0 0, .slice none 0 0, .slice none 0 0] (0, 0) _ h Tryz.underlying76 rfl infoRsp
theorem RC.setRow {W : World} {B n : Nat} (h : RC W B 0 0) : RC (W.setRow B #[.int .i64 (n : Int), .int .i64 341, .int .i64 0, .int .i64 0, .int .i64 0, .int .u8 0, .bool false, .int .i64 0, .int .i64 0, .int .i64 0, .slice none 0 0, .slice none 0 0, .slice none 0 0, .slice none 0 0, .slice none 0 0]) B (n : Int) 341 := by
  have hlt : B < W.heap.size := (Array.getElem?_eq_some_iff.1 h).1
  have he := (Array.getElem?_eq_some_iff.1 h).2
  show (W.heap.modify B _)[B]? = _
  rw [Array.getElem?_eq_getElem (by rw [Array.size_modify]; exact hlt), Array.getElem_modify_self, he]
theorem RC.new (W : World) : RC (W.alloc (.cells #[.int .i64 0, .int .i64 0, .int .i64 0, .int .i64 0, .int .i64 0, .int .u8 0, .bool false, .int .i64 0, .int .i64 0, .int .i64 0, .slice none 0 0, .slice none 0 0, .slice none 0 0, .slice none 0 0, .slice none 0 0] 76)) W.heap.size 0 0 := World.alloc_heap_new W _
theorem rld_open_ (t : TypeId) (p : Value) (h : ¬ t = 76) : Instr.loadAt t p = (do loadVar t (← Instr.sureAddr p)) := rfl
theorem rst_open_ (t : TypeId) (p v : Value) (h : ¬ t = 76) : Instr.storeAt t p v = (do storeVar t (← Instr.sureAddr p) v) := rfl
attribute [-go_sem] Instr.storeAt Instr.loadAt
attribute [local go_sem] rld_open_ rst_open_
set_option maxHeartbeats 4000000 in
theorem RespRead_any (n : Nat) (hn1 : 1 ≤ n) (hn2 : n ≤ 246) (v : Value) (base : Nat) (W : World) (h : W.ownsRow base 5 1 v 9 (u8s (frameR n))) :
    Calls Tryz.prog 42 #[v] W fun e w' => e = .returned (.tuple #[.agg #[.int .i64 (n : Int), .int .i64 341, .int .i64 0, .int .i64 0, .int .i64 0, .int .u8 0, .bool false, .int .i64 0, .int .i64 0, .int .i64 0, .slice none 0 0, .slice none 0 0, .slice none 0 0, .slice none 0 0, .slice none 0 0], .int .i64 0]) ∧ Below W.heap.size W w' := by
  obtain ⟨g, c, e⟩ := owns_form_pos_ h (by decide)
  subst e
  have hrd : Reads .u8 W (.slice (some ⟨g, 0, none⟩) 9 c) (frameR n) := Reads.of_owns (zs := frameR n) h
  have hcap : 9 ≤ c := by
    rcases h.2 with ⟨hv, -⟩ | ⟨g', cap, cur, hv, -, -, hcap, -⟩
    · cases hv
    · cases hv; omega
  have hcells : ∀ i, i < 9 → W.cell? ⟨g, 0 + i, none⟩ = some (.int .u8 ((frameR n)[i]?.getD 0)) := by
    rcases hrd with ⟨a2, c2, e2, e3⟩ | ⟨b, o, c2, e2, hl2, hc⟩
    · cases e3
    · have e2' : Value.slice (some ⟨g, 0, none⟩) 9 c = Value.slice (some ⟨b, o, none⟩) 9 c2 := e2
      cases e2'
      exact hc
  have hbody : BodyAt W g 1 n := fun i hi => by
    have := hcells (i + 1) (by omega)
    rw [show 0 + (i + 1) = 1 + i by omega] at this
    rw [this]
    rfl
  have h0 := hcells 0 (by omega)
  simp [frameR] at h0
  have HBODY := Lib.hid hbody
  have HRD := Lib.hid hrd
  have n1 : ¬ c = 1 := by omega
  have n2 : ¬ c - 1 = 0 := by omega
  have n3 : 9 ≤ c := hcap
  have n4 : (9 : Int) ≤ c := by omega
  clear h hrd hcells hbody
  go_enter Tryz.func42, Tryz.ntmps42
  go_upto_region 1 with fail
  have hm1 : Mod (fun _ => False) W (W.alloc (.cells #[.int .i64 0, .int .i64 0, .int .i64 0, .int .i64 0, .int .i64 0, .int .u8 0, .bool false, .int .i64 0, .int .i64 0, .int .i64 0, .slice none 0 0, .slice none 0 0, .slice none 0 0, .slice none 0 0, .slice none 0 0] 76)) := (Mod.refl _ _).alloc _
  have HZ1 := Lib.hid (RC.new W)
  have HM1 := Lib.hid hm1
  have g0 := hm1.cell (by simp) h0
  clear hm1 h0
  generalize W.alloc (.cells #[.int .i64 0, .int .i64 0, .int .i64 0, .int .i64 0, .int .i64 0, .int .u8 0, .bool false, .int .i64 0, .int .i64 0, .int .i64 0, .slice none 0 0, .slice none 0 0, .slice none 0 0, .slice none 0 0, .slice none 0 0] 76) = W1 at *
  generalize hN : W.heap.size = N at *
  have HN := Lib.hid hN
  clear hN
  go_wp2_with fail
  refine (fieldRead_any g 1 (c - 1) n hn2 (by omega) W1 (HBODY.out.mod HM1.out (by simp))).mono ?_; rintro e W2 ⟨vl, v1, v2, rfl, hf2, hb2⟩
  have hs1 : N ≤ W1.heap.size := by rw [← HN.out]; exact HM1.out.size
  obtain ⟨ho0, hof⟩ := hf2
  have ho1 : W2.ownsRow W1.heap.size 5 1 v1 1 (u8s [(n : Int)]) := hof _ (.head _)
  have ho2 : W2.ownsRow W1.heap.size 5 1 v2 3 (u8s [248, 1, 85]) := hof _ (.tail _ (.head _))
  have ho3 : W2.ownsRow W1.heap.size 141 2 vl 2 (fCells [(1, v1, [(n : Int)]), (3, v2, [248, 1, 85])]) := ho0
  obtain ⟨gf, cf, rfl, hcf, hgf, hfc⟩ := owns_cells_pos_ ho3 (by decide)
  obtain ⟨g1, c1, rfl, hc1, hg1, hf1⟩ := owns_cells_pos_ ho1 (by decide)
  obtain ⟨g2, c2, rfl, hc2, hg2, hf2⟩ := owns_cells_pos_ ho2 (by decide)
  have k0 := hfc 0 _ rfl
  have k1 := hfc 1 _ rfl
  have k2 := hfc 2 _ rfl
  have k3 := hfc 3 _ rfl
  have l0 := hf1 0 _ rfl
  have m0 := hf2 0 _ rfl
  have m1 := hf2 1 _ rfl
  have m2 := hf2 2 _ rfl
  have HM2 : Hid (Mod (fun _ => False) W W2) := HM1.out.trans (Mod.of_same hb2)
  have HZ2 := Lib.hid (HZ1.out.mod (Mod.of_same (S := fun _ => False) hb2) (by simp))
  have hB1 : W2.heap.size ≥ W1.heap.size := hb2.size
  have hfcl := hfc
  have hf1l := hf1
  have hf2l := hf2
  clear ho0 hof ho1 ho2 ho3 hfc hf1 hf2 hb2 HZ1 HM1 g0
  go_upto_region 7 with fail
  have hm3 : Mod (fun _ => False) W2 (W2.alloc (.cells #[.int .i64 0, .int .i64 0, .int .i64 0, .int .i64 0, .int .i64 0, .int .u8 0, .bool false, .int .i64 0, .int .i64 0, .int .i64 0, .slice none 0 0, .slice none 0 0, .slice none 0 0, .slice none 0 0, .slice none 0 0] 76)) := (Mod.refl _ _).alloc _
  have HR3 := Lib.hid (RC.new W2)
  have HZ3 := Lib.hid (HZ2.out.mod hm3 (by simp))
  have HM3 := Lib.hid (HM2.out.trans hm3)
  replace k0 := hm3.cell (by simp) k0
  replace k1 := hm3.cell (by simp) k1
  replace k2 := hm3.cell (by simp) k2
  replace k3 := hm3.cell (by simp) k3
  replace l0 := hm3.cell (by simp) l0
  replace m0 := hm3.cell (by simp) m0
  replace m1 := hm3.cell (by simp) m1
  replace m2 := hm3.cell (by simp) m2
  have hgl : gf < W2.heap.size := by
    have := World.block_lt_of_cell? _ _ k0
    have h2 := (hfcl 0 _ rfl)
    exact World.block_lt_of_cell? _ _ h2
  have hg1l : g1 < W2.heap.size := World.block_lt_of_cell? _ _ (hf1l 0 _ rfl)
  have hg2l : g2 < W2.heap.size := World.block_lt_of_cell? _ _ (hf2l 0 _ rfl)
  have hNl : N < W2.heap.size := (Array.getElem?_eq_some_iff.1 HZ2.out).1
  clear HZ2 HM2 hm3 hfcl hf1l hf2l
  generalize W2.alloc (.cells #[.int .i64 0, .int .i64 0, .int .i64 0, .int .i64 0, .int .i64 0, .int .u8 0, .bool false, .int .i64 0, .int .i64 0, .int .i64 0, .slice none 0 0, .slice none 0 0, .slice none 0 0, .slice none 0 0, .slice none 0 0] 76) = W3 at *
  generalize hB7 : W2.heap.size = B7 at *
  clear hB7
  go_wp2_with fail
  refine wp_loop_rounds 3 ?_
  rw [rounds_succ]
  go_wp2_with fail
  have hma : Mod (fun _ => False) W3 (W3.alloc (.cells #[.int .i64 1, .slice (some ⟨g1, 0, none⟩) 1 c1] 141)) := (Mod.refl _ _).alloc _
  refine (take_number B7 g1 0 c1 n 0 0 hn2 _ (HR3.out.mod hma (by simp)) (hma.cell (by simp) l0) hc1).mono ?_; rintro e W4 ⟨rfl, hr4, hm4⟩
  have hm34 : Mod (fun q => q = B7) W3 W4 := Mod.trans (hma.mono (fun _ _ h => h.elim)) hm4
  have HR4 := Lib.hid hr4
  have HZ4 := Lib.hid (HZ3.out.mod hm34 (by omega))
  have HM4 : Hid (Mod (fun q => q = B7) W W4) := Mod.trans (HM3.out.mono (fun _ _ h => h.elim)) hm34
  have d1 : ¬ gf = B7 := by omega
  have d2 : ¬ g2 = B7 := by omega
  replace k2 := hm34.cell (by exact d1) k2
  replace k3 := hm34.cell (by exact d1) k3
  replace m0 := hm34.cell (by exact d2) m0
  replace m1 := hm34.cell (by exact d2) m1
  replace m2 := hm34.cell (by exact d2) m2
  clear hm34 hr4 hm4 hma HR3 HZ3 HM3 k0 k1 l0
  go_wp2_with fail
  rw [rounds_succ]
  go_wp2_with fail
  have hma : Mod (fun _ => False) W4 (W4.alloc (.cells #[.int .i64 3, .slice (some ⟨g2, 0, none⟩) 3 c2] 141)) := (Mod.refl _ _).alloc _
  refine (take_code B7 g2 0 c2 (n : Int) 0 _ (HR4.out.mod hma (by simp)) (hma.cell (by simp) m0) (hma.cell (by simp) m1) (hma.cell (by simp) m2) hc2).mono ?_; rintro e W5 ⟨rfl, hr5, hm5⟩
  have hm45 : Mod (fun q => q = B7) W4 W5 := Mod.trans (hma.mono (fun _ _ h => h.elim)) hm5
  have HR5 := Lib.hid hr5
  have HZ5 := Lib.hid (HZ4.out.mod hm45 (by omega))
  have HM5 : Hid (Mod (fun q => q = B7) W W5) := Mod.trans HM4.out hm45
  clear hm45 hr5 hm5 hma HR4 HZ4 HM4 k2 k3 m0 m1 m2
  go_wp2_with fail
  rw [rounds_succ]
  have L7 := rsp_ld_ HR5.out
  go_wp2_with fail
  refine (WriteResp_R0 n hn1 hn2 W5).mono ?_; rintro e W6 ⟨vw, rfl, hw6, hb6⟩
  obtain ⟨gw, cw, rfl⟩ := owns_form_pos_ hw6 (by decide)
  have HW6 := Lib.hid hw6
  have HR6 := Lib.hid (HR5.out.mod (Mod.of_same (S := fun _ => False) hb6) (by simp))
  have HZ6 := Lib.hid (HZ5.out.mod (Mod.of_same (S := fun _ => False) hb6) (by simp))
  have HM6 : Hid (Mod (fun q => q = B7) W W6) := HM5.out.trans (Mod.of_same hb6)
  clear L7 hw6 hb6 HR5 HZ5 HM5
  go_wp2_with fail
  have hga : g < N := by
    rw [← HN.out]
    exact World.block_lt_of_cell? W _ (HBODY.out 0 (by decide))
  refine (EqualB_same _ _ 9 cw c (frameR n) W6 (Reads.of_owns (zs := frameR n) HW6.out) (HRD.out.mod HM6.out (by
    intro b hb
    have : g = b := by simpa [Value.ownBlock] using hb
    have := HN.out
    show ¬ b = B7
    omega)) rfl (by omega)).mono ?_; rintro e W7 ⟨rfl, hb7⟩
  have HR7 := Lib.hid (HR6.out.mod (Mod.of_same (S := fun _ => False) hb7) (by simp))
  have HZ7 := Lib.hid (HZ6.out.mod (Mod.of_same (S := fun _ => False) hb7) (by simp))
  have HM7 : Hid (Mod (fun q => q = B7) W W7) := HM6.out.trans (Mod.of_same hb7)
  clear HW6 hb7 HR6 HZ6 HM6
  have L7 := rsp_ld_ HR7.out
  have S7 := rsp_row_ (n := n) HZ7.out
  go_wp2_with fail
  refine bodyPost_ret (results_cell_tmp_ rfl _ _ N _ _ _ _ rfl (HZ7.out.setRow (n := n)) Tryz.underlying76 rfl infoRsp) rfl ⟨rfl, ?_⟩
  refine below_row_ (HM7.out.below (Nat.le_refl _) (fun q hq e => ?_)) (by rw [HN.out]; exact Nat.le_refl _) _
  have := HN.out
  omega
end Resp
end Go.Proofs.YtdfmgneicdpjmaaGreat
