/- An inbox: Put of one frame into an empty inbox. -/
import Derived.Test.YtdfmgneicdpjmaaGreatTenF
import Derived.Deep.RegionLaw
namespace Go.Proofs.YtdfmgneicdpjmaaGreat
open Go.RowKit Go.Shelf
set_option linter.unusedVariables false
set_option linter.unusedSimpArgs false
set_option maxRecDepth 100000
namespace Resp

set_option maxHeartbeats 2000000 in
theorem Put_one (W : World) (I B f fc : Nat) (z : Int) (idle : Int) (hbox : BoxAt W I B false (.slice none 0 0) 0 0 idle) (hslot : SlotAt W B 0) (hf : W.cell? ⟨f, 0, none⟩ = some (.int .u8 z)) :
    Calls Tryz.prog 143 #[.pointer (some ⟨I, 0, none⟩), .slice (some ⟨f, 0, none⟩) 1 fc] W fun e w' => ∃ vo, e = .returned (.tuple #[vo, .int .i64 0]) ∧ OutRow w' W.heap.size vo 1 ∧ (∃ a' c', BoxAt w' I B false (.slice a' 0 c') 1 1 idle) ∧ SlotAt w' B 1 ∧ Mod (fun k => k = I ∨ k = B) W w' := by
  obtain ⟨i1, hi, hz0, hz1, hz2⟩ := info_parts infoBytes
  obtain ⟨i2, ki, kz0, kz1, kz2⟩ := info_parts infoByte
  have hI := hbox.lt
  have hB := hslot.lt
  have HBOX := Lib.hid hbox
  have HSLOT := Lib.hid hslot
  obtain ⟨c0, c1, c2, c3, c4, c5, c6⟩ := hbox.cells
  obtain ⟨-, f2, f3, -, -⟩ := hbox.cool
  have hIB : ¬ I = B := fun e => by have := hbox; rw [e, BoxAt, hslot] at this; cases this
  clear hbox hslot
  go_enter Tryz.func143, Tryz.ntmps143
  go_wp2_with fail
  refine (BoxNone_no I B false (.slice none 0 0) 0 0 idle W HBOX.out).mono ?_; rintro e w1 ⟨rfl, hy⟩
  subst hy
  go_upto_region 5 with fail
  go_cut [] from 16 (fun wx => ∃ g c, BoxAt wx I B false (.slice (some ⟨g, 0, none⟩) 1 c) 0 0 idle ∧ (∃ fa c', wx.ownsRow W.heap.size 25 1 (.slice (some ⟨g, 0, none⟩) 1 c) 1 [.slice fa 1 c']) ∧ Mod (fun k => k = I) W wx)
  case first =>
    rename_i J K' hJ hK
    have e1 : (W.alloc (.cells #[] 5)).cell? ⟨I, 2, none⟩ = some (.slice none 0 0) := ((Mod.refl (fun _ => False) W).alloc _).cell (by simp) c2
    have e1' : (W.alloc (.cells #[] 5)).cell? ⟨f, 0, none⟩ = some (.int .u8 z) := ((Mod.refl (fun _ => False) W).alloc _).cell (by simp) hf
    go_region_law ((first
      | (refine step_append_lies _ (by rfl) _ _ _ (by rfl) W.heap.size 5 i2 _ 1 1 Tryz.underlying25 ki kz0 kz1 kz2 rfl (by omega) _ 0 _ (by rfl) (by exact World.ownsRow_lit W #[] 0 (Nat.le_refl _) (by unfold maxLen; omega) rfl) _ 1 fc [.int .u8 z] (by rfl) (by rfl) (news_one_ (by exact e1')) (by simp [Value.oneCell']) (by omega) (by unfold maxLen; omega) (by omega) (by simp) _ (by rfl) ?_; intro x1 y1 w1 hown1 hgrow1 hat1 hlt1; have HM1 : Hid (Mod (fun _ => False) W w1) := mod_trans_up_ (Mod.of_same (by repeat (first | exact Below.refl _ _ | refine below_drew_ ?_ | refine below_alloc_ ?_ _))) (Mod.of_grownBy (row := some W.heap.size) hgrow1) (fun q hq e => by simp at e; omega); have HO1 := Lib.hid hown1; have e2 := HM1.out.cell (by simp) c2; have e3 : (w1.alloc (.cells #[.slice (some ⟨x1, 0, none⟩) 1 y1] 25)).cell? ⟨I, 2, none⟩ = some (.slice none 0 0) := ((Mod.refl (fun _ => False) w1).alloc _).cell (by simp) e2; clear hown1 hgrow1 hat1 hlt1)
      | (refine step_append_lies _ (by rfl) _ _ _ (by rfl) W.heap.size 25 i1 _ 1 24 Tryz.underlying22 hi hz0 hz1 hz2 rfl (by omega) _ 0 _ (by rfl) (owns_nil _ _ _ _) _ 1 1 [.slice (some ⟨x1, 0, none⟩) 1 y1] (by rfl) (by rfl) (news_one_ (by simp)) (by simp [Value.oneCell']) (by omega) (by unfold maxLen; omega) (by omega) (by have := HM1.out.size; simp; omega) _ (by rfl) ?_; intro x2 y2 w2 hown2 hgrow2 hat2 hlt2; have HM2 : Hid (Mod (fun _ => False) W w2) := mod_trans_up_ HM1.out (mod_trans_up_ (S := fun _ => False) (Mod.of_same (by repeat (first | exact Below.refl _ _ | refine below_drew_ ?_ | refine below_alloc_ ?_ _))) (Mod.of_grownBy (row := none) hgrow2) (fun q hq e => by simp at e)) (fun q hq e => e); have HO2 := Lib.hid hown2; have e4 := HM2.out.cell (by simp) c2; have e5 : w2.frozen? ⟨I, 2, none⟩ = false := (HM2.out.frozen (p := ⟨I, 2, none⟩) hI (by simp)).trans f2; clear hown2 hgrow2 hat2 hlt2)))
    all_goals (change K' _ _; refine hK _ _ (Met.intro (hJ _ _ ?_)); (repeat apply Exists.intro); refine ⟨?_, rfl⟩)
    all_goals (
      have hb2 := HBOX.out.mod HM2.out (by simp)
      have hms := mod_set_ w2 I 2 (.slice (some ⟨x2, 0, none⟩) 1 y2)
      exact ⟨x2, y2, hb2.setF _, ⟨some ⟨x1, 0, none⟩, y1, owns_keep_at_ HO2.out hb2 hms (by decide)⟩, (HM2.out.mono (by simp)).trans hms⟩)
  case rest =>
    clear c0 c1 c2 c3 c4 c5 c6 f2 f3
    obtain ⟨g, c, hb, ⟨fa, c', hr⟩, hm⟩ := hcut
    obtain ⟨c0, c1, c2, c3, c4, c5, c6⟩ := hb.cells
    obtain ⟨-, -, f3, -, -⟩ := hb.cool
    have HB1 := Lib.hid hb
    have HR1 := Lib.hid hr
    have HM1 := Lib.hid hm
    clear hb hr hm
    go_upto_region 7 with fail
    have hms := mod_set_ wc I 3 (.int .i64 1)
    have hbs := HB1.out.setPut 1
    have hrs := owns_keep_at_ HR1.out HB1.out hms (by decide)
    have HM2 := Lib.hid (HM1.out.trans hms)
    have HB2 := Lib.hid hbs
    have HR2 := Lib.hid hrs
    have HS2 := Lib.hid (HSLOT.out.mod HM2.out (fun e => hIB e.symm))
    clear hms hbs hrs c0 c1 c2 c3 c4 c5 c6 f3
    generalize wc.setCell ⟨I, 3, none⟩ (.int .i64 1) = W3 at *
    go_wp2_with fail
    refine (on_one W3 I B g c _ idle fa c' HB2.out HS2.out HR2.out).mono ?_; rintro e W4 ⟨vo, rfl, ho, hb4, hs4, hm4⟩
    have hsz := HM2.out.size
    have hgW : W.heap.size ≤ g := ownBlock_ge_ HR2.out rfl
    have HO4 : Hid (OutRow W4 W.heap.size vo 1) := by
      obtain ⟨vs, hvl, hvo, hve⟩ := ho
      exact ⟨vs, hvl, ownsRow_base hvo hsz, fun i hi => ownsRow_base (hve i hi) hsz⟩
    have HB4 := Lib.hid hb4
    have HS4 := Lib.hid hs4
    have HM4 : Hid (Mod (fun k => k = I ∨ k = B) W W4) := mod_trans_up_ (HM2.out.mono (fun k _ h => .inl h)) hm4 (fun q hq e => by omega)
    clear ho hb4 hs4 hm4
    go_wp2_with fail
    go_ret2
    exact ⟨vo, rfl, HO4.out, HB4.out, HS4.out, HM4.out⟩
end Resp
end Go.Proofs.YtdfmgneicdpjmaaGreat
