import Derived.Test.YtdfmgneicdpjmaaGreatW35
import Derived.Deep.RegionHeld3
import Derived.BigQuiet
import Derived.Test.YtdfmgneicdpjmaaGreatM21
import Derived.Test.YtdfmgneicdpjmaaGreatM33
import Derived.Test.YtdfmgneicdpjmaaGreatM19
import Derived.Test.YtdfmgneicdpjmaaGreatM16
namespace Go.Proofs.YtdfmgneicdpjmaaGreat
open Go.RowKit Go.Shelf
attribute [local go_sem] Oper.semAt_some
set_option linter.unusedVariables false
set_option linter.unusedSimpArgs false
set_option maxRecDepth 100000
namespace Eng
open Resp
theorem PrcsAt.take {W : World} {a : Option Addr} {n : Nat} {ps : List Prc} (h : PrcsAt W a n ps) {i : Nat} (hi : i ≤ n) : PrcsAt W a i (ps.take i) :=
 ⟨by rw [List.length_take, h.1]; omega, fun k x hx => by
   have hk : k < (ps.take i).length := (List.getElem?_eq_some_iff.1 hx).1
   rw [List.length_take] at hk
   rw [List.getElem?_take, if_pos (by omega)] at hx
   exact h.2 k x hx⟩
def leftV (f : Fdn) (ps : List Prc) (i : Nat) : Int := (ps.take i).foldl (fun l q => wrap64 (l - q.cells)) f.cells
theorem leftV_succ {f : Fdn} {ps : List Prc} {k : Nat} {q : Prc} (hq : ps[k]? = some q) : leftV f ps (k + 1) = wrap64 (leftV f ps k - q.cells) := by
 unfold leftV
 rw [List.take_add_one, hq, List.foldl_append]
 rfl
noncomputable def procE (f : Fdn) (ps : List Prc) (i : Nat) (x : Prc) : Int :=
 if nameR x.name = false then 262 else if hasP (fun q => decide (q.name = x.name)) (ps.take i) i = true then 263 else if x.cells < 0 ∨ leftV f ps i < x.cells then 264 else if ¬ cpE x.prog = 0 then 265 else if ¬ (dmV f x).2 = 0 then 266 else 0
def PcP (v : Int) (W : World) (e : Ending) (w' : World) : Prop := e = .returned (.int .i64 v) ∧ Below W.heap.size W w'
theorem PcP.mk {v x : Int} {W w' : World} (h : v = x) (hb : Below W.heap.size W w') : PcP v W (.returned (.int .i64 x)) w' := by rw [PcP, h]; exact ⟨rfl, hb⟩
set_option maxHeartbeats 4000000 in
theorem process_any (f : Fdn) (hf : FdnOk f) (a : Option Addr) (n c : Nat) (hnc : n ≤ c) (hn : n ≤ 100000) (ps : List Prc) (hok : ∀ x ∈ ps, PrcOk x) (i : Nat) (x : Prc) (hx : ps[i]? = some x) (W : World) (h : PrcsAt W a n ps) :
   Calls Tryz.prog 204 #[fedV f (.slice a n c), .int .i64 (i : Int)] W (PcP (procE f ps i x) W) := by
 have hi : i < n := by have := (List.getElem?_eq_some_iff.1 hx).1; have := h.1; omega
 have hiI : (i : Int) < n := by omega
 have hiC : (i : Int) ≤ c := by omega
 obtain ⟨b, o, pv, hab, hin, hpv⟩ := h.2 i x hx
 subst hab
 have HV : Hid (procE f ps i x = if nameR x.name = false then 262 else if hasP (fun q => decide (q.name = x.name)) (ps.take i) i = true then 263 else if x.cells < 0 ∨ leftV f ps i < x.cells then 264 else if ¬ cpE x.prog = 0 then 265 else if ¬ (dmV f x).2 = 0 then 266 else 0) := rfl
 generalize procE f ps i x = V at *
 have HP := Lib.hid h
 have HIN := Lib.hid hin
 have HPV := Lib.hid hpv
 have HX := Lib.hid hx
 have HOK := Lib.hid hok
 have HXO := Lib.hid (hok x (List.mem_of_getElem? hx))
 have HFO := Lib.hid hf
 obtain ⟨pa, pc, hpvv, -⟩ := hpv
 subst hpvv
 clear h hin hx hok hf
 unfold fedV fedL
 go_enter Tryz.func204, Tryz.ntmps204
 go_wp2_with fail
 have HB := Lib.hid ((Below.refl W.heap.size W).alloc (Nat.le_refl _) (.cells (fedL f (.slice (some ⟨b, o, none⟩) n c)).toArray 84))
 have HF : Hid (FedAt (W.alloc (.cells (fedL f (.slice (some ⟨b, o, none⟩) n c)).toArray 84)) W.heap.size f (.slice (some ⟨b, o, none⟩) n c)) := World.alloc_heap_new W _
 unfold fedL at HB HF
 generalize W.alloc (.cells [.int .u64 f.seed, .int .i64 f.ahead, .int .i64 f.events, .int .i64 f.cells, .int .i64 f.ports, .int .i64 f.fuel, .int .i64 f.windows, .slice (some ⟨b, o, none⟩) n c].toArray 84) = w1 at *
 obtain ⟨-, -, -, f3, -, -, -, f7⟩ := HF.out.cells
 have HIN1 : Hid (PrcIn w1 b (o + i * 3) x (.slice pa x.prog.length pc)) := by
   have hm : Mod (fun _ => False) W w1 := Mod.of_same HB.out
   exact ⟨hm.cell (fun h => h) HIN.out.1, hm.cell (fun h => h) HIN.out.2.1, hm.cell (fun h => h) HIN.out.2.2⟩
 obtain ⟨c0, c1, c2⟩ := HIN1.out
 have hb1 : b < w1.heap.size := World.block_lt_of_cell? w1 _ c0
 have hW1 : W.heap.size < w1.heap.size := (Array.getElem?_eq_some_iff.1 (show w1.heap[W.heap.size]? = _ from HF.out)).1
 go_cut [5, 6] from 12 (fun s5 s6 wx => ∃ P, s5 = .pointer (some ⟨P, 0, none⟩) ∧ s6 = .slice (some ⟨b, o, none⟩) i c ∧ Hid (PrcAt wx P x (.slice pa x.prog.length pc)) ∧ w1.heap.size ≤ P ∧ Hid (Below w1.heap.size w1 wx))
 case first =>
   rename_i J K' hJ hK
   go_region
   all_goals (change K' _ _; refine hK _ _ (Met.intro (hJ _ _ ?_)); (repeat apply Exists.intro); refine ⟨?_, rfl⟩)
   all_goals exact ⟨_, rfl, rfl, World.alloc_heap_new w1 _, Nat.le_refl _, below_drew_ ((Below.refl _ _).alloc (Nat.le_refl _) _)⟩
 case rest =>
   obtain ⟨P, rfl, rfl, HPA, hP, HBC⟩ := hcut
   have HFc : Hid (FedAt wc W.heap.size f (.slice (some ⟨b, o, none⟩) n c)) := (Mod.of_same (S := fun _ => False) HBC.out).heap HF.out (fun h => h)
   have HBc : Hid (Below W.heap.size W wc) := HB.out.trans (HBC.out.mono HB.out.size)
   have HPS : Hid (PrcsAt wc (some ⟨b, o, none⟩) n ps) := HP.out.below HBc.out
   have f3c := HFc.out.cells.2.2.2.1
   have HPLT : Hid (W.heap.size ≤ P) := by unfold Hid; omega
   clear c0 c1 c2 hb1 hW1 f3 f7 hP HIN1 HF HB HBC
   go_wp2_with fail
   go_loopw [7, 25] (fun l7 i7 wr => ∃ k : Nat, k ≤ i ∧ i7 = .int .i64 k ∧ l7 = .int .i64 (leftV f ps k) ∧ Hid (Below wc.heap.size wc wr)) (fun _ i7 _ => i - (intOf i7).toNat)
   case atStart => exact ⟨0, Nat.zero_le _, rfl, rfl, Below.refl _ _⟩
   case round =>
     obtain ⟨k, hk, rfl, rfl, HBr⟩ := hrel
     by_cases hlt : k < i
     · have hltI : (k : Int) < i := by omega
       obtain ⟨q, hq⟩ : ∃ q, ps[k]? = some q := ⟨ps[k]'(by have := HPS.out.1; omega), List.getElem?_eq_getElem _⟩
       obtain ⟨b2, o2, qv, hab2, ⟨d0, d1, d2⟩, ⟨qa, qc, rfl, -⟩⟩ := (HPS.out.below HBr.out).2 k q hq
       obtain ⟨rfl, rfl⟩ : b = b2 ∧ o = o2 := by simpa using hab2
       have HL := Lib.hid (leftV_succ (f := f) hq)
       have hma : Mod (fun _ => False) wr (wr.alloc (.cells #[.string q.name, .int .i64 q.cells, .slice qa q.prog.length qc] 173)) := (Mod.refl _ _).alloc _
       have HBa := Lib.hid (HBr.out.trans (hma.below HBr.out.size (fun _ _ h => h)))
       generalize leftV f ps k = lk at *
       clear hq hab2 hma
       go_wp2_with fail
       exact ⟨⟨k + 1, by omega, by simp, by rw [HL.out], HBa.out⟩, by simp [intOf]; omega⟩
     · obtain rfl : k = i := by omega
       have HPr : Hid (PrcAt wr P x (.slice pa x.prog.length pc)) := (Mod.of_same (S := fun _ => False) HBr.out).heap HPA.out (fun h => h)
       have HFr : Hid (FedAt wr W.heap.size f (.slice (some ⟨b, o, none⟩) n c)) := (Mod.of_same (S := fun _ => False) HBr.out).heap HFc.out (fun h => h)
       have HBR : Hid (Below W.heap.size W wr) := HBc.out.trans (HBr.out.mono HBc.out.size)
       have HNM := Lib.hid (NameRight_any x.name)
       obtain ⟨p0, p1, p2⟩ := HPr.out.cells
       generalize hlv : leftV f ps k = lv at *
       clear HFc HBc HPS f3c HPA HBr hlv
       go_wp2_with fail
       refine (HNM.out wr).mono ?_; rintro e w2 ⟨rfl, hb2⟩
       have HP2 : Hid (PrcAt w2 P x (.slice pa x.prog.length pc)) := (Mod.of_same (S := fun _ => False) hb2).heap HPr.out (fun h => h)
       have HF2 : Hid (FedAt w2 W.heap.size f (.slice (some ⟨b, o, none⟩) n c)) := (Mod.of_same (S := fun _ => False) hb2).heap HFr.out (fun h => h)
       have HB2 : Hid (Below W.heap.size W w2) := HBR.out.trans (hb2.mono HBR.out.size)
       clear hb2 HPr HFr HBR HNM p0 p1 p2
       cases hnm : nameR x.name with
       | false =>
         have HR : Hid (V = 262) := by rw [Hid, HV.out, if_pos hnm]
         clear HV hnm
         go_wp2_with fail
         go_ret
         exact PcP.mk HR.out HB2.out
       | true =>
         have HV2 := Lib.hid (HV.out.trans (if_neg (by rw [hnm]; decide)))
         clear HV hnm
         have HCF := Lib.hid (ContainsFuncP_any 245 #[.pointer (some ⟨P, 0, none⟩)] (fun q => decide (q.name = x.name)) (some ⟨b, o, none⟩) k c (ps.take k) (by omega) w2 ((HP.out.below HB2.out).take (by omega)) (enters_of Tryz.func245 (by kernel_rfl) rfl)
           (fun W' y qv hb => process3_any P x _ y qv W' ((Mod.of_same (S := fun _ => False) hb).heap HP2.out (fun h => h))))
         go_wp2_with fail
         refine HCF.out.mono ?_; rintro e w3 ⟨rfl, hb3⟩
         have HP3 : Hid (PrcAt w3 P x (.slice pa x.prog.length pc)) := (Mod.of_same (S := fun _ => False) hb3).heap HP2.out (fun h => h)
         have HF3 : Hid (FedAt w3 W.heap.size f (.slice (some ⟨b, o, none⟩) n c)) := (Mod.of_same (S := fun _ => False) hb3).heap HF2.out (fun h => h)
         have HB3 : Hid (Below W.heap.size W w3) := HB2.out.trans (hb3.mono HB2.out.size)
         clear hb3 HP2 HF2 HB2 HCF
         obtain ⟨p0, p1, p2⟩ := HP3.out.cells
         cases hhp : hasP (fun q => decide (q.name = x.name)) (ps.take k) k with
         | true =>
           have HR : Hid (V = 263) := by rw [Hid, HV2.out, if_pos hhp]
           clear HV2 hhp
           go_wp2_with fail
           go_ret
           exact PcP.mk HR.out HB3.out
         | false =>
           have HV3 := Lib.hid (HV2.out.trans (if_neg (by rw [hhp]; decide)))
           clear HV2 hhp
           by_cases h0 : x.cells < 0
           · have h0' : decide (x.cells < 0) = true := decide_eq_true h0
             have HR : Hid (V = 264) := by rw [Hid, HV3.out, if_pos (.inl h0)]
             clear HV3
             go_wp2_with fail
             go_ret
             exact PcP.mk HR.out HB3.out
           have h0' : decide (x.cells < 0) = false := decide_eq_false h0
           by_cases h1 : lv < x.cells
           · have h1' : decide (lv < x.cells) = true := decide_eq_true h1
             have HR : Hid (V = 264) := by rw [Hid, HV3.out, if_pos (.inr h1)]
             clear HV3
             go_wp2_with fail
             go_ret
             exact PcP.mk HR.out HB3.out
           have h1' : decide (lv < x.cells) = false := decide_eq_false h1
           have HV4 := Lib.hid (HV3.out.trans (if_neg (by rintro (h | h) <;> omega)))
           have HC1 := Lib.hid (process1_any P x _ HXO.out w3 HP3.out (HPV.out.below HB3.out))
           clear HV3
           go_wp2_with fail
           refine HC1.out.mono ?_; rintro e w4 ⟨rfl, hb4⟩
           have HP4 : Hid (PrcAt w4 P x (.slice pa x.prog.length pc)) := (Mod.of_same (S := fun _ => False) hb4).heap HP3.out (fun h => h)
           have HF4 : Hid (FedAt w4 W.heap.size f (.slice (some ⟨b, o, none⟩) n c)) := (Mod.of_same (S := fun _ => False) hb4).heap HF3.out (fun h => h)
           have HB4 : Hid (Below W.heap.size W w4) := HB3.out.trans (hb4.mono HB3.out.size)
           clear hb4 HP3 HF3 HB3 HC1 p0 p1 p2
           by_cases h2 : cpE x.prog = 0
           · have HV5 := Lib.hid (HV4.out.trans (if_neg (by simp [h2])))
             have HC2 := Lib.hid (process2_any W.heap.size P f _ x _ HXO.out w4 HF4.out HP4.out (HPV.out.below HB4.out))
             rw [decide_eq_false (show ¬ ¬ cpE x.prog = 0 by simp [h2])]
             clear HV4 h2
             go_wp2_with fail
             refine HC2.out.mono ?_; rintro e w5 ⟨rfl, hb5⟩
             have HB5 : Hid (Below W.heap.size W w5) := HB4.out.trans (hb5.mono HB4.out.size)
             clear hb5 HP4 HF4 HB4 HC2
             by_cases h3 : (dmV f x).2 = 0
             · have HR : Hid (V = 0) := by rw [Hid, HV5.out, if_neg (by simp [h3])]
               rw [decide_eq_false (show ¬ ¬ (dmV f x).2 = 0 by simp [h3])]
               clear HV5 h3
               go_wp2_with fail
               go_ret
               exact PcP.mk HR.out HB5.out
             · have HR : Hid (V = 266) := by rw [Hid, HV5.out, if_pos h3]
               rw [decide_eq_true h3]
               clear HV5 h3
               go_wp2_with fail
               go_ret
               exact PcP.mk HR.out HB5.out
           · have HR : Hid (V = 265) := by rw [Hid, HV4.out, if_pos h2]
             rw [decide_eq_true h2]
             clear HV4 h2
             go_wp2_with fail
             go_ret
             exact PcP.mk HR.out HB4.out
end Eng
end Go.Proofs.YtdfmgneicdpjmaaGreat

namespace Go.Proofs.YtdfmgneicdpjmaaGreat
open Go.RowKit Go.Shelf
attribute [local go_sem] Oper.semAt_some
set_option linter.unusedVariables false
set_option linter.unusedSimpArgs false
set_option maxRecDepth 100000
namespace Eng
open Resp
attribute [-go_sem] Instr.loadAt
attribute [local go_sem] ld_opn2 fed_cells
def prcZ : Prc := ⟨⟨#[]⟩, 0, []⟩
noncomputable def prE (f : Fdn) (ps : List Prc) (i : Nat) : Int := procE f ps i (ps[i]?.getD prcZ)
def nmOkB (f : Fdn) : Bool := decide (∀ k : Fin 6, loN k ≤ fdnN f k ∧ fdnN f k ≤ hiN k)
noncomputable def fchkV (f : Fdn) (ps : List Prc) : Int × Int :=
 if nmOkB f = false then (0, 260) else if ps.length < 1 ∨ 16 < ps.length then (0, 261) else
   match (List.range ps.length).find? (fun i => decide (¬ prE f ps i = 0)) with
   | some i => ((i : Int) + 1, prE f ps i)
   | none => (0, 0)
def FcP (v : Int × Int) (W : World) (e : Ending) (w' : World) : Prop := e = .returned (.tuple #[.int .i64 v.1, .int .i64 v.2]) ∧ Below W.heap.size W w'
theorem FcP.mk {v : Int × Int} {x y : Int} {W w' : World} (h : v = (x, y)) (hb : Below W.heap.size W w') : FcP v W (.returned (.tuple #[.int .i64 x, .int .i64 y])) w' := by rw [FcP, h]; exact ⟨rfl, hb⟩
theorem FedAt.below {W W' : World} {B : Nat} {f : Fdn} {pv : Value} (h : FedAt W B f pv) (hb : Below W.heap.size W W') : FedAt W' B f pv := (Mod.of_same (S := fun _ => False) hb).heap h (fun h => h)
set_option maxHeartbeats 4000000 in
theorem FedCheck_any (f : Fdn) (hf : FdnOk f) (a : Option Addr) (n c : Nat) (hnc : n ≤ c) (hn : n ≤ 100000) (ps : List Prc) (hok : ∀ x ∈ ps, PrcOk x) (W : World) (h : PrcsAt W a n ps) :
   Calls Tryz.prog 155 #[fedV f (.slice a n c)] W (FcP (fchkV f ps) W) := by
 have hpl := h.1
 have HV : Hid (fchkV f ps = if nmOkB f = false then (0, 260) else if n < 1 ∨ 16 < n then (0, 261) else
   match (List.range n).find? (fun i => decide (¬ prE f ps i = 0)) with
   | some i => ((i : Int) + 1, prE f ps i)
   | none => (0, 0)) := by rw [← hpl]; rfl
 generalize fchkV f ps = V at *
 have HP := Lib.hid h
 have HOK := Lib.hid hok
 have HFO := Lib.hid hf
 have HPL := Lib.hid hpl
 have hnI : (n : Int) ≤ 100000 := by omega
 have HPR := Lib.hid (fun i x hx W h => process_any f hf a n c hnc hn ps hok i x hx W h)
 clear h hok hf hpl
 show Calls _ _ #[.agg (fedL f (.slice a n c)).toArray] _ _
 go_enter Tryz.func155, Tryz.ntmps155
 go_wp2_with fail
 have hF : FedAt (W.alloc (.cells (fedL f (.slice a n c)).toArray 84)) W.heap.size f (.slice a n c) := World.alloc_heap_new W _
 have hB : Below W.heap.size W (W.alloc (.cells (fedL f (.slice a n c)).toArray 84)) := (Below.refl _ _).alloc (Nat.le_refl _) _
 have HF := Lib.hid hF
 have HB := Lib.hid hB
 clear hF hB
 generalize W.alloc (.cells (fedL f (.slice a n c)).toArray 84) = w1 at *
 refine wp_scope_straight ?_
 go_wp2_with fail
 refine wp_label ?_
 go_wp2_with fail
 refine (FdNumbers_any W.heap.size w1).mono ?_; rintro e w2 ⟨N, rfl, hN, hNl, hb2⟩
 have HN := Lib.hid hN
 have HF2 : Hid (FedAt w2 W.heap.size f (.slice a n c)) := HF.out.below hb2
 have HB2 : Hid (Below W.heap.size W w2) := HB.out.trans (hb2.mono HB.out.size)
 clear hN hNl hb2 HF HB
 go_wp2_with fail
 go_loopw [4, 12] (fun r i wr => ∃ k : Nat, k ≤ 6 ∧ r = .bool true ∧ i = .int .i64 k ∧ Hid (∀ j, j < k → loN j ≤ fdnN f j ∧ fdnN f j ≤ hiN j) ∧ Hid (Below w2.heap.size w2 wr)) (fun _ i _ => 6 - (intOf i).toNat)
 case atStart => exact ⟨0, by omega, rfl, rfl, fun j hj => by omega, Below.refl _ _⟩
 case round =>
   obtain ⟨k, hk, rfl, rfl, HOKk, HBr⟩ := hrel
   have HNr : Hid (NumAt wr N W.heap.size) := (Mod.of_same (S := fun _ => False) HBr.out).heap HN.out (fun h => h)
   have HFr : Hid (FedAt wr W.heap.size f (.slice a n c)) := HF2.out.below HBr.out
   have HBR : Hid (Below W.heap.size W wr) := HB2.out.trans (HBr.out.mono HB2.out.size)
   by_cases hlt : k < 6
   · have hltI : (k : Int) < 6 := by omega
     obtain ⟨n0, n1, n2⟩ := HNr.out.at_ hlt
     have v0 := HFr.out.at_ hlt
     obtain ⟨-, -, -, -, -, -, -, f7⟩ := HFr.out.cells
     have hFlt : W.heap.size < wr.heap.size := (Array.getElem?_eq_some_iff.1 (show wr.heap[W.heap.size]? = _ from HFr.out)).1
     obtain ⟨val, hval⟩ : ∃ v, fdnN f k = v := ⟨_, rfl⟩
     obtain ⟨lo, hlo⟩ : ∃ v, loN k = v := ⟨_, rfl⟩
     obtain ⟨hi, hhi⟩ : ∃ v, hiN k = v := ⟨_, rfl⟩
     rw [hval] at v0
     rw [hlo] at n1
     rw [hhi] at n2
     have HVAL := Lib.hid (And.intro hval (And.intro hlo hhi))
     have HBa : Hid (Below W.heap.size W (wr.alloc (.cells #[.pointer (some ⟨W.heap.size, k + 1, none⟩), .int .i64 lo, .int .i64 hi] 315))) := HBR.out.trans (((Below.refl _ _).alloc (Nat.le_refl wr.heap.size) _).mono HBR.out.size)
     have HBb : Hid (Below w2.heap.size w2 (wr.alloc (.cells #[.pointer (some ⟨W.heap.size, k + 1, none⟩), .int .i64 lo, .int .i64 hi] 315))) := HBr.out.trans (((Below.refl _ _).alloc (Nat.le_refl wr.heap.size) _).mono HBr.out.size)
     clear hval hlo hhi
     by_cases h0 : val < lo
     · have h0' : decide (val < lo) = true := decide_eq_true h0
       have HBAD : Hid (nmOkB f = false) := by
         unfold Hid nmOkB
         refine decide_eq_false (fun hall => ?_)
         have h9 := (hall ⟨k, hlt⟩).1
         obtain ⟨e1, e2, e3⟩ := HVAL.out
         simp only at h9
         omega
       have HR : Hid (V = (0, 260)) := by rw [Hid, HV.out, if_pos HBAD.out]
       clear HV
       go_wp2_with fail
       go_quiet (fail)
       go_wp2_with fail
       try rw [Exit.noGoto_ret]
       go_ret2
       exact FcP.mk HR.out (HBa.out.trans (below_q_ _ _ |>.mono HBa.out.size))
     · have h0' : decide (val < lo) = false := decide_eq_false h0
       by_cases h1 : hi < val
       · have h1' : decide (hi < val) = true := decide_eq_true h1
         have HBAD : Hid (nmOkB f = false) := by
           unfold Hid nmOkB
           refine decide_eq_false (fun hall => ?_)
           have h9 := (hall ⟨k, hlt⟩).2
           obtain ⟨e1, e2, e3⟩ := HVAL.out
           simp only at h9
           omega
         have HR : Hid (V = (0, 260)) := by rw [Hid, HV.out, if_pos HBAD.out]
         clear HV
         go_wp2_with fail
         go_quiet (fail)
         go_wp2_with fail
         try rw [Exit.noGoto_ret]
         go_ret2
         exact FcP.mk HR.out (HBa.out.trans (below_q_ _ _ |>.mono HBa.out.size))
       · have h1' : decide (hi < val) = false := decide_eq_false h1
         have HO2 : Hid (∀ j, j < k + 1 → loN j ≤ fdnN f j ∧ fdnN f j ≤ hiN j) := by
           intro j hj
           by_cases hjk : j = k
           · subst hjk
             obtain ⟨e1, e2, e3⟩ := HVAL.out
             omega
           · exact HOKk.out j (by omega)
         go_wp2_with fail
         go_quiet (fail)
         go_wp2_with fail
         exact ⟨⟨k + 1, by omega, rfl, by simp, HO2.out, HBb.out.trans (below_q_ _ _ |>.mono HBb.out.size)⟩, by simp [intOf]; omega⟩
   · obtain rfl : k = 6 := by omega
     have HGOOD : Hid (¬ nmOkB f = false) := by
       have h9 : nmOkB f = true := by unfold nmOkB; exact decide_eq_true (fun j => HOKk.out j j.2)
       rw [Hid, h9]
       decide
     have HV2 := Lib.hid (HV.out.trans (if_neg HGOOD.out))
     obtain ⟨-, -, -, -, -, -, -, f7⟩ := HFr.out.cells
     clear HV HGOOD HOKk HNr
     by_cases h0 : n < 1
     · have hn0 : (n : Int) < 1 := by omega
       have h0' : decide ((n : Int) < 1) = true := decide_eq_true hn0
       have HR : Hid (V = (0, 261)) := by rw [Hid, HV2.out, if_pos (.inl h0)]
       clear HV2
       go_wp2_with fail
       try rw [Exit.noGoto_ret]
       go_ret2
       exact FcP.mk HR.out HBR.out
     have hn0 : ¬ (n : Int) < 1 := by omega
     have h0' : decide ((n : Int) < 1) = false := decide_eq_false hn0
     by_cases h1 : 16 < n
     · have hn1 : (16 : Int) < n := by omega
       have h1' : decide ((16 : Int) < n) = true := decide_eq_true hn1
       have HR : Hid (V = (0, 261)) := by rw [Hid, HV2.out, if_pos (.inr h1)]
       clear HV2
       go_wp2_with fail
       try rw [Exit.noGoto_ret]
       go_ret2
       exact FcP.mk HR.out HBR.out
     have hn1 : ¬ (16 : Int) < n := by omega
     have h1' : decide ((16 : Int) < n) = false := decide_eq_false hn1
     have HV3 := Lib.hid (HV2.out.trans (if_neg (by omega)))
     clear HV2
     go_wp2_with fail
     clear f7
     go_loopw [49] (fun i ws => ∃ k : Nat, k ≤ n ∧ i = .int .i64 k ∧ Hid (∀ j, j < k → prE f ps j = 0) ∧ Hid (Below wr.heap.size wr ws)) (fun i _ => n - (intOf i).toNat)
     case atStart => exact ⟨0, by omega, rfl, fun j hj => by omega, Below.refl _ _⟩
     case round =>
       obtain ⟨k, hk, rfl, HPk, HBs⟩ := hrel
       have HFs : Hid (FedAt wr W.heap.size f (.slice a n c)) := HFr.out.below HBs.out
       have HBS : Hid (Below W.heap.size W wr) := HBR.out.trans (HBs.out.mono HBR.out.size)
       by_cases hlt : k < n
       · have hltI : (k : Int) < n := by omega
         have hld := ld_fed HFs.out
         obtain ⟨x, hx⟩ : ∃ x, ps[k]? = some x := ⟨ps[k]'(by have := HPL.out; omega), List.getElem?_eq_getElem _⟩
         have HCP := Lib.hid (HPR.out k x hx wr (HP.out.below HBS.out))
         have HPE : Hid (prE f ps k = procE f ps k x) := by rw [Hid, prE, hx]; rfl
         clear hx
         go_wp2_with fail
         refine HCP.out.mono ?_; rintro e w4 ⟨rfl, hb4⟩
         have HB4 : Hid (Below W.heap.size W w4) := HBS.out.trans (hb4.mono HBS.out.size)
         have HB5 := Lib.hid (HBs.out.trans (hb4.mono HBs.out.size))
         clear hb4 hld HCP
         rw [← HPE.out]
         clear HPE
         by_cases h2 : prE f ps k = 0
         · have HP2 : Hid (∀ j, j < k + 1 → prE f ps j = 0) := by
             intro j hj
             by_cases hjk : j = k
             · rw [hjk]; exact h2
             · exact HPk.out j (by omega)
           rw [h2]
           clear h2
           go_wp2_with fail
           exact ⟨⟨k + 1, by omega, by simp, HP2.out, HB5.out⟩, by simp [intOf]; omega⟩
         · have h2' : (prE f ps k == 0) = false := by simpa using h2
           have HR : Hid (V = ((k : Int) + 1, prE f ps k)) := by
             have hfd : (List.range n).find? (fun i => decide (¬ prE f ps i = 0)) = some k := by
               rw [List.find?_range_eq_some]
               exact ⟨decide_eq_true h2, List.mem_range.2 hlt, fun j hj => by rw [HPk.out j hj]; rfl⟩
             rw [Hid, HV3.out, hfd]
           clear HV3
           generalize prE f ps k = pe at *
           go_wp2_with fail
           try rw [Exit.noGoto_ret]
           go_ret2
           exact FcP.mk HR.out HB4.out
       · obtain rfl : k = n := by omega
         have HR : Hid (V = (0, 0)) := by
           have hfd : (List.range k).find? (fun i => decide (¬ prE f ps i = 0)) = none := by
             rw [List.find?_eq_none]
             intro j hj
             rw [HPk.out j (List.mem_range.1 hj)]
             decide
           rw [Hid, HV3.out, hfd]
         clear HV3
         go_wp2_with fail
         try rw [Exit.noGoto_ret]
         go_ret2
         exact FcP.mk HR.out HBS.out
end Eng
end Go.Proofs.YtdfmgneicdpjmaaGreat

namespace Go.Proofs.YtdfmgneicdpjmaaGreat
open Go.RowKit Go.Shelf
attribute [local go_sem] Oper.semAt_some
set_option linter.unusedVariables false
set_option linter.unusedSimpArgs false
set_option maxRecDepth 100000
namespace Eng
open Resp App View
def FldS (N0 q : Nat) (t : TypeId) : Prop := N0 ≤ q ∧ (t = 141 ∨ t = 137)
set_option maxHeartbeats 4000000 in
theorem AppendSeqK (gf : Nat) (lb : Array Value) (eg : ∀ args w, (callFunc gf args).run Tryz.prog w = .ok (.enter gf args) w) (ns : List (Int × List Int)) (hlen : ns.length ≤ 100000) (Ya : Nat → Value → World → World → Prop) (W : World)
   (hYa : ∀ k x W0 A, Ya k x W0 A → ∃ t bs v, ns[k]? = some (t, bs) ∧ x = .agg #[.int .i64 t, v] ∧ TB A v bs)
   {S0 : World → Prop} (hS0 : ∀ A, Below W.heap.size W A → S0 A) (hseq : SeqK Fence.wide 7 Tryz.prog gf lb (fun x : Value => #[x]) (fun _ => False) (FldS W.heap.size) S0 Ya ns.length) :
   Calls Tryz.prog 198 #[.slice none 0 0, .func (.func gf) #[] lb] W fun e w' => ∃ v l, e = .returned v ∧ tbs l = ns ∧ FTB w' W.heap.size v l ∧ Below W.heap.size W w' := by
 obtain ⟨i1, hi, hz0, hz1, hz2⟩ := info_parts infoField2
 refine (callsIn_wide (n := 8)).1 ?_
 refine callsIn_of_wp_marks Tryz.func198 rfl trivial ?_ rfl
 simp only [Tryz.ntmps198, List.size_toArray, List.length_cons, List.length_nil, Nat.reduceAdd, Nat.reduceSub, Array.replicate_succ, Array.replicate_zero, List.push_toArray, List.append_toArray, List.nil_append, List.cons_append]
 refine wpIn_wide.2 ?_
 have HEG := Lib.hid eg
 have HYA := Lib.hid hYa
 have HSEQ := Lib.hid hseq
 have HS0 := Lib.hid hS0
 clear eg hYa hS0 hseq
 go_wp2_with fail
 have hm1 : Mod (fun _ => False) W (W.alloc (.cells #[.slice none 0 0] 137)) := (Mod.refl _ _).alloc _
 have hS := World.alloc_heap_new W (.cells #[.slice none 0 0] 137)
 have hsz : (W.alloc (.cells #[.slice none 0 0] 137)).heap.size = W.heap.size + 1 := by show (W.heap.push _).size = _; rw [Array.size_push]
 generalize W.alloc (.cells #[.slice none 0 0] 137) = W1 at *
 have HB1 : Hid (Below W.heap.size W W1) := hm1.below (Nat.le_refl _) (fun _ _ h => h)
 have HI0 : Hid (ClI W W.heap.size ns 0 W1) := ⟨_, [], hS, rfl, ⟨owns_nil _ _ _ _, by simp⟩, HB1.out, by omega⟩
 have HSZ := Lib.hid hsz
 have HM1 := Lib.hid hm1
 clear hm1 hS hsz
 refine (wpIn_wide (n := 8)).1 ?_
 refine wpIn_rangeFunc_k rfl (by omega) (gf := gf) (lb := lb) rfl trivial HEG.out (fun _ => rfl)
   HSEQ.out
   (fun k hk => hk.elim)
   (fun A' hA => HS0.out _ (HB1.out.trans (hA.mono HB1.out.size)))
   (ClI W W.heap.size ns)
   (fun k A' A'' hI' hm => hI'.mod hm)
   (fun k A' l o1 o' hl hlo ho hI' => hI'.put _ hlo ho (by have := HSZ.out; omega))
   (fun _ _ => False)
   (fun _ _ _ h _ => h)
   (fun _ _ _ _ _ _ _ _ h => h)
   HI0.out
   (ClAs W W.heap.size ns (fun E x => { tmps := #[.slice none 0 0, .func (.func gf) #[] lb, .pointer (some ⟨W.heap.size, 0, none⟩), undef, .slice none 0 0, .pointer (some ⟨E, 0, none⟩), .func (.func gf) #[] lb, x, undef, undef, undef, undef, undef], defers := [] }))
   (fun k a' A' l o1 o' hl hlo ho hA => by
     obtain ⟨t, bs, v, E, sv, ll, h1, h2, h3, h4, h5, h6, h7, h9, h10, h11⟩ := hA
     have hne : ∀ {q : Nat} {cs : Array Value} {t : TypeId}, A'.heap[q]? = some (.cells cs t) → ¬ q = l := fun hq e => by
       rw [e, hlo] at hq; cases hq; cases ho
     have hm := mod_put_ A' l o'
     have hlb : W.heap.size ≤ l := by have := HSZ.out; omega
     exact ⟨t, bs, v, E, sv, ll, h1, h2, hm.heap h3 (hne h3), h4.put o' hlo ho, hm.heap h5 (hne h5), h6, h7.put o' hlo ho, h9, h10.trans (hm.below h10.size (fun q hq e => by omega)), Nat.lt_of_lt_of_le h11 hm.size⟩)
   ?assign ?body ?done ?stop
 case assign =>
   intro l k x W0 Wc K hk hsz hI' hm0 hY hK
   obtain ⟨t, bs, v, he, rfl, hf⟩ := HYA.out _ _ _ _ hY
   obtain ⟨sv, ll, i1, i2, i3, i4, i5⟩ := hI'
   obtain ⟨xa, xc, rfl⟩ := hf.form
   have hma : Mod (fun _ => False) Wc (Wc.alloc (.cells #[.int .i64 t, .slice xa bs.length xc] 141)) := (Mod.refl _ _).alloc _
   have hmt := hm0.trans hma
   have has : ClAs W W.heap.size ns (fun E x => { tmps := #[.slice none 0 0, .func (.func gf) #[] lb, .pointer (some ⟨W.heap.size, 0, none⟩), undef, .slice none 0 0, .pointer (some ⟨E, 0, none⟩), .func (.func gf) #[] lb, x, undef, undef, undef, undef, undef], defers := [] }) k { tmps := #[.slice none 0 0, .func (.func gf) #[] lb, .pointer (some ⟨W.heap.size, 0, none⟩), undef, .slice none 0 0, .pointer (some ⟨Wc.heap.size, 0, none⟩), .func (.func gf) #[] lb, .agg #[.int .i64 t, .slice xa bs.length xc], undef, undef, undef, undef, undef], defers := [] } (Wc.alloc (.cells #[.int .i64 t, .slice xa bs.length xc] 141)) := by
     have hlt : ∀ g, sv.ownBlock = some g → g < W0.heap.size := fun g hg => (i3.1.lt g hg).2
     refine ⟨t, bs, .slice xa bs.length xc, Wc.heap.size, sv, ll, he, rfl, World.alloc_heap_new _ _, hf.mod hma, hmt.heap i1 (fun h => h), i2, i3.mod hmt, fun e => ?_, below_mod_ (Nat.le_refl _) _ _ i4 hmt, Nat.lt_of_lt_of_le i5 hmt.size⟩
     have h1 := hlt _ e.symm
     have h2 := hm0.size
     omega
   have hkf : KeepsFrom W1.heap.size Wc (Wc.alloc (.cells #[.int .i64 t, .slice xa bs.length xc] 141)) := keepsFrom_mod_ hma (fun q o1 _ h => h.elim)
   have HAS := Lib.hid has
   have HKF := Lib.hid hkf
   have HMA := Lib.hid hma
   clear has hkf hma hmt hf i1 i2 i3 i4 i5 he hY
   gi_wp2
   exact hK _ _ HKF.out HMA.out HAS.out
 case body =>
   intro l k a' Wc hk hA
   obtain ⟨t, bs, v, E, sv, ll, he, rfl, hE, hf, hSv, hll, hgr, hEo, hmW, hSlt⟩ := hA
   obtain ⟨xa, xc, rfl⟩ := hf.form
   obtain ⟨va, vc, rfl⟩ := ownsRow_form hgr.1
   obtain ⟨p0, p1⟩ := fld_cells hE
   have q0 := cell_of_heap_ hSv
   have qf : Wc.frozen? ⟨W.heap.size, 0, none⟩ = false := by simp [World.frozen?, hSv]
   have HE := Lib.hid hE
   have HF := Lib.hid hf
   have HSV := Lib.hid hSv
   have HLL := Lib.hid hll
   have HGR := Lib.hid hgr
   have HMW := Lib.hid hmW
   have HEE := Lib.hid he
   have hle : ll.length ≤ 100000 := by
     have := congrArg List.length hll
     rw [tbs_length] at this
     have h2 := List.length_take_le k ns
     omega
   clear hE hf hSv hll hgr hmW he hEo
   have hsz : W.heap.size ≤ Wc.heap.size := HMW.out.size
   gi_wp2_with (gi_at_builtin; refine wpListIn_append_own _ rfl _ _ 137 rfl W.heap.size 141 i1 (.agg #[.int .i64 0, .slice none 0 0]) 2 32 Tryz.underlying137 hi hz0 hz1 hz2 rfl (by decide) _ ll.length _ rfl (HGR.out.1.alloc _) ⟨Wc.heap.size, 0, none⟩ 1 1 [.int .i64 t, .slice xa bs.length xc] rfl rfl (news_k_ (World.alloc_heap_new Wc (.cells #[.int .i64 t, .slice xa bs.length xc] 141))) (by simp [Value.oneCell']) (by unfold maxLen; omega) (by omega) (by simp; omega) ?_; intro v' w1 hown' hgrow _; obtain ⟨oa, oc, e1⟩ := owns_form_pos_ hown' (by omega); subst e1; have HOWN := Lib.hid hown'; have hgr' : (Wc.alloc (.cells #[.int .i64 t, .slice xa bs.length xc] 141)).grownBy w1 (Value.slice va ll.length vc).ownBlock := hgrow; have HM1b := Lib.hid (((Mod.refl _ Wc).alloc _).trans (Mod.of_grownBy hgr')); have HQ1 := Lib.hid (HM1b.out.heap HSV.out (own_other_ HGR.out.1 HSV.out (by decide))); have q1 := cell_of_heap_ HQ1.out; have qf1 : w1.frozen? ⟨W.heap.size, 0, none⟩ = false := (by simp [World.frozen?, HQ1.out]); clear hown' hgrow hgr')
   have hms := mod_set_ w1 W.heap.size 0 (.slice (some ⟨oa, 0, none⟩) (ll.length + 1) oc)
   have hmt : Mod (fun q => some q = (Value.slice va ll.length vc).ownBlock ∨ q = W.heap.size) Wc (w1.setCell ⟨W.heap.size, 0, none⟩ (.slice (some ⟨oa, 0, none⟩) (ll.length + 1) oc)) := (HM1b.out.mono (fun _ _ h => .inl h)).trans (hms.mono (fun _ _ h => .inr h))
   have hge : ∀ q, some q = (Value.slice va ll.length vc).ownBlock → W.heap.size ≤ q := fun q h => ownBlock_ge_ HGR.out.1 h.symm
   have hbW2 : Below W.heap.size W (w1.setCell ⟨W.heap.size, 0, none⟩ (.slice (some ⟨oa, 0, none⟩) (ll.length + 1) oc)) := HMW.out.trans (hmt.below hsz (fun q hq h => by
     rcases h with h | h
     · have := hge q h; omega
     · omega))
   refine ⟨keepsFrom_mod_ hmt ?_, ⟨.slice (some ⟨oa, 0, none⟩) (ll.length + 1) oc, ll ++ [(t, .slice xa bs.length xc, bs)], ?_, ?_, ?_, hbW2, Nat.lt_of_lt_of_le hSlt hmt.size⟩, CellsK.of_mod hmt (fun q cs t fr h hq => ?_)⟩
   · rintro q o1 hq (h | h) ho
     · exact own_isCells_ HGR.out.1 h ho
     · have := HSZ.out; omega
   · have := heap_set_ HQ1.out 0 (.slice (some ⟨oa, 0, none⟩) (ll.length + 1) oc)
     simpa using this
   · have h9 := HLL.out
     unfold tbs at h9 ⊢
     rw [List.map_append, h9, List.take_add_one, HEE.out]
     rfl
   · exact (HGR.out.push HF.out HOWN.out HM1b.out).keep_at HQ1.out hms (by decide) (by decide)
   · rcases h with h | h
     · rcases HGR.out.1.2 with ⟨h1, -⟩ | ⟨g', cap, cur, h1, hbg, hg', -⟩
       · rw [h1] at h; cases h
       · rw [h1] at h
         obtain rfl : q = g' := Option.some.inj h
         rw [hg'] at hq
         cases hq
         exact ⟨hbg, .inl rfl⟩
     · subst h
       rw [HSV.out] at hq
       cases hq
       exact ⟨Nat.le_refl _, .inr rfl⟩
 case done =>
   intro D Wc hD hI' hK
   obtain ⟨sv, ll, i1, i2, i3, i4, i5⟩ := hI'
   rw [List.take_of_length_le (Nat.le_refl _)] at i2
   obtain ⟨va, vc, rfl⟩ := ownsRow_form i3.1
   have q0 := cell_of_heap_ i1
   have H2 := Lib.hid i2
   have H3 := Lib.hid i3
   have H4 := Lib.hid i4
   have HK := Lib.hid hK
   clear i1 i2 i3 i4 hK
   simp only [Exit.inBlock, Exit.then]
   go_wp2_with fail
   refine ⟨by simp, .inl ⟨_, _, rfl, run_takeDeferred HK.out, ?_⟩⟩
   exact ⟨_, results_tmp rfl _ _ _, _, ll, rfl, H2.out, H3.out.put _ HK.out rfl, H4.out.trans ((mod_put_ Wc D _).below H4.out.size (fun q hq e => by have := HSZ.out; omega))⟩
 case stop =>
   intro D c' W' hD h
   exact h.elim
theorem CollectK (gf : Nat) (lb : Array Value) (eg : ∀ args w, (callFunc gf args).run Tryz.prog w = .ok (.enter gf args) w) (ns : List (Int × List Int)) (hlen : ns.length ≤ 100000) (Ya : Nat → Value → World → World → Prop) (W : World)
   (hYa : ∀ k x W0 A, Ya k x W0 A → ∃ t bs v, ns[k]? = some (t, bs) ∧ x = .agg #[.int .i64 t, v] ∧ TB A v bs)
   {S0 : World → Prop} (hS0 : ∀ A, Below W.heap.size W A → S0 A) (hseq : SeqK Fence.wide 7 Tryz.prog gf lb (fun x : Value => #[x]) (fun _ => False) (FldS W.heap.size) S0 Ya ns.length) :
   Calls Tryz.prog 153 #[.func (.func gf) #[] lb] W fun e w' => ∃ v l, e = .returned v ∧ tbs l = ns ∧ FTB w' W.heap.size v l ∧ Below W.heap.size W w' := by
 have HC := Lib.hid (AppendSeqK gf lb eg ns hlen Ya W hYa hS0 hseq)
 clear eg hYa hS0 hseq
 go_enter Tryz.func153, Tryz.ntmps153
 go_wp2_with fail
 refine HC.out.mono ?_; rintro e w' ⟨v, l, rfl, hl, ho, hm⟩
 have HL := Lib.hid hl
 have HO := Lib.hid ho
 have HM := Lib.hid hm
 obtain ⟨a, c, rfl⟩ := ownsRow_form ho.1
 clear ho hm hl
 go_wp2_with fail
 go_ret
 exact ⟨_, l, rfl, HL.out, HO.out, HM.out⟩
end Eng
end Go.Proofs.YtdfmgneicdpjmaaGreat
