import Derived.Test.YtdfmgneicdpjmaaGreatW37
import Derived.Test.YtdfmgneicdpjmaaGreatM01
import Derived.Test.YtdfmgneicdpjmaaGreatM23
import Derived.Deep.RegionWith
namespace Go.Proofs.YtdfmgneicdpjmaaGreat
open Go.RowKit Go.Shelf
attribute [local go_sem] Oper.semAt_some
set_option linter.unusedVariables false
set_option linter.unusedSimpArgs false
set_option maxRecDepth 100000
namespace Eng
open Resp App
def FdsSt (W0 : World) (F : Nat) (f : Fdn) (pv : Value) (W : World) : Prop := Below W0.heap.size W0 W ∧ FedAt W F f pv
theorem tag_any (i : Nat) (hi : i ≤ 1000000) (W : World) : Calls Tryz.prog 206 #[.int .i64 ((i : Int) + 1)] W fun e w' => e = .returned (.int .i64 (10 * ((i : Int) + 1))) ∧ w' = W := by
 have hw : wrap64 (10 * ((i : Int) + 1)) = 10 * ((i : Int) + 1) := by unfold wrap64; omega
 go_enter Tryz.func206, Tryz.ntmps206
 go_wp2_with fail
 go_ret
 exact ⟨by first | rfl | (rw [← hw]; rfl), rfl⟩
theorem TB.keepC {N0 : Nat} {W W' : World} {v : Value} {zs : List Int} (h : TB W v zs) (hk : CellsK (FldS N0) W W') : TB W' v zs := by
 have hS : ∀ (g : Nat) (cs : Array Value) (fr : Nat × Nat), W.heap[g]? = some (.cells cs 5 fr) → W'.heap[g]? = some (.cells cs 5 fr) := fun g cs fr hg => hk.heap hg (by simp [FldS])
 refine ⟨?_, fun g hg => ?_⟩
 · rcases h.1 with ⟨a, c, rfl, rfl⟩ | ⟨b, o, c, rfl, hl, hc⟩
   · exact .inl ⟨a, c, rfl, rfl⟩
   · refine .inr ⟨b, o, c, rfl, hl, fun i hi => ?_⟩
     obtain ⟨cs, fr, e⟩ := h.2 b rfl
     have h1 := hc i hi
     simp only [World.cell?, e] at h1
     simpa [World.cell?, hS b cs fr e] using h1
 · obtain ⟨cs, fr, e⟩ := h.2 g hg
   exact ⟨cs, fr, hS g cs fr e⟩
theorem fdnN_bd {f : Fdn} (h : FdnOk f) (k : Nat) : -9223372036854775808 ≤ fdnN f k ∧ fdnN f k < 9223372036854775808 := by
 unfold fdnN
 split
 · exact h.ahead
 · exact h.events
 · exact h.cells
 · exact h.ports
 · exact h.fuel
 · exact h.windows
set_option maxHeartbeats 8000000 in
theorem fedfields1_k (m : Nat) (hm : 1 ≤ m) (W0 : World) (F : Nat) (f : Fdn) (hf : FdnOk f) (a : Option Addr) (n c : Nat) (hn : n ≤ 100000) (ps : List Prc) (hok : ∀ x ∈ ps, PrcOk x) (hps : PrcsAt W0 a n ps) :
   SeqK Fence.wide m Tryz.prog 205 #[.pointer (some ⟨F, 0, none⟩)] (fun x : Value => #[x]) (fun _ => False) (FldS W0.heap.size) (FdsSt W0 F f (.slice a n c))
     (fun j x _ W => ∃ t bs v, (fedF f ps)[j]? = some (t, bs) ∧ x = .agg #[.int .i64 t, v] ∧ TB W v bs) (fedF f ps).length := by
 intro l J Jx W hS hJ hJx hY h0
 have HJ := Lib.hid hJ
 have HY := Lib.hid hY
 have H0 := Lib.hid h0
 have HPS := Lib.hid hps
 have HPL := Lib.hid hps.1
 have HOK := Lib.hid hok
 have HFO := Lib.hid hf
 have HLEN := Lib.hid (fedF_len f ps)
 have HC0 : Hid (CellsK (FldS W0.heap.size) W0 W) := CellsK.of_mod (Mod.of_same (S := fun _ => False) hS.1) (fun _ _ _ _ h => h.elim)
 have HF0 := Lib.hid hS.2
 have hnI : (n : Int) ≤ 100000 := by omega
 have HSQ : Hid (∀ q t, FldS W0.heap.size q t → W0.heap.size ≤ q) := fun q t h => h.1
 obtain ⟨s0, -⟩ := hS.2.cells
 obtain ⟨N, hN⟩ : ∃ N : Nat, f.seed = (N : Int) := ⟨f.seed.toNat, by have := hf.seed; omega⟩
 have hwb : N < 18446744073709551616 := by have := hf.seed; omega
 have HN : Hid (f.seed.toNat = N) := by unfold Hid; omega
 rw [hN] at s0
 clear hJ hJx hY h0 hps hok hf hS hN
 refine callsIn_of_wp Tryz.func205 rfl trivial ?_ rfl
 simp only [Tryz.ntmps205, List.size_toArray, List.length_cons, List.length_nil, Nat.reduceAdd, Nat.reduceSub, Array.replicate_succ, Array.replicate_zero, List.push_toArray, List.append_toArray, List.nil_append, List.cons_append]
 refine wpIn_wide.2 ?_
 go_upto_region 0 with fail
 refine (wpIn_wide (n := m)).1 ?_
 gi_wp2
 refine ⟨trivial, ?_⟩
 refine (callsIn_wide.2 (Number_any 1 N hwb _)).mono ?_; rintro e W1 ⟨v', rfl, ho, hb1⟩
 obtain ⟨va, vc, rfl⟩ := ownsRow_form ho
 obtain ⟨fn, tmps, assign, body, hy, hR⟩ := HY.out 0 _ W W1 (by rw [HLEN.out]; omega) H0.out (Mod.of_same hb1) ⟨1, numBytes N, _, by rw [fedF_0, HN.out], rfl, TB.of_own ho⟩
 have HRR := Lib.hid hR
 have HC1 : Hid (CellsK (FldS W0.heap.size) W0 W1) := HC0.out.fresh (Mod.of_same (S := fun _ => False) hb1) (fun _ _ _ _ _ h => h.elim)
 have HF1 := Lib.hid (HF0.out.below hb1)
 clear hR ho hb1 s0
 gi_wp2
 refine HRR.out.mono ?_
 rintro e W2 (⟨rfl, hJ2, hC2⟩ | ⟨rfl, hX⟩)
 · have HJ2 := Lib.hid hJ2
   have HC2 := Lib.hid (HC1.out.trans hC2)
   have HF2 : Hid (FedAt W2 F f (.slice a n c)) := hC2.heap HF1.out (by simp [FldS])
   clear hJ2 hC2 HRR hy
   gi_wp2
   go_wp2_with fail
   refine (FdNumbers_any F W2).mono ?_; rintro e W3 ⟨NB, rfl, hNB, -, hb3⟩
   have HNB := Lib.hid hNB
   have HC3 : Hid (CellsK (FldS W0.heap.size) W0 W3) := HC2.out.fresh (Mod.of_same (S := fun _ => False) hb3) (fun _ _ _ _ _ h => h.elim)
   have HF3 := Lib.hid (HF2.out.below hb3)
   have HJ3 : Hid (J 1 W3) := HJ.out 1 W2 W3 HJ2.out (Mod.of_same hb3)
   clear hNB hb3 HC2 HF2 HJ2 HC1 HF1
   go_wp2_with fail
   go_loopw [18] (fun i wr => ∃ k : Nat, k ≤ 6 ∧ i = .int .i64 k ∧ Hid (J (1 + k) wr) ∧ Hid (CellsK (FldS W0.heap.size) W3 wr)) (fun i _ => 6 - (intOf i).toNat)
   case atStart => exact ⟨0, by omega, rfl, HJ3, CellsK.refl _ _⟩
   case round =>
     clear HJ3
     obtain ⟨k, hk, rfl, HJK, HC⟩ := hrel
     by_cases hlt : k < 6
     · have hltI : (k : Int) < 6 := by omega
       have HNr : Hid (NumAt wr NB F) := HC.out.heap HNB.out (by simp [FldS])
       obtain ⟨n0, n1, n2⟩ := HNr.out.at_ hlt
       generalize loN k = lo at *
       generalize hiN k = hi at *
       go_upto_region 4 with fail
       have hma : Mod (fun _ => False) wr (wr.alloc (.cells #[.pointer (some ⟨F, k + 1, none⟩), .int .i64 lo, .int .i64 hi] 315)) := (Mod.refl _ _).alloc _
       have HNa := Lib.hid (World.alloc_heap_new wr (.cells #[.pointer (some ⟨F, k + 1, none⟩), .int .i64 lo, .int .i64 hi] 315))
       have HFa : Hid (FedAt (wr.alloc (.cells #[.pointer (some ⟨F, k + 1, none⟩), .int .i64 lo, .int .i64 hi] 315)) F f (.slice a n c)) := hma.heap (HC.out.heap HF3.out (by simp [FldS])) (fun h => h)
       have HCa : Hid (CellsK (FldS W0.heap.size) W3 (wr.alloc (.cells #[.pointer (some ⟨F, k + 1, none⟩), .int .i64 lo, .int .i64 hi] 315))) := HC.out.fresh hma (fun _ _ _ _ _ h => h.elim)
       have HJa : Hid (J (1 + k) (wr.alloc (.cells #[.pointer (some ⟨F, k + 1, none⟩), .int .i64 lo, .int .i64 hi] 315))) := HJ.out _ _ _ HJK.out hma
       clear hma n0 n1 n2
       generalize wr.alloc (.cells #[.pointer (some ⟨F, k + 1, none⟩), .int .i64 lo, .int .i64 hi] 315) = Wa at *
       have m0 : Wa.cell? ⟨wr.heap.size, 0, none⟩ = some (.pointer (some ⟨F, k + 1, none⟩)) := by simp [World.cell?, HNa.out]
       have v0 := HFa.out.at_ hlt
       have hbd := fdnN_bd HFO.out k
       obtain ⟨val, hval⟩ : ∃ v, fdnN f k = v := ⟨_, rfl⟩
       rw [hval] at v0 hbd
       obtain ⟨N2, hN2⟩ : ∃ N2 : Nat, (u64N val).toNat = N2 := ⟨_, rfl⟩
       have hu0 : 0 ≤ u64N val ∧ u64N val < 18446744073709551616 := by unfold u64N; omega
       have hwr : IntKind.u64.wrap val = (N2 : Int) := by rw [IntKind.wrap_u64]; unfold u64N at hN2 hu0; omega
       have hwb2 : N2 < 18446744073709551616 := by omega
       have HAT : Hid ((fedF f ps)[1 + k]? = some ((k : Int) + 2, numBytes N2)) := by rw [Hid, fedF_1 f ps hlt, hval, hN2]
       clear hval hN2 hu0 hbd
       refine (wpIn_wide (n := m)).1 ?_
       gi_wp2
       refine ⟨trivial, ?_⟩
       refine (callsIn_wide.2 (Number_any _ N2 hwb2 _)).mono ?_; rintro e W5 ⟨v', rfl, ho, hb5⟩
       obtain ⟨va5, vc5, rfl⟩ := ownsRow_form ho
       obtain ⟨fn, tmps, assign, body, hy, hR⟩ := HY.out (1 + k) _ Wa W5 (by rw [HLEN.out]; omega) HJa.out (Mod.of_same hb5) ⟨(k : Int) + 2, numBytes N2, _, HAT.out, rfl, TB.of_own ho⟩
       have HRR := Lib.hid hR
       have HC5 : Hid (CellsK (FldS W0.heap.size) W3 W5) := HCa.out.fresh (Mod.of_same (S := fun _ => False) hb5) (fun _ _ _ _ _ h => h.elim)
       clear hR ho hb5 m0 v0 hwr
       gi_wp2
       refine HRR.out.mono ?_
       rintro e W6 (⟨rfl, hJ6, hC6⟩ | ⟨rfl, hX⟩)
       · have HJ6 := Lib.hid hJ6
         have HC6 := Lib.hid (HC5.out.trans hC6)
         clear hJ6 hC6 HRR hy
         gi_wp2
         go_wp2_with fail
         exact ⟨⟨k + 1, by omega, by simp, by rw [show 1 + (k + 1) = 1 + k + 1 by omega]; exact HJ6.out, HC6.out⟩, by simp [intOf]; omega⟩
       · have HX := Lib.hid hX
         clear hX HRR hy
         gi_wp2
         go_wp2_with fail
         exact bodyPost_ret (results_none rfl _ _ _) rfl ⟨⟨_, rfl⟩, .inr HX.out⟩
     · obtain rfl : k = 6 := by omega
       rw [show ((6 : Nat) : Int) = (6 : Int) from rfl]
       have HFr : Hid (FedAt wr F f (.slice a n c)) := HC.out.heap HF3.out (by simp [FldS])
       have HC7 : Hid (CellsK (FldS W0.heap.size) W0 wr) := HC3.out.trans HC.out
       obtain ⟨-, -, -, -, -, -, -, f7⟩ := HFr.out.cells
       clear HNB HC3 HC
       go_wp2_with fail
       clear f7
       go_loopw [38] (fun i ws => ∃ k : Nat, k ≤ n ∧ i = .int .i64 k ∧ Hid (J (7 + 3 * k) ws) ∧ Hid (CellsK (FldS W0.heap.size) W0 ws)) (fun i _ => n - (intOf i).toNat)
       case atStart => exact ⟨0, by omega, rfl, HJK.out, HC7.out⟩
       case round =>
         clear HJK HC7
         obtain ⟨k, hk, rfl, HJK, HC⟩ := hrel
         by_cases hlt : k < n
         · have hltI : (k : Int) < n := by omega
           obtain ⟨x, hx⟩ : ∃ x, ps[k]? = some x := ⟨ps[k]'(by have := HPL.out; omega), List.getElem?_eq_getElem _⟩
           have HX := Lib.hid hx
           have HXO := Lib.hid (HOK.out x (List.mem_of_getElem? hx))
           obtain ⟨b, o, pv, hab, ⟨c0, c1, c2⟩, ⟨pa, pc, rfl, hprog⟩⟩ := (HPS.out.keep0 HC.out HSQ.out).2 k x hx
           subst hab
           have HPRG := Lib.hid hprog
           clear hx hprog
           go_upto_region 9 with fail
           have hma : Mod (fun _ => False) wr (wr.alloc (.cells #[.string x.name, .int .i64 x.cells, .slice pa x.prog.length pc] 173)) := (Mod.refl _ _).alloc _
           have HXa : Hid (PrcAt (wr.alloc (.cells #[.string x.name, .int .i64 x.cells, .slice pa x.prog.length pc] 173)) wr.heap.size x (.slice pa x.prog.length pc)) := World.alloc_heap_new wr _
           have HCa : Hid (CellsK (FldS W0.heap.size) W0 (wr.alloc (.cells #[.string x.name, .int .i64 x.cells, .slice pa x.prog.length pc] 173))) := HC.out.fresh hma (fun _ _ _ _ _ h => h.elim)
           have HJa : Hid (J (7 + 3 * k) (wr.alloc (.cells #[.string x.name, .int .i64 x.cells, .slice pa x.prog.length pc] 173))) := HJ.out _ _ _ HJK.out hma
           have HPa : Hid (PrgAt (wr.alloc (.cells #[.string x.name, .int .i64 x.cells, .slice pa x.prog.length pc] 173)) pa x.prog.length x.prog) := HPRG.out.below (hma.below (Nat.le_refl _) (fun _ _ h => h))
           clear hma c0 c1 c2 HC HJK HPRG
           generalize wr.alloc (.cells #[.string x.name, .int .i64 x.cells, .slice pa x.prog.length pc] 173) = Wa at *
           have hw1 : wrap64 ((k : Int) + 1) = (k : Int) + 1 := by unfold wrap64; omega
           go_wp2_with fail
           refine (tag_any k (by omega) Wa).mono ?_; rintro e _ ⟨rfl, rfl⟩
           obtain ⟨d0, d1, d2⟩ := HXa.out.cells
           go_wp2_with fail
           refine (Write_any pa x.prog.length pc x.prog _ HPa.out HXO.out.prog (by have := HXO.out.len; unfold maxLen; omega)).mono ?_; rintro e Wb ⟨wv, rfl, how, hbw⟩
           have hmb : Mod (fun _ => False) _ Wb := Mod.of_same hbw
           have HTW := Lib.hid (TB.of_own how)
           have HXb : Hid (PrcAt Wb wr.heap.size x (.slice pa x.prog.length pc)) := hmb.heap HXa.out (fun h => h)
           have HCb := Lib.hid (HCa.out.fresh hmb (fun _ _ _ _ _ h => h.elim))
           have HJb := Lib.hid (HJ.out _ _ _ HJa.out hmb)
           obtain ⟨wa, wc, hwv⟩ := HTW.out.form
           subst hwv
           clear hmb how hbw HXa HCa HJa HPa d0 d1 d2
           obtain ⟨wbs, hwbs⟩ : ∃ wbs, (if cpE x.prog = 0 then prgB x.prog else []) = wbs := ⟨_, rfl⟩
           rw [hwbs] at HTW
           rw [hwbs]
           have HWBS := Lib.hid hwbs
           obtain ⟨ce, hce⟩ : ∃ ce, cpE x.prog = ce := ⟨_, rfl⟩
           rw [hce]
           obtain ⟨tg, htg⟩ : ∃ tg, 10 * ((k : Int) + 1) = tg := ⟨_, rfl⟩
           have hw2 : wrap64 (tg + 1) = tg + 1 := by unfold wrap64; omega
           have hw3 : wrap64 (tg + 2) = tg + 2 := by unfold wrap64; omega
           have HTG := Lib.hid htg
           rw [htg]
           clear hwbs hce htg hw1
           go_upto_region 11 with fail
           have hcb := fun w => run_bytes_of_string (P := Tryz.prog) w 9 25 5 x.name rfl rfl rfl
           obtain ⟨d0, d1, d2⟩ := HXb.out.cells
           have hmc : Mod (fun _ => False) Wb ((Wb.alloc (.cells (bytesRow x.name (grownCap Wb x.name.size 0 5)) 5 ((bytesRow x.name (grownCap Wb x.name.size 0 5)).size, (bytesRow x.name (grownCap Wb x.name.size 0 5)).size + 1))).drew) := mod_drew_ ((Mod.refl _ _).alloc _)
           have HTC : Hid (TB ((Wb.alloc (.cells (bytesRow x.name (grownCap Wb x.name.size 0 5)) 5 ((bytesRow x.name (grownCap Wb x.name.size 0 5)).size, (bytesRow x.name (grownCap Wb x.name.size 0 5)).size + 1))).drew) (.slice (some ⟨Wb.heap.size, 0, none⟩) x.name.size (grownCap Wb x.name.size 0 5)) (bytesL x.name)) := TB.string (by have := HXO.out.name; unfold maxLen; omega) (fr := ((bytesRow x.name (grownCap Wb x.name.size 0 5)).size, (bytesRow x.name (grownCap Wb x.name.size 0 5)).size + 1)) (World.alloc_heap_new Wb _)
           have HXc : Hid (PrcAt ((Wb.alloc (.cells (bytesRow x.name (grownCap Wb x.name.size 0 5)) 5 ((bytesRow x.name (grownCap Wb x.name.size 0 5)).size, (bytesRow x.name (grownCap Wb x.name.size 0 5)).size + 1))).drew) wr.heap.size x (.slice pa x.prog.length pc)) := hmc.heap HXb.out (fun h => h)
           have HCc := Lib.hid (HCb.out.fresh hmc (fun _ _ _ _ _ h => h.elim))
           have HTWc := Lib.hid (HTW.out.mod hmc)
           obtain ⟨fn, tmps, assign, body, hy, hR⟩ := HY.out (7 + 3 * k) _ Wb ((Wb.alloc (.cells (bytesRow x.name (grownCap Wb x.name.size 0 5)) 5 ((bytesRow x.name (grownCap Wb x.name.size 0 5)).size, (bytesRow x.name (grownCap Wb x.name.size 0 5)).size + 1))).drew) (by rw [HLEN.out, HPL.out]; omega) HJb.out hmc ⟨tg, bytesL x.name, _, by have := fedF_2 f ps HX.out (j := 0) (by omega); rw [Nat.add_zero] at this; rw [this, ← HTG.out]; rfl, rfl, HTC.out⟩
           have HRR := Lib.hid hR
           clear hR hmc
           refine (wpIn_wide (n := m)).1 ?_
           gi_wp2
           refine HRR.out.mono ?_
           rintro e W6 (⟨rfl, hJ6, hC6⟩ | ⟨rfl, hX⟩)
           · have HJ6 := Lib.hid hJ6
             have HX6 : Hid (PrcAt W6 wr.heap.size x (.slice pa x.prog.length pc)) := hC6.heap HXc.out (by simp [FldS])
             have HC6 := Lib.hid (HCc.out.trans hC6)
             have HTW6 : Hid (TB W6 (.slice wa wbs.length wc) wbs) := HTWc.out.keepC hC6
             clear hJ6 hC6 HRR hy hcb d0 d1 d2 HTC HTWc HXc HCc HXb HCb HTW HJb
             obtain ⟨d0, d1, d2⟩ := HX6.out.cells
             have hcd := HXO.out.cells
             obtain ⟨N3, hN3⟩ : ∃ N3 : Nat, (u64N x.cells).toNat = N3 := ⟨_, rfl⟩
             have hu0 : 0 ≤ u64N x.cells ∧ u64N x.cells < 18446744073709551616 := by unfold u64N; omega
             have hwr3 : IntKind.u64.wrap x.cells = (N3 : Int) := by rw [IntKind.wrap_u64]; unfold u64N at hN3 hu0; omega
             have hwb3 : N3 < 18446744073709551616 := by omega
             have HN3 := Lib.hid hN3
             clear hN3 hu0 hcd
             gi_wp2
             refine ⟨trivial, ?_⟩
             refine (callsIn_wide.2 (Number_any _ N3 hwb3 _)).mono ?_; rintro e W7 ⟨v', rfl, ho, hb7⟩
             obtain ⟨va7, vc7, rfl⟩ := ownsRow_form ho
             have hm7 : Mod (fun _ => False) W6 W7 := Mod.of_same hb7
             have HT7 := Lib.hid (TB.of_own ho)
             have HX7 : Hid (PrcAt W7 wr.heap.size x (.slice pa x.prog.length pc)) := hm7.heap HX6.out (fun h => h)
             have HC7 := Lib.hid (HC6.out.fresh hm7 (fun _ _ _ _ _ h => h.elim))
             have HTW7 := Lib.hid (HTW6.out.mod hm7)
             obtain ⟨fn, tmps, assign, body, hy, hR⟩ := HY.out (7 + 3 * k + 1) _ W6 W7 (by rw [HLEN.out, HPL.out]; omega) HJ6.out hm7 ⟨tg + 1, numBytes N3, _, by rw [fedF_2 f ps HX.out (j := 1) (by omega), ← HTG.out, ← HN3.out]; rfl, rfl, HT7.out⟩
             have HRR := Lib.hid hR
             clear hR hm7 ho hb7 d0 d1 d2 HX6 HC6 HTW6 HJ6
             gi_wp2
             refine HRR.out.mono ?_
             rintro e W8 (⟨rfl, hJ8, hC8⟩ | ⟨rfl, hX⟩)
             · have HJ8 := Lib.hid hJ8
               have HC8 := Lib.hid (HC7.out.trans hC8)
               have HTW8 : Hid (TB W8 (.slice wa wbs.length wc) wbs) := HTW7.out.keepC hC8
               obtain ⟨fn2, tmps2, assign2, body2, hy2, hR2⟩ := HY.out (7 + 3 * k + 2) _ W8 W8 (by rw [HLEN.out, HPL.out]; omega) hJ8 (Mod.refl _ _) ⟨tg + 2, wbs, _, by rw [fedF_2 f ps HX.out (j := 2) (by omega), ← HTG.out, ← HWBS.out]; rfl, rfl, HTW8.out⟩
               have HRR2 := Lib.hid hR2
               clear hJ8 hC8 hR2 HRR hy HX7 HC7 HTW7 HT7
               gi_wp2
               refine HRR2.out.mono ?_
               rintro e W9 (⟨rfl, hJ9, hC9⟩ | ⟨rfl, hX⟩)
               · have HJ9 := Lib.hid hJ9
                 have HC9 := Lib.hid (HC8.out.trans hC9)
                 clear hJ9 hC9 HRR2 hy2 hw2 hw3 hwr3
                 gi_wp2
                 go_wp2_with fail
                 exact ⟨⟨k + 1, by omega, by simp, by rw [show 7 + 3 * (k + 1) = 7 + 3 * k + 2 + 1 by omega]; exact HJ9.out, HC9.out⟩, by simp [intOf]; omega⟩
               · have HX9 := Lib.hid hX
                 clear hX HRR2 hy2
                 gi_wp2
                 go_wp2_with fail
                 exact bodyPost_ret (results_none rfl _ _ _) rfl ⟨⟨_, rfl⟩, .inr HX9.out⟩
             · have HX9 := Lib.hid hX
               clear hX HRR hy
               gi_wp2
               refine ⟨fun f h => (by cases h), ?_⟩
               gi_wp2
               go_wp2_with fail
               exact bodyPost_ret (results_none rfl _ _ _) rfl ⟨⟨_, rfl⟩, .inr HX9.out⟩
           · have HX9 := Lib.hid hX
             clear hX HRR hy
             gi_wp2
             refine ⟨trivial, ?_⟩
             gi_wp2
             refine ⟨fun f h => (by cases h), ?_⟩
             gi_wp2
             go_wp2_with fail
             exact bodyPost_ret (results_none rfl _ _ _) rfl ⟨⟨_, rfl⟩, .inr HX9.out⟩
         · obtain rfl : k = n := by omega
           have HE : Hid ((fedF f ps).length = 7 + 3 * k) := by rw [Hid, HLEN.out, HPL.out]
           go_wp2_with fail
           exact bodyPost_end (results_none rfl _ _ _) rfl ⟨⟨_, rfl⟩, .inl (by rw [HE.out]; exact HJK.out)⟩
 · have HX := Lib.hid hX
   clear hX HRR hy
   gi_wp2
   go_wp2_with fail
   exact bodyPost_ret (results_none rfl _ _ _) rfl ⟨⟨_, rfl⟩, .inr HX.out⟩
end Eng
end Go.Proofs.YtdfmgneicdpjmaaGreat

namespace Go.Proofs.YtdfmgneicdpjmaaGreat
open Go.RowKit Go.Shelf
attribute [local go_sem] Oper.semAt_some
set_option linter.unusedVariables false
set_option linter.unusedSimpArgs false
set_option maxRecDepth 100000
namespace Eng
open Resp App
attribute [-go_sem] Instr.loadAt
attribute [local go_sem] ld_opn2 fed_cells
theorem fedfields_any (f : Fdn) (pv : Value) (W : World) : Calls Tryz.prog 156 #[fedV f pv] W fun e w' => ∃ B, e = .returned (.func (.func 205) #[] #[.pointer (some ⟨B, 0, none⟩)]) ∧ FedAt w' B f pv ∧ W.heap.size ≤ B ∧ Below W.heap.size W w' := by
 show Calls _ _ #[.agg (fedL f pv).toArray] _ _
 go_enter Tryz.func156, Tryz.ntmps156
 go_wp2_with fail
 have HF : Hid (FedAt (W.alloc (.cells (fedL f pv).toArray 84)) W.heap.size f pv) := World.alloc_heap_new W _
 have HB : Hid (Below W.heap.size W (W.alloc (.cells (fedL f pv).toArray 84))) := (Below.refl _ _).alloc (Nat.le_refl _) _
 generalize W.alloc (.cells (fedL f pv).toArray 84) = w1 at *
 go_wp2_with fail
 go_ret
 exact ⟨_, rfl, HF.out, Nat.le_refl _, HB.out⟩
def formW (f : Fdn) (ps : List Prc) : List Int := flat (ofN (fedF f ps))
noncomputable def wrE (f : Fdn) (ps : List Prc) : Int := if (fchkV f ps).2 = 0 then (if rightF (ofN (fedF f ps)) = true ∧ (formW f ps).length ≤ 12288 then 0 else 3) else (fchkV f ps).2
def FwP (f : Fdn) (ps : List Prc) (W : World) (e : Ending) (w' : World) : Prop := Below W.heap.size W w' ∧ if wrE f ps = 0 then (∃ v, e = .returned (.tuple #[v, .int .i64 0]) ∧ w'.ownsRow W.heap.size 5 1 v (formW f ps).length (u8s (formW f ps))) else e = .returned (.tuple #[.slice none 0 0, .int .i64 (wrE f ps)])
theorem FwP.no {f : Fdn} {ps : List Prc} {W w' : World} {c : Int} (h : wrE f ps = c) (h0 : ¬ c = 0) (hb : Below W.heap.size W w') : FwP f ps W (.returned (.tuple #[.slice none 0 0, .int .i64 c])) w' := by
 unfold FwP; rw [h, if_neg h0]; exact ⟨hb, rfl⟩
theorem FwP.yes {f : Fdn} {ps : List Prc} {W w' : World} {v : Value} {l : List Int} (h : wrE f ps = 0) (hl : formW f ps = l) (ho : w'.ownsRow W.heap.size 5 1 v l.length (u8s l)) (hb : Below W.heap.size W w') : FwP f ps W (.returned (.tuple #[v, .int .i64 0])) w' := by
 unfold FwP; rw [h, if_pos rfl, hl]; exact ⟨hb, v, rfl, ho⟩
set_option maxHeartbeats 8000000 in
theorem FedWrite_any (f : Fdn) (hf : FdnOk f) (a : Option Addr) (n c : Nat) (hnc : n ≤ c) (hn : n ≤ 30000) (ps : List Prc) (hok : ∀ x ∈ ps, PrcOk x) (W : World) (h : PrcsAt W a n ps) :
   Calls Tryz.prog 99 #[fedV f (.slice a n c)] W (FwP f ps W) := by
 have HPL := Lib.hid h.1
 have HP := Lib.hid h
 have HOK := Lib.hid hok
 have HFO := Lib.hid hf
 have HCK := Lib.hid (fun W h => FedCheck_any f hf a n c hnc (by omega) ps hok W h)
 clear h hok hf
 show Calls _ _ #[.agg (fedL f (.slice a n c)).toArray] _ _
 go_enter Tryz.func99, Tryz.ntmps99
 go_upto_region 1 with fail
 have hF : FedAt (W.alloc (.cells (fedL f (.slice a n c)).toArray 84)) W.heap.size f (.slice a n c) := World.alloc_heap_new W _
 have hB : Below W.heap.size W (W.alloc (.cells (fedL f (.slice a n c)).toArray 84)) := (Below.refl _ _).alloc (Nat.le_refl _) _
 have HF := Lib.hid hF
 have HB := Lib.hid hB
 clear hF hB
 generalize W.alloc (.cells (fedL f (.slice a n c)).toArray 84) = w1 at *
 have hld := ld_fed HF.out
 obtain ⟨ci, ce, hck⟩ : ∃ i e, fchkV f ps = (i, e) := ⟨_, _, rfl⟩
 have HCV := Lib.hid hck
 clear hck
 go_wp2_with fail
 refine (HCK.out w1 (HP.out.below HB.out)).mono ?_; rintro e w2 ⟨rfl, hb2⟩
 rw [HCV.out]
 have HF2 : Hid (FedAt w2 W.heap.size f (.slice a n c)) := HF.out.below hb2
 have HB2 : Hid (Below W.heap.size W w2) := HB.out.trans (hb2.mono HB.out.size)
 clear hb2 hld HF HB HCK
 by_cases h0 : ce = 0
 · have HX : Hid (wrE f ps = if rightF (ofN (fedF f ps)) = true ∧ (formW f ps).length ≤ 12288 then 0 else 3) := by rw [Hid, wrE, HCV.out, if_pos h0]
   subst h0
   have hld := ld_fed HF2.out
   go_wp2_with fail
   refine (fedfields_any f _ w2).mono ?_; rintro e w3 ⟨B, rfl, hFB, hBB, hb3⟩
   have HB3 : Hid (Below W.heap.size W w3) := HB2.out.trans (hb3.mono HB2.out.size)
   have HFB := Lib.hid hFB
   have HCO := Lib.hid (CollectK 205 #[.pointer (some ⟨B, 0, none⟩)] (enters_of Tryz.func205 (by kernel_rfl) rfl) (fedF f ps) (by rw [fedF_len, HPL.out]; omega) _ w3
     (fun k x W0 A h => h) (S0 := FdsSt w3 B f (.slice a n c)) (fun A hA => ⟨hA, HFB.out.below hA⟩)
     (fedfields1_k 7 (by omega) w3 B f HFO.out a n c (by omega) ps HOK.out (HP.out.below HB3.out)))
   clear hFB hBB hb3 hld HF2 HB2
   go_wp2_with fail
   refine HCO.out.mono ?_; rintro e w4 ⟨cv, fl, rfl, hfl, hft, hb4⟩
   have HB4 : Hid (Below W.heap.size W w4) := HB3.out.trans (hb4.mono HB3.out.size)
   obtain ⟨ca, cc, rfl⟩ := ownsRow_form hft.1
   have HLF : Hid (fl.length ≤ 100000) := by rw [Hid, ← tbs_length fl, hfl, fedF_len, HPL.out]; omega
   have HFT := Lib.hid hft
   have HFA : Hid (formW f ps = flat fl) := by rw [Hid, formW, ← hfl, flat_ofN]
   have HRF : Hid (rightF (ofN (fedF f ps)) = rightF fl) := by rw [Hid, ← hfl, rightF_ofN]
   clear hfl hft hb4 HCO HB3 HFB
   go_wp2_with fail
   refine (WriteF_any _ fl w4 HFT.out.reads HLF.out).mono ?_
   rintro e w5 hw
   by_cases hrf : rightF fl = true
   · unfold WfP at hw
     rw [if_pos hrf] at hw
     obtain ⟨v, rfl, ho5, hb5⟩ := hw
     have HB5 : Hid (Below W.heap.size W w5) := HB4.out.trans (hb5.mono HB4.out.size)
     have HX2 : Hid (wrE f ps = if (flat fl).length ≤ 12288 then 0 else 3) := by
       rw [Hid, HX.out, HRF.out, HFA.out]; simp [hrf]
     have HO5 := Lib.hid (ho5.mono HB4.out.size)
     obtain ⟨va, vc, rfl⟩ := ownsRow_form ho5
     obtain ⟨L, hL⟩ : ∃ L, (flat fl).length = L := ⟨_, rfl⟩
     have HL := Lib.hid hL
     rw [hL] at HX2 ⊢
     clear ho5 hb5 hrf HX HRF HFT hL
     by_cases hg : L ≤ 12288
     · have HX3 : Hid (wrE f ps = 0) := by rw [Hid, HX2.out, if_pos hg]
       have hgI : ¬ (12288 : Int) < (L : Int) := by omega
       clear HX2
       go_wp2_with fail
       go_ret2
       have := FwP.yes (v := .slice va L vc) HX3.out HFA.out (by have := HO5.out; rw [HL.out] at this ⊢; exact this) HB5.out
       exact this
     · have HX3 : Hid (wrE f ps = 3) := by rw [Hid, HX2.out, if_neg hg]
       have hgI : (12288 : Int) < (L : Int) := by omega
       clear HX2
       go_wp2_with fail
       go_ret2
       exact FwP.no HX3.out (by decide) HB5.out
   · unfold WfP at hw
     rw [if_neg hrf] at hw
     obtain ⟨rfl, hb5⟩ := hw
     have HB5 : Hid (Below W.heap.size W w5) := HB4.out.trans (hb5.mono HB4.out.size)
     have HX3 : Hid (wrE f ps = 3) := by
       rw [Hid, HX.out, HRF.out]; simp [hrf]
     clear hrf hb5 HX HRF HFT
     go_wp2_with fail
     go_ret2
     exact FwP.no HX3.out (by decide) HB5.out
 · have HX : Hid (wrE f ps = ce) := by rw [Hid, wrE, HCV.out, if_neg h0]
   have h0' : (ce == 0) = false := by simpa using h0
   have HH0 := Lib.hid h0
   go_wp2_with fail
   go_ret2
   exact FwP.no HX.out HH0.out HB2.out
end Eng
end Go.Proofs.YtdfmgneicdpjmaaGreat
