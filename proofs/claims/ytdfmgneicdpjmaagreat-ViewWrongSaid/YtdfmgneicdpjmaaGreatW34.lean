import Derived.Test.YtdfmgneicdpjmaaGreatM30
import Derived.Test.YtdfmgneicdpjmaaGreatM32
import Derived.Test.YtdfmgneicdpjmaaGreatM33
import Derived.Deep.RegionWith
namespace Go.Proofs.YtdfmgneicdpjmaaGreat
open Go.RowKit Go.Shelf
attribute [local go_sem] Oper.semAt_some
set_option linter.unusedVariables false
set_option linter.unusedSimpArgs false
set_option maxRecDepth 100000
namespace Eng
open Resp
attribute [-go_sem] Instr.storeAt Instr.loadAt
attribute [local go_sem] ld_opn st_opn fc_cells st_new_fc
theorem CellsK.cell {S : Nat → TypeId → Prop} {A B : World} (h : CellsK S A B) {b o : Nat} {v : Value} (hc : A.cell? ⟨b, o, none⟩ = some v) (hS : ∀ t, ¬ S b t) : B.cell? ⟨b, o, none⟩ = some v := by
 have hc' := hc
 unfold World.cell? at hc
 cases hb : A.heap[b]? with
 | none => simp [hb] at hc
 | some ob =>
   cases ob with
   | cells cs t fr =>
     have := h.2 b cs t fr hb (hS t)
     simp only [World.cell?, hb] at hc'
     simpa [World.cell?, this] using hc'
   | _ => simp [hb] at hc
theorem PrgAt.keep {S : Nat → TypeId → Prop} {A B : World} {a : Option Addr} {n : Nat} {p : List Ins} (h : PrgAt A a n p) (hk : CellsK S A B) (hS : ∀ b o, a = some ⟨b, o, none⟩ → ∀ t, ¬ S b t) : PrgAt B a n p :=
 ⟨h.1, fun i e he => by
   obtain ⟨b, o, e1, h0, h1, h2, h3, h4⟩ := h.2 i e he
   have hb := hS b o e1
   exact ⟨b, o, e1, hk.cell h0 hb, hk.cell h1 hb, hk.cell h2 hb, hk.cell h3 hb, hk.cell h4 hb⟩⟩
def whyN (l : Lm) (p : List Ins) (fs : List Fc) : Nat → List (Int × Int)
 | 0 => []
 | k + 1 => whyN l p fs k ++ (if whyE l (p[k]?.getD insZ) (fs[k]?.getD fcZ) = 0 then [] else [((k : Int), whyE l (p[k]?.getD insZ) (fs[k]?.getD fcZ))])
theorem whyN_pre (l : Lm) (p : List Ins) (fs : List Fc) : ∀ m k, k ≤ m → ∃ t, whyN l p fs m = whyN l p fs k ++ t
 | 0, k, h => ⟨[], by obtain rfl : k = 0 := by omega
                      simp⟩
 | m + 1, k, h => by
   by_cases hk : k = m + 1
   · exact ⟨[], by rw [hk]; simp⟩
   · obtain ⟨t, ht⟩ := whyN_pre l p fs m k (by omega)
     exact ⟨t ++ _, by rw [whyN, ht, List.append_assoc]⟩
theorem whyN_at {l : Lm} {p : List Ins} {fs : List Fc} {n k : Nat} (hk : k < n) {i : Ins} {f : Fc} (hi : p[k]? = some i) (hf : fs[k]? = some f) (he : ¬ whyE l i f = 0) : (whyN l p fs n)[(whyN l p fs k).length]? = some ((k : Int), whyE l i f) ∧ (whyN l p fs k).length < (whyN l p fs n).length ∧ (whyN l p fs (k + 1)).length = (whyN l p fs k).length + 1 := by
 obtain ⟨t, ht⟩ := whyN_pre l p fs n (k + 1) hk
 have h1 : whyN l p fs (k + 1) = whyN l p fs k ++ [((k : Int), whyE l i f)] := by
   rw [whyN, hi, hf]
   simp only [Option.getD_some]
   rw [if_neg he]
 rw [ht, h1]
 refine ⟨?_, by simp, by simp⟩
 simp
theorem whyN_no {l : Lm} {p : List Ins} {fs : List Fc} {k : Nat} {i : Ins} {f : Fc} (hi : p[k]? = some i) (hf : fs[k]? = some f) (he : whyE l i f = 0) : whyN l p fs (k + 1) = whyN l p fs k := by
 rw [whyN, hi, hf]
 simp only [Option.getD_some]
 rw [if_pos he]
 simp
def WhSt (bp bl : Nat) (a : Option Addr) (n c : Nat) (p : List Ins) (l : Lm) (N0 : Nat) (W : World) : Prop :=
 W.heap[bp]? = some (.cells #[.slice a n c] 170) ∧ W.heap[bl]? = some (.cells #[.int .i64 l.cells, .int .i64 l.ports, .int .i64 l.ahead] 415) ∧ PrgAt W a n p ∧ N0 ≤ W.heap.size
theorem why_any (l : Lm) (i : Ins) (f : Fc) (ho : InsOk i) (h1 : oneE i = 0) (W : World) : Calls Tryz.prog 378 #[lmV l, insV i, fcV f] W (WyP l i f W) := by
 obtain ⟨a8, b8, c8⟩ := lt8 h1
 have ha0 := ho.a0
 have hb0 := ho.b0
 have hc0 := ho.c0
 obtain ⟨op, a, b, c, nn⟩ := i
 simp only at a8 b8 c8 ha0 hb0 hc0
 obtain ⟨a', rfl⟩ : ∃ x : Nat, a = (x : Int) := ⟨a.toNat, by omega⟩
 obtain ⟨b', rfl⟩ : ∃ x : Nat, b = (x : Int) := ⟨b.toNat, by omega⟩
 obtain ⟨c', rfl⟩ : ∃ x : Nat, c = (x : Int) := ⟨c.toNat, by omega⟩
 exact why_ops l op nn a' b' c' f (by omega) (by omega) (by omega) W
set_option maxHeartbeats 4000000 in
theorem whys1_k (m : Nat) (hm : 1 ≤ m) (bp bl : Nat) (a : Option Addr) (n c : Nat) (p : List Ins) (l : Lm) (hcp : cpE p = 0) (ho : PrgOk p) (N0 : Nat) (Sb : Nat → TypeId → Prop) (hb0 : ∀ q t, Sb q t → q < N0) (hb1 : ∀ t, ¬ Sb bp t) (hb2 : ∀ t, ¬ Sb bl t) (hb3 : ∀ b o, a = some ⟨b, o, none⟩ → ∀ t, ¬ Sb b t) :
   SeqK Fence.wide m Tryz.prog 376 #[.pointer (some ⟨bp, 0, none⟩), .pointer (some ⟨bl, 0, none⟩)] (fun x : Int × Int => #[.int .i64 x.1, .int .i64 x.2]) (fun _ => False) Sb
     (WhSt bp bl a n c p l N0) (fun j x _ _ => (whyN l p (fctF p) n)[j]? = some x) (whyN l p (fctF p) n).length := by
 intro lp J Jx W hS hJ hJx hY h0
 have HJ := Lib.hid hJ
 have HJX := Lib.hid hJx
 have HY := Lib.hid hY
 have H0 := Lib.hid h0
 have HS := Lib.hid hS
 have HSB := Lib.hid (And.intro hb0 (And.intro hb1 (And.intro hb2 hb3)))
 have HCP := Lib.hid hcp
 have HO := Lib.hid ho
 have HFA := Lib.hid (fun W h => facts_any a n c p W h ho hcp)
 have cp := cell_of_heap_ hS.1
 clear hJ hJx hY h0 hS hb0 hb1 hb2 hb3 hcp ho
 refine callsIn_of_wp Tryz.func376 rfl trivial ?_ rfl
 simp only [Tryz.ntmps376, List.size_toArray, List.length_cons, List.length_nil, Nat.reduceAdd, Nat.reduceSub, Array.replicate_succ, Array.replicate_zero, List.push_toArray, List.append_toArray, List.nil_append, List.cons_append]
 refine wpIn_wide.2 ?_
 go_wp2_with fail
 refine (HFA.out W HS.out.2.2.1).mono ?_; rintro e W1 ⟨B, rfl, hF, hB, hFl, hbw⟩
 have HF := Lib.hid hF
 have HFL := Lib.hid hFl
 have hkw : CellsK Sb W W1 := CellsK.of_mod (Mod.of_same (S := fun _ => False) hbw) (fun _ _ _ _ h => h.elim)
 have HJ1 : Hid (J 0 W1) := HJ.out 0 W W1 H0.out (Mod.of_same hbw)
 have HS1 : Hid (WhSt bp bl a n c p l N0 W1) := ⟨hkw.heap HS.out.1 (HSB.out.2.1 _), hkw.heap HS.out.2.1 (HSB.out.2.2.1 _), HS.out.2.2.1.keep hkw HSB.out.2.2.2, by have := HS.out.2.2.2; have := hkw.1; omega⟩
 have HB1 : Hid (∀ t, ¬ Sb B t) := fun t h => by have h1 := HSB.out.1 B t h; have h2 := HS.out.2.2.2; omega
 have hn1 : n ≤ 256 := by have h1 := (cp_right HCP.out).1.2; have h2 := HS.out.2.2.1.1; omega
 have hnI : (n : Int) ≤ 256 := by omega
 clear hkw hF hB hFl hbw H0 HS HFA cp
 go_wp2_with fail
 go_loopw [10] (fun i wr => ∃ k : Nat, k ≤ n ∧ i = .int .i64 k ∧ Hid (J (whyN l p (fctF p) k).length wr) ∧ Hid (CellsK Sb W1 wr)) (fun i _ => n - (intOf i).toNat)
 case atStart => exact ⟨0, Nat.zero_le _, rfl, HJ1, CellsK.refl _ _⟩
 case round =>
   clear HJ1
   obtain ⟨k, hk, rfl, HJK, HC⟩ := hrel
   by_cases hlt : k < n
   · have hltI : (k : Int) < n := by omega
     have HFr : Hid (FsAt wr B (fctF p)) := HC.out.heap HF.out (HB1.out _)
     obtain ⟨f, hf⟩ : ∃ f, (fctF p)[k]? = some f := ⟨_, List.getElem?_eq_getElem (by have := HFL.out; omega)⟩
     have hld := ld_fs HFr.out hf
     have HFK := Lib.hid hf
     clear hf
     have HPr : Hid (PrgAt wr a n p) := HS1.out.2.2.1.keep HC.out HSB.out.2.2.2
     have hkp : k < p.length := by have := HPr.out.1; omega
     obtain ⟨i, hi⟩ : ∃ i, p[k]? = some i := ⟨p[k], List.getElem?_eq_getElem hkp⟩
     obtain ⟨b, o, hab, hin⟩ := HPr.out.2 k i hi
     have HIK := Lib.hid hi
     have HIO : Hid (InsOk i) := HO.out i (List.mem_of_getElem? hi)
     have HO1 := Lib.hid ((cp_right HCP.out).2.1 k i hi).1
     clear hi hkp
     go_wp2_with fail
     rename_i K9 hK9
     have hmr : Mod (fun _ => False) wr (wr.alloc (.cells (fcL f).toArray 541)) := (Mod.refl _ _).alloc _
     have HE2 : Hid (FcAt (wr.alloc (.cells (fcL f).toArray 541)) wr.heap.size f) := World.alloc_heap_new wr _
     have HMR := Lib.hid hmr
     have HBP : Hid ((wr.alloc (.cells (fcL f).toArray 541)).heap[bp]? = some (.cells #[.slice a n c] 170)) := hmr.heap (HC.out.heap HS1.out.1 (HSB.out.2.1 _)) (fun h => h)
     have HBL : Hid ((wr.alloc (.cells (fcL f).toArray 541)).heap[bl]? = some (.cells #[.int .i64 l.cells, .int .i64 l.ports, .int .i64 l.ahead] 415)) := hmr.heap (HC.out.heap HS1.out.2.1 (HSB.out.2.2.1 _)) (fun h => h)
     have HIN2 : Hid (InsIn (wr.alloc (.cells (fcL f).toArray 541)) b (o + k * 5) i) := hin.mod hmr (fun h => h)
     subst hab
     clear hmr hin hld
     generalize wr.alloc (.cells (fcL f).toArray 541) = w2 at *
     have hl1 := ld_fc (W := w2.drew) HE2.out
     have cp2 : w2.cell? ⟨bp, 0, none⟩ = some (.slice (some ⟨b, o, none⟩) n c) := cell_of_heap_ HBP.out
     have l0 : w2.cell? ⟨bl, 0, none⟩ = some (.int .i64 l.cells) := by simp [World.cell?, HBL.out]
     have l1 : w2.cell? ⟨bl, 1, none⟩ = some (.int .i64 l.ports) := by simp [World.cell?, HBL.out]
     have l2 : w2.cell? ⟨bl, 2, none⟩ = some (.int .i64 l.ahead) := by simp [World.cell?, HBL.out]
     obtain ⟨i0, i1, i2, i3, i4⟩ := HIN2.out
     have HWY := Lib.hid (fun W => why_any l i f HIO.out HO1.out W)
     obtain ⟨ev, hev⟩ : ∃ ev, whyE l i f = ev := ⟨_, rfl⟩
     have HEV := Lib.hid hev
     have HK : Hid (∀ X : World, Mod (fun _ => False) w2 X → K9 { tmps := List.toArray (.func (.yield lp) #[] #[] :: .pointer (some ⟨bp, 0, none⟩) :: .pointer (some ⟨bl, 0, none⟩) :: undef :: .int .i64 (k : Int) :: .pointer (some ⟨wr.heap.size, 0, none⟩) :: .int .i64 ev :: .slice (some ⟨b, o, none⟩) n c :: .slice (some ⟨B, 0, none⟩) n n :: .int .i64 (n : Int) :: .int .i64 (k : Int) :: .bool true :: .int .i64 (k : Int) :: .pointer (some ⟨B, k * 17, none⟩) :: fcV f :: lmV l :: .slice (some ⟨b, o, none⟩) n c :: .int .i64 (k : Int) :: .pointer (some ⟨b, o + k * 5, none⟩) :: insV i :: fcV f :: .int .i64 ev :: u22 :: u23 :: u24 :: u25 :: u26 :: u27 :: u28 :: u29 :: u30 :: u31 :: []), defers := [] } X) := by
       intro X hX
       refine hK9 _ _ ?_
       have HX := Lib.hid hX
       have HCX : Hid (CellsK Sb W1 X) := HC.out.fresh (HMR.out.trans hX) (fun _ _ _ _ _ h => h.elim)
       have HJX2 : Hid (J (whyN l p (fctF p) k).length X) := HJ.out _ _ _ HJK.out (HMR.out.trans hX)
       clear hX hl1 cp2 l0 l1 l2 i0 i1 i2 i3 i4 HWY hev
       by_cases h0 : ev = 0
       · have HN : Hid (whyN l p (fctF p) (k + 1) = whyN l p (fctF p) k) := whyN_no HIK.out HFK.out (by rw [HEV.out]; exact h0)
         subst h0
         go_wp2_with fail
         exact ⟨⟨k + 1, by omega, by simp, by rw [HN.out]; exact HJX2.out, HCX.out⟩, by simp [intOf]; omega⟩
       · have hne : (ev == 0) = false := by simpa using h0
         obtain ⟨hn1, hn2, hn3⟩ := whyN_at (n := n) hlt HIK.out HFK.out (l := l) (by rw [HEV.out]; exact h0)
         rw [HEV.out] at hn1
         obtain ⟨fn, tmps, assign, body, hy, hR⟩ := HY.out (whyN l p (fctF p) k).length ((k : Int), ev) X X hn2 HJX2.out (Mod.refl _ _) hn1
         have HRR := Lib.hid hR
         have HN3 := Lib.hid hn3
         clear hR hn1 hn2 hn3
         refine (wpIn_wide (n := m)).1 ?_
         gi_wp2
         refine HRR.out.mono ?_
         rintro e X2 (⟨rfl, hJ2, hC2⟩ | ⟨rfl, hX2⟩)
         · have HJ2 := Lib.hid hJ2
           have HC2 := Lib.hid (HCX.out.trans hC2)
           clear hJ2 hC2 HRR hy
           gi_wp2
           go_wp2_with fail
           exact ⟨⟨k + 1, by omega, by simp, by rw [HN3.out]; exact HJ2.out, HC2.out⟩, by simp [intOf]; omega⟩
         · have HX2 := Lib.hid hX2
           clear hX2 HRR hy
           gi_wp2
           go_wp2_with fail
           exact bodyPost_ret (results_none rfl _ _ _) rfl ⟨⟨_, rfl⟩, .inr HX2.out⟩
     unfold lmV insV at HWY HK
     go_region_with (go_at_call 378; refine (HWY.out _).mono ?_; rintro e w3 ⟨rfl, hb3⟩; rw [hev])
     all_goals (have hm3 : Mod (fun _ => False) w2 w3 := (fun (h : Mod (fun _ => False) w2.drew w3) => ⟨h.os, h.tape, h.output, h.size, h.block⟩) (Mod.of_same hb3); exact HK.out _ hm3)
   · obtain rfl : k = n := by omega
     go_wp2_with fail
     exact bodyPost_end (results_none rfl _ _ _) rfl ⟨⟨_, rfl⟩, .inl HJK.out⟩
end Eng
end Go.Proofs.YtdfmgneicdpjmaaGreat
