import Derived.Test.YtdfmgneicdpjmaaGreatM10
import Derived.Test.YtdfmgneicdpjmaaGreatW36
namespace Go.Proofs.YtdfmgneicdpjmaaGreat
open Go.RowKit Go.Shelf
attribute [local go_sem] Oper.semAt_some
set_option linter.unusedVariables false
set_option linter.unusedSimpArgs false
set_option maxRecDepth 100000
namespace Eng
open Resp
def u64N (n : Int) : Int := n % 18446744073709551616
def numB (n : Int) (w : Nat) : List Int := (List.range w).map fun j => u64N n / 256 ^ (w - 1 - j) % 256
theorem numB_take {n : Int} {w k : Nat} (hk : k < w) : (numB n w).take (k + 1) = (numB n w).take k ++ [u64N n / 256 ^ (w - 1 - k) % 256] := by
 have hl : k < (numB n w).length := by simp [numB, hk]
 rw [List.take_succ_eq_append_getElem hl]
 congr 1
 simp [numB]
theorem numB_len (n : Int) (w : Nat) : (numB n w).length = w := by simp [numB]
set_option maxHeartbeats 1000000 in
theorem number_any (n : Int) (w : Nat) (hw : w ≤ 8) (base m : Nat) (v : Value) (xs : List Value) (W : World) (hown : W.ownsRow base 5 1 v m xs) (hm : m ≤ 1048576) (hbase : base ≤ W.heap.size) :
   Calls Tryz.prog 248 #[v, .int .i64 n, .int .i64 (w : Int)] W fun e w' => ∃ v', e = .returned v' ∧ w'.ownsRow base 5 1 v' (m + w) (xs ++ u8s (numB n w)) ∧ Mod (fun k => some k = v.ownBlock) W w' := by
 obtain ⟨i0, hi, hz0, hz1, hz2⟩ := info_parts infoByte
 obtain ⟨a, c, e⟩ := ownsRow_form hown
 subst e
 have HO := Lib.hid hown
 clear hown
 have hwI : (w : Int) ≤ 8 := by omega
 go_enter Tryz.func248, Tryz.ntmps248
 go_wp2_with fail
 go_loopw [0, 7] (fun b i wr => ∃ (j : Nat) (a' : Option Addr) (c' : Nat), j ≤ w ∧ i = .int .i64 ((w : Int) - 1 - j) ∧ b = .slice a' (m + j) c' ∧ Hid (wr.ownsRow base 5 1 (.slice a' (m + j) c') (m + j) (xs ++ u8s ((numB n w).take j))) ∧ Hid (Mod (fun k => some k = (Value.slice a m c).ownBlock) W wr) ∧ Hid (∀ g, (Value.slice a' (m + j) c').ownBlock = some g → (Value.slice a m c).ownBlock = some g ∨ W.heap.size ≤ g)) (fun _ i _ => (intOf i + 1).toNat)
 case atStart => exact ⟨0, a, c, Nat.zero_le _, by simp, rfl, by simpa [Hid, u8s] using HO.out, Mod.refl _ _, fun g hg => .inl hg⟩
 case round =>
   obtain ⟨j, a', c', hj, rfl, rfl, HR, HM, HB⟩ := hrel
   by_cases hlt : j < w
   · obtain ⟨k, hk⟩ : ∃ k : Nat, w - 1 - j = k := ⟨_, rfl⟩
     have hki : (w : Int) - 1 - j = (k : Int) := by omega
     have HT := Lib.hid (numB_take (n := n) hlt)
     rw [hk] at HT
     have hk8 : k ≤ 7 := by omega
     rw [hki]
     clear hki
     have hp : (2 : Int) ^ (8 * k) = 256 ^ k := by rw [Int.pow_mul]; rfl
     have hd : IntKind.u64.wrap n / 2 ^ (8 * k) % 256 = u64N n / 256 ^ k % 256 := by rw [hp, IntKind.wrap_u64]; rfl
     have HD := Lib.hid hd
     have hbw : base ≤ wr.heap.size := Nat.le_trans hbase HM.out.size
     clear hp hd
     go_wp2_with (at_builtin; go_loud (refine wpList_append_lies _ rfl _ _ 25 rfl base 5 i0 (.int .u8 0) 1 1 Tryz.underlying25 hi hz0 hz1 hz2 rfl (by decide) (.slice a' (m + j) c') (m + j) _ rfl (HR.out.alloc _) ⟨wr.heap.size, 0, none⟩ 1 1 [.int .u8 (IntKind.u64.wrap n / 2 ^ (8 * k) % 256)] rfl rfl (cell_one_new _ _ _) (by simp [Value.oneCell']) (by decide) (by unfold maxLen; omega) (by omega) (by simp; omega) _ rfl ?_); intro g2 c2 w3 hown' hgrow hat hgl; have HOWN := Lib.hid hown'; have HG := Lib.hid hgrow; have HAT := Lib.hid hat; clear hown' hgrow hat hgl)
     have hm2 : Mod (fun q => some q = (Value.slice a' (m + j) c').ownBlock) wr w3 := ((Mod.refl _ wr).alloc _).trans (Mod.of_grownBy HG.out)
     have hk1 : (k : Int) - 1 = (w : Int) - 1 - ((j + 1 : Nat) : Int) := by omega
     refine ⟨⟨j + 1, some ⟨g2, 0, none⟩, c2, by omega, by rw [hk1], rfl, ?_, ?_, ?_⟩, by simp [intOf]⟩
     · have h9 := HOWN.out
       rw [HD.out] at h9
       rw [Hid, HT.out, u8s_append, ← List.append_assoc]
       exact h9
     · refine mod_trans_up_ HM.out hm2 (fun q hq e => ?_)
       rcases HB.out q e.symm with h | h
       · exact h.symm
       · omega
     · intro g hg
       obtain rfl : g2 = g := by simpa [Value.ownBlock] using hg
       rcases HAT.out with h | h
       · exact HB.out g2 h
       · right
         have := HM.out.size
         rw [h]; simp; omega
   · obtain rfl : j = w := by omega
     have HL := Lib.hid (numB_len n j)
     have HR2 := HR.out
     rw [List.take_of_length_le (by rw [numB_len]; exact Nat.le_refl _)] at HR2
     have HR3 := Lib.hid HR2
     clear HR2
     have hneg : (j : Int) - 1 - j = -1 := by omega
     rw [hneg]
     go_wp2_with fail
     go_ret
     exact ⟨_, rfl, HR3.out, HM.out⟩
end Eng
end Go.Proofs.YtdfmgneicdpjmaaGreat

namespace Go.Proofs.YtdfmgneicdpjmaaGreat
open Go.RowKit Go.Shelf
attribute [local go_sem] Oper.semAt_some
set_option linter.unusedVariables false
set_option linter.unusedSimpArgs false
set_option maxRecDepth 100000
namespace Eng
open Resp
def wid (l : UInt8) : Nat := if l = 110 then 8 else if l = 116 then 2 else 1
def wrStep (r : Int × Int × Int) (n : Int) (s : List Int × Nat) (l : UInt8) : List Int × Nat := if l = 114 then (s.1 ++ [regAt r s.2], s.2 + 1) else (s.1 ++ numB n (wid l), s.2)
def wrS (i : Ins) (k : Nat) : List Int × Nat := ((frmL i.op).take k).foldl (wrStep (i.a, i.b, i.c) i.n) ([i.op], 0)
def insB (i : Ins) : List Int := (wrS i (frmL i.op).length).1
def prgB (p : List Ins) : List Int := p.flatMap insB
theorem wrS_succ {i : Ins} {k : Nat} (h : k < (frmL i.op).length) : wrS i (k + 1) = wrStep (i.a, i.b, i.c) i.n (wrS i k) (frmL i.op)[k] := by
 unfold wrS
 rw [List.take_succ_eq_append_getElem h, List.foldl_append]
 rfl
theorem wid_le (l : UInt8) : 1 ≤ wid l ∧ wid l ≤ 8 := by unfold wid; split; omega; split; omega; omega
theorem wid_eq (l : UInt8) : (if ((l.toNat : Nat) : Int) = 110 then (8 : Int) else if ((l.toNat : Nat) : Int) = 116 then 2 else 1) = (wid l : Int) := by
 have h1 : ((l.toNat : Nat) : Int) = 110 ↔ l = 110 := ⟨fun h => UInt8.toNat_inj.1 (by have : (110 : UInt8).toNat = 110 := rfl; omega), fun h => by subst h; rfl⟩
 have h2 : ((l.toNat : Nat) : Int) = 116 ↔ l = 116 := ⟨fun h => UInt8.toNat_inj.1 (by have : (116 : UInt8).toNat = 116 := rfl; omega), fun h => by subst h; rfl⟩
 unfold wid
 by_cases a : l = 110
 · rw [if_pos (h1.2 a), if_pos a]; rfl
 · rw [if_neg (fun h => a (h1.1 h)), if_neg a]
   by_cases b : l = 116
   · rw [if_pos (h2.2 b), if_pos b]; rfl
   · rw [if_neg (fun h => b (h2.1 h)), if_neg b]; rfl
theorem wrS_bd (i : Ins) : ∀ k, k ≤ (frmL i.op).length → (wrS i k).2 ≤ k ∧ (wrS i k).1.length ≤ 1 + 8 * k
 | 0, _ => by simp [wrS]
 | k + 1, h => by
   have := wrS_bd i k (by omega)
   rw [wrS_succ (by omega)]
   have hw := wid_le (frmL i.op)[k]
   unfold wrStep
   split
   · simp; omega
   · simp [numB_len]; omega
theorem insB_len (i : Ins) : (insB i).length ≤ 25 := by
 have := (wrS_bd i (frmL i.op).length (Nat.le_refl _)).2
 have := frmL_len i.op
 unfold insB
 omega
theorem prgB_take {p : List Ins} {k : Nat} (hk : k < p.length) : prgB (p.take (k + 1)) = prgB (p.take k) ++ insB p[k] := by
 unfold prgB
 rw [List.take_succ_eq_append_getElem hk, List.flatMap_append]
 simp
theorem own_iter_ {W : World} {base : Nat} {e : TypeId} {size : Nat} {v : Value} {k : Nat} {xs : List Value} (h : W.ownsRow base e size v k xs) {B : Nat} {o : Obj} (hB : W.heap[B]? = some o) (ho : o.isCells = false) : ¬ some B = v.ownBlock := by
 intro hg
 rcases h.2 with ⟨rfl, rfl⟩ | ⟨g', cap, cur, rfl, hb, hgg, rest⟩
 · cases hg
 · cases hg
   rw [hB] at hgg
   cases hgg
   cases ho
def WrP (W : World) (p : List Ins) (e : Ending) (w' : World) : Prop := ∃ v, e = .returned (.tuple #[v, .int .i64 (cpE p)]) ∧ w'.ownsRow W.heap.size 5 1 v (if cpE p = 0 then prgB p else []).length (u8s (if cpE p = 0 then prgB p else [])) ∧ Below W.heap.size W w'
set_option maxHeartbeats 2000000 in
theorem Write_any (a : Option Addr) (n c : Nat) (p : List Ins) (W : World) (h : PrgAt W a n p) (ho : PrgOk p) (hn : n ≤ maxLen) :
   Calls Tryz.prog 207 #[.slice a n c] W (WrP W p) := by
 obtain ⟨i0, hi, hz0, hz1, hz2⟩ := info_parts infoByte
 have H := Lib.hid h
 have HL := Lib.hid h.1
 have HO := Lib.hid ho
 have HC := Lib.hid (Check_any a n c p W h ho hn)
 clear h ho
 go_enter Tryz.func207, Tryz.ntmps207
 go_wp2_with fail
 refine HC.out.mono ?_; rintro e W1 ⟨rfl, hb1⟩
 have HB := Lib.hid hb1
 clear hb1 HC
 by_cases hE : cpE p = 0
 · have hn256 : n ≤ 256 := by
     have := HL.out
     unfold cpE at hE
     split at hE
     · cases hE
     · split at hE
       · cases hE
       · omega
   have HF : Hid ((if cpE p = 0 then prgB p else []) = prgB p) := if_pos hE
   have HE := Lib.hid hE
   rw [hE]
   clear hE
   generalize cpK p = ck
   have hX1 : W.heap.size ≤ W1.heap.size := HB.out.size
   generalize hX : W.heap.size = X at *
   have HX := Lib.hid hX
   clear hX
   go_wp2_with fail
   go_loopw [6, 25] (fun o i wr => ∃ (k m : Nat) (oa : Option Addr) (oc : Nat), k ≤ n ∧ m ≤ k * 25 ∧ i = .int .i64 k ∧ o = .slice oa m oc ∧ Hid (wr.ownsRow X 5 1 (.slice oa m oc) m (u8s (prgB (p.take k)))) ∧ Hid (Below X W wr)) (fun _ i _ => n - (intOf i).toNat)
   case atStart => exact ⟨0, 0, none, 0, Nat.zero_le _, by omega, rfl, rfl, owns_nil _ _ _ _, HB.out⟩
   case round =>
     obtain ⟨k, m, oa, oc, hk, hm, rfl, rfl, HR, HW⟩ := hrel
     by_cases hlt : k < n
     · have hltI : (k : Int) < n := by omega
       have hk2 : k < p.length := by have := HL.out; omega
       have HWW : Hid (Below W.heap.size W wr) := by rw [HX.out]; exact HW.out
       obtain ⟨b, o, rfl, hbl, c0, c1, c2, c3, c4⟩ := (H.out.below HWW.out).at_ hk2
       have HOK := Lib.hid (HO.out _ (List.getElem_mem hk2))
       have HT := Lib.hid (prgB_take hk2)
       have HBN := Lib.hid (insB_len p[k])
       have HXw : Hid (X ≤ wr.heap.size) := by have := HWW.out.size; have := HX.out; show X ≤ wr.heap.size; omega
       generalize p[k] = z at *
       have hop0 := HOK.out.op0
       have hop1 := HOK.out.op1
       obtain ⟨op, a', b', c', n'⟩ := z
       simp only at c0 c1 c2 c3 c4 hop0 hop1
       clear hk2 hbl
       go_wp2_with fail
       refine (Form_any op hop0 hop1 _).mono ?_; rintro e W2 ⟨rfl, hb2⟩
       obtain ⟨hi2, hb2'⟩ := new_ins hb2
       obtain ⟨q0, q1, q2, q3, q4⟩ := hi2.cells
       have HI2 := Lib.hid hi2
       have HR2 := Lib.hid (owns_up HR.out hb2')
       have HB2 := Lib.hid (HW.out.trans (hb2'.mono HXw.out))
       have HX2 : X ≤ W2.heap.size := Nat.le_trans HXw.out hb2'.size
       clear c0 c1 c2 c3 c4 hb2 hi2 hb2'
       go_wp2_with (at_builtin; go_loud (refine wpList_append_lies _ rfl _ _ 25 rfl X 5 i0 (.int .u8 0) 1 1 Tryz.underlying25 hi hz0 hz1 hz2 rfl (by decide) (.slice oa m oc) m _ rfl (HR2.out.alloc _) ⟨W2.heap.size, 0, none⟩ 1 1 [.int .u8 op] rfl rfl (cell_one_new _ _ _) (by simp [Value.oneCell']) (by decide) (by unfold maxLen; omega) (by omega) (by simp; omega) _ rfl ?_); intro g2 oc2 W3 hown' hgrow hat hgl; have HOWN := Lib.hid hown'; have HM3 : Hid (Mod (fun q => some q = (Value.slice oa m oc).ownBlock) W2 W3) := ((Mod.refl _ W2).alloc _).trans (Mod.of_grownBy hgrow); have HI3 : Hid (InsAt W3 wr.heap.size op a' b' c' n') := HM3.out.heap HI2.out (own_other_ HR2.out HI2.out (by decide)); clear hown' hgrow hat hgl q0 q1 q2 q3 q4; obtain ⟨q0, q1, q2, q3, q4⟩ := HI3.out.cells)
       refine (registers_any op a' b' c' n' _).mono ?_; rintro e W4 ⟨rfl, hb4⟩
       have HI4 := Lib.hid (HI3.out.below hb4)
       have HR4 := Lib.hid (owns_up HOWN.out hb4)
       have hX3 : X ≤ W3.heap.size := Nat.le_trans HX2 HM3.out.size
       have HB3 : Hid (Below X W W3) := HB2.out.trans (HM3.out.below HX2 (fun q hq e => by have := ownBlock_ge_ HR2.out e.symm; omega))
       have HB4 := Lib.hid (HB3.out.trans (hb4.mono hX3))
       have hX4 : X ≤ W4.heap.size := Nat.le_trans hX3 hb4.size
       clear hb4 HOWN HI3 HM3 HI2 HR2 HB2 HR HW HWW HX2 hX3 q0 q1 q2 q3 q4
       have HLEN := Lib.hid (wrS_bd ⟨op, a', b', c', n'⟩)
       go_wp2_with fail
       have HIT : Hid (((W4.alloc (.cells #[.int .u8 a', .int .u8 b', .int .u8 c'] 378)).iter (frmS op) 0).heap[W4.heap.size + 1]? = some (.stringIter (frmS op) 0)) := by
         have := World.iter_heap (W4.alloc (.cells #[.int .u8 a', .int .u8 b', .int .u8 c'] 378)) (frmS op) 0
         simpa [Hid] using this
       have hbi : Below W4.heap.size W4 ((W4.alloc (.cells #[.int .u8 a', .int .u8 b', .int .u8 c'] 378)).iter (frmS op) 0) := ((Below.refl _ _).alloc (Nat.le_refl _) _).alloc (by simp) _
       have HRB : Hid (RegB ((W4.alloc (.cells #[.int .u8 a', .int .u8 b', .int .u8 c'] 378)).iter (frmS op) 0) W4.heap.size (a', b', c')) := (RegB.new W4 a' b' c').below ((Below.refl _ _).alloc (Nat.le_refl _) _)
       have HI5 := Lib.hid (HI4.out.below hbi)
       have HR5 := Lib.hid (owns_up HR4.out hbi)
       have HB5 := Lib.hid (HB4.out.trans (hbi.mono hX4))
       have hX5 : X ≤ ((W4.alloc (.cells #[.int .u8 a', .int .u8 b', .int .u8 c'] 378)).iter (frmS op) 0).heap.size := Nat.le_trans hX4 hbi.size
       have hXI : X ≤ W4.heap.size + 1 := by omega
       clear hbi HI4 HR4 HB4
       generalize (W4.alloc (.cells #[.int .u8 a', .int .u8 b', .int .u8 c'] 378)).iter (frmS op) 0 = W5 at *
       generalize W4.heap.size + 1 = XI at *
       generalize W4.heap.size = RB at *
       generalize wr.heap.size = IB at *
       go_loopw [6, 12] (fun o u wq => ∃ (j m2 : Nat) (oa2 : Option Addr) (oc3 : Nat), j ≤ (frmL op).length ∧ m2 ≤ m + 1 + 8 * j ∧ o = .slice oa2 m2 oc3 ∧ u = .int .i64 ((wrS ⟨op, a', b', c', n'⟩ j).2 : Nat) ∧ Hid (wq.ownsRow X 5 1 (.slice oa2 m2 oc3) m2 (u8s (prgB (p.take k) ++ (wrS ⟨op, a', b', c', n'⟩ j).1))) ∧ Hid (wq.heap[XI]? = some (.stringIter (frmS op) j)) ∧ Hid (RegB wq RB (a', b', c')) ∧ Hid (InsAt wq IB op a' b' c' n') ∧ Hid (Below X W wq)) (fun _ _ wq => (frmL op).length - wq.iterPos XI)
       case atStart => exact ⟨0, m + 1, _, _, Nat.zero_le _, by omega, rfl, rfl, by have := HR5.out; rw [Hid, u8s_append]; simpa [wrS, u8s] using this, HIT, HRB, HI5, HB5⟩
       case round =>
         obtain ⟨j, m2, oa2, oc3, hj, hm2, rfl, rfl, HRR, HIQ, HRQ, HIN, HBQ⟩ := hrel
         have hsz : (frmS op).size = (frmL op).length := by simp [frmS, ByteArray.size]
         have hl3 := frmL_len op
         have hXq : X ≤ wr.heap.size := by have := HBQ.out.size; have := HX.out; omega
         by_cases hjl : j < (frmL op).length
         · have hel : (frmS op)[j]'(by omega) = (frmL op)[j] := by simp [frmS]; rfl
           have hl4 := frmL_letter (List.getElem_mem hjl)
           have HST := Lib.hid (wrS_succ (i := ⟨op, a', b', c', n'⟩) hjl)
           have hnx := fun ty => run_next_at (P := Tryz.prog) HIQ.out ty (by omega) (by rw [hel]; rcases hl4 with h | h | h | h <;> rw [h] <;> decide)
           rw [hel] at hnx
           have hu3 : (wrS ⟨op, a', b', c', n'⟩ j).2 < 3 := by have := (HLEN.out j hj).1; omega
           have HNI := Lib.hid (own_iter_ HRR.out HIQ.out rfl)
           have hmp := mod_put_ wr XI (.stringIter (frmS op) (j + 1))
           have HIP : Hid ((wr.putObj XI (.stringIter (frmS op) (j + 1))).heap[XI]? = some (.stringIter (frmS op) (j + 1))) := put_at_ _ HIQ.out
           have HRP := Lib.hid (HRQ.out.put (.stringIter (frmS op) (j + 1)) HIQ.out rfl)
           have HINP : Hid (InsAt (wr.putObj XI (.stringIter (frmS op) (j + 1))) IB op a' b' c' n') := hmp.heap HIN.out (fun e => by have h' : wr.heap[IB]? = _ := HIN.out; rw [e, HIQ.out] at h'; cases h')
           have HROW := Lib.hid (ownsRow_mod HRR.out hmp (fun g hg e => HNI.out (by rw [← e]; exact hg.symm)))
           have HBP : Hid (Below X W (wr.putObj XI (.stringIter (frmS op) (j + 1)))) := HBQ.out.trans (hmp.below hXq (fun q hq e => by omega))
           have hXp : X ≤ (wr.putObj XI (.stringIter (frmS op) (j + 1))).heap.size := Nat.le_trans hXq hmp.size
           clear hel hmp
           generalize (frmL op)[j] = l at *
           generalize wrS ⟨op, a', b', c', n'⟩ j = s1 at *
           obtain ⟨bs, u⟩ := s1
           simp only at hu3
           generalize hB6 : (wr.putObj XI (.stringIter (frmS op) (j + 1))) = wp at *
           have HBE := Lib.hid hB6
           clear hB6
           by_cases h114 : l = 114
           · subst h114
             have HN : Hid (wrS ⟨op, a', b', c', n'⟩ (j + 1) = (bs ++ [regAt (a', b', c') u], u + 1)) := HST.out
             obtain ⟨r0, rf⟩ := HRP.out.at_ hu3
             go_wp2_with (at_builtin; go_loud (refine wpList_append_lies _ rfl _ _ 25 rfl X 5 i0 (.int .u8 0) 1 1 Tryz.underlying25 hi hz0 hz1 hz2 rfl (by decide) (.slice oa2 m2 oc3) m2 _ rfl (HROW.out.alloc _) ⟨wp.heap.size, 0, none⟩ 1 1 [.int .u8 (regAt (a', b', c') u)] rfl rfl (cell_one_new _ _ _) (by simp [Value.oneCell']) (by decide) (by unfold maxLen; omega) (by omega) (by simp; omega) _ rfl ?_); intro g3 oc4 W6 hown' hgrow hat hgl; have HOWN := Lib.hid hown'; have HM6 : Hid (Mod (fun q => some q = (Value.slice oa2 m2 oc3).ownBlock) wp W6) := ((Mod.refl _ _).alloc _).trans (Mod.of_grownBy hgrow); clear hown' hgrow hat hgl)
             have HI6 : Hid (W6.heap[XI]? = some (.stringIter (frmS op) (j + 1))) := HM6.out.heap HIP.out (own_iter_ HROW.out HIP.out rfl)
             refine ⟨⟨j + 1, m2 + 1, _, _, by omega, by omega, rfl, by rw [HN.out]; simp, ?_, HI6.out, HM6.out.heap HRP.out (own_other_ HROW.out HRP.out (by decide)), HM6.out.heap HINP.out (own_other_ HROW.out HINP.out (by decide)), HBP.out.trans (HM6.out.below hXp (fun q hq e => by have := ownBlock_ge_ HROW.out e.symm; omega))⟩, by rw [iterPos_of HIQ.out, iterPos_of HI6.out]; omega⟩
             have := HOWN.out
             rw [Hid, HN.out]
             simp only
             rw [← List.append_assoc, u8s_append]
             exact this
           · have HN : Hid (wrS ⟨op, a', b', c', n'⟩ (j + 1) = (bs ++ numB n' (wid l), u)) := by rw [Hid, HST.out, wrStep, if_neg h114]
             have hlb : (((l.toNat : Nat) : Int) == 114) = false := by
               rw [beq_eq_false_iff_ne]
               intro h
               exact h114 (UInt8.toNat_inj.1 (by have : (114 : UInt8).toNat = 114 := rfl; omega))
             have HWD := Lib.hid (wid_eq l)
             have HWL := Lib.hid (wid_le l)
             obtain ⟨q0, q1, q2, q3, q4⟩ := HINP.out.cells
             have HM20 : Hid (m2 ≤ 1048576) := Lib.hid (by omega)
             have HXP := Lib.hid hXp
             generalize hwd : wid l = wd at *
             have hcl := Nat.zero_le l.toNat
             generalize ((l.toNat : Nat) : Int) = lc at *
             clear h114 hwd hcl
             go_wp2_with fail
             go_region_held3 (fun w' => w'.cell? ⟨IB, 4, none⟩ = some (.int .i64 n'))
               (first | (with_reducible exact HK2.out) | exact q4 | go_keep)
               ((first
                 | (go_at_call 249; refine (width_any lc _).mono ?_; rintro e y1 ⟨rfl, rfl⟩; rw [HWD.out])
                 | (go_at_call 248; refine (number_any n' wd HWL.out.2 X m2 (.slice oa2 m2 oc3) (u8s (prgB (p.take k) ++ bs)) _ (by exact HROW.out) HM20.out (by exact HXP.out)).mono ?_; rintro e y2 ⟨v2, rfl, ho2, hm2'⟩; obtain ⟨a5, c5, e5⟩ := ownsRow_form ho2; subst e5; have HO2 := Lib.hid ho2; have HM6 : Hid (Mod (fun q => some q = (Value.slice oa2 m2 oc3).ownBlock) wp y2) := (Mod.of_same (by repeat (first | exact Below.refl _ _ | refine below_drew_ ?_ | refine below_alloc_ ?_ _))).trans hm2'; have HK2 : Hid (y2.cell? ⟨IB, 4, none⟩ = some (.int .i64 n')) := (show InsAt y2 IB op a' b' c' n' from HM6.out.heap HINP.out (own_other_ HROW.out HINP.out (by decide))).cells.2.2.2.2; clear ho2 hm2')))
             have hwl := HWL.out
             go_wp2_with fail
             have HI6 : Hid (y2.heap[XI]? = some (.stringIter (frmS op) (j + 1))) := HM6.out.heap HIP.out (own_iter_ HROW.out HIP.out rfl)
             refine ⟨⟨j + 1, m2 + wd, _, _, by omega, by omega, rfl, by rw [HN.out], ?_, HI6.out, HM6.out.heap HRP.out (own_other_ HROW.out HRP.out (by decide)), HM6.out.heap HINP.out (own_other_ HROW.out HINP.out (by decide)), HBP.out.trans (HM6.out.below hXp (fun q hq e => by have := ownBlock_ge_ HROW.out e.symm; omega))⟩, by rw [iterPos_of HIQ.out, iterPos_of HI6.out]; omega⟩
             have := HO2.out
             rw [Hid, HN.out]
             simp only
             rw [← List.append_assoc, u8s_append]
             exact this
         · obtain rfl : j = (frmL op).length := by omega
           have hnx := fun ty => run_next_none (P := Tryz.prog) HIQ.out ty (by omega)
           have HTT : Hid (prgB (p.take (k + 1)) = prgB (p.take k) ++ (wrS ⟨op, a', b', c', n'⟩ (frmL op).length).1) := HT.out
           rw [← HTT.out] at HRR
           have hm3 : m2 ≤ (k + 1) * 25 := by omega
           clear hsz hm2 hjl
           go_wp2_with fail
           exact ⟨⟨k + 1, m2, oa2, oc3, by omega, hm3, by simp, rfl, HRR.out, HBQ.out⟩, by simp [intOf]; omega⟩
     · obtain rfl : k = n := by omega
       have HR2 : Hid (wr.ownsRow X 5 1 (.slice oa m oc) m (u8s (prgB p))) := by
         have := HR.out
         rw [List.take_of_length_le (by have := HL.out; omega)] at this
         exact this
       have hml : m = (prgB p).length := by have := HR2.out.1; rw [u8s_length] at this; omega
       have HP : Hid (WrP W p (.returned (.tuple #[.slice oa m oc, .int .i64 0])) wr) := by
         refine ⟨_, by rw [HE.out], ?_, by rw [HX.out]; exact HW.out⟩
         rw [HF.out, HX.out, ← hml]
         exact HR2.out
       clear HR HR2 HW hml
       go_wp2_with fail
       go_ret2
       exact HP.out
 · have hEb : (cpE p != 0) = true := by rw [bne_iff_ne]; exact hE
   have HF : Hid ((if cpE p = 0 then prgB p else []) = []) := if_neg hE
   have HP : Hid (WrP W p (.returned (.tuple #[.slice none 0 0, .int .i64 (cpE p)])) W1) := ⟨_, rfl, by rw [HF.out]; exact owns_nil _ _ _ _, HB.out⟩
   clear hE HF
   generalize cpK p = ck
   generalize cpE p = ce at *
   go_wp2_with fail
   go_ret2
   exact HP.out
end Eng
end Go.Proofs.YtdfmgneicdpjmaaGreat

namespace Go.Proofs.YtdfmgneicdpjmaaGreat
open Go.RowKit Go.Shelf
set_option linter.unusedVariables false
set_option linter.unusedSimpArgs false
namespace Eng
open Resp App
def prcF (i : Nat) (x : Prc) : List (Int × List Int) := [(10 * ((i : Int) + 1), bytesL x.name), (10 * ((i : Int) + 1) + 1, numBytes (u64N x.cells).toNat), (10 * ((i : Int) + 1) + 2, if cpE x.prog = 0 then prgB x.prog else [])]
def flatP : Nat → List Prc → List (Int × List Int)
 | _, [] => []
 | i, x :: t => prcF i x ++ flatP (i + 1) t
def fedF (f : Fdn) (ps : List Prc) : List (Int × List Int) := (1, numBytes f.seed.toNat) :: (((List.range 6).map fun (k : Nat) => ((k : Int) + 2, numBytes (u64N (fdnN f k)).toNat)) ++ flatP 0 ps)
theorem flatP_len : ∀ (ps : List Prc) (i : Nat), (flatP i ps).length = 3 * ps.length
 | [], _ => rfl
 | x :: t, i => by rw [flatP, List.length_append, flatP_len t (i + 1)]; simp [prcF]; omega
theorem flatP_at : ∀ (ps : List Prc) (i k : Nat) (x : Prc) (j : Nat), ps[k]? = some x → j < 3 → (flatP i ps)[3 * k + j]? = (prcF (i + k) x)[j]?
 | [], _, _, _, _, h, _ => by simp at h
 | y :: t, i, 0, x, j, h, hj => by
   simp only [List.getElem?_cons_zero, Option.some.injEq] at h
   subst h
   rw [flatP, List.getElem?_append_left (by simp [prcF]; omega)]
   simp
 | y :: t, i, k + 1, x, j, h, hj => by
   rw [flatP, List.getElem?_append_right (by simp [prcF]; omega)]
   have := flatP_at t (i + 1) k x j (by simpa using h) hj
   rw [show 3 * (k + 1) + j - (prcF i y).length = 3 * k + j by simp [prcF]; omega, this, show i + 1 + k = i + (k + 1) by omega]
theorem fedF_len (f : Fdn) (ps : List Prc) : (fedF f ps).length = 7 + 3 * ps.length := by
 unfold fedF
 rw [List.length_cons, List.length_append, flatP_len]
 simp
 omega
theorem fedF_0 (f : Fdn) (ps : List Prc) : (fedF f ps)[0]? = some (1, numBytes f.seed.toNat) := rfl
theorem fedF_1 (f : Fdn) (ps : List Prc) {k : Nat} (hk : k < 6) : (fedF f ps)[1 + k]? = some ((k : Int) + 2, numBytes (u64N (fdnN f k)).toNat) := by
 unfold fedF
 rw [Nat.add_comm, List.getElem?_cons_succ, List.getElem?_append_left (by simpa using hk)]
 simp [hk]
theorem fedF_2 (f : Fdn) (ps : List Prc) {k : Nat} {x : Prc} (hx : ps[k]? = some x) {j : Nat} (hj : j < 3) : (fedF f ps)[7 + 3 * k + j]? = (prcF k x)[j]? := by
 unfold fedF
 rw [show 7 + 3 * k + j = (6 + (3 * k + j)) + 1 by omega, List.getElem?_cons_succ, List.getElem?_append_right (by simp)]
 have := flatP_at ps 0 k x j hx hj
 rw [Nat.zero_add] at this
 rw [← this]
 congr 1
 simp
theorem CellsK.cell0 {S : Nat → TypeId → Prop} {A B : World} (h : CellsK S A B) (hS : ∀ q t, S q t → A.heap.size ≤ q) {b o : Nat} {v : Value} (hc : A.cell? ⟨b, o, none⟩ = some v) : B.cell? ⟨b, o, none⟩ = some v :=
 h.cell hc (fun t ht => by have h1 := hS b t ht; have h2 := World.block_lt_of_cell? A _ hc; simp only at h2; omega)
theorem PrgAt.keep0 {S : Nat → TypeId → Prop} {A B : World} {a : Option Addr} {n : Nat} {p : List Ins} (h : PrgAt A a n p) (hk : CellsK S A B) (hS : ∀ q t, S q t → A.heap.size ≤ q) : PrgAt B a n p :=
 ⟨h.1, fun i e he => by
   obtain ⟨b, o, e1, h0, h1, h2, h3, h4⟩ := h.2 i e he
   exact ⟨b, o, e1, hk.cell0 hS h0, hk.cell0 hS h1, hk.cell0 hS h2, hk.cell0 hS h3, hk.cell0 hS h4⟩⟩
theorem PrcsAt.keep0 {S : Nat → TypeId → Prop} {A B : World} {a : Option Addr} {n : Nat} {ps : List Prc} (h : PrcsAt A a n ps) (hk : CellsK S A B) (hS : ∀ q t, S q t → A.heap.size ≤ q) : PrcsAt B a n ps :=
 ⟨h.1, fun k x hx => by
   obtain ⟨b, o, pv, h1, h2, ⟨pa, pc, h3, h4⟩⟩ := h.2 k x hx
   exact ⟨b, o, pv, h1, ⟨hk.cell0 hS h2.1, hk.cell0 hS h2.2.1, hk.cell0 hS h2.2.2⟩, pa, pc, h3, h4.keep0 hk hS⟩⟩
end Eng
end Go.Proofs.YtdfmgneicdpjmaaGreat
