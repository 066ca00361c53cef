import Derived.Test.YtdfmgneicdpjmaaGreatM22
import Derived.Test.YtdfmgneicdpjmaaGreatM11
import Derived.Handy
import Derived.BigQuiet
import Derived.Test.YtdfmgneicdpjmaaGreatM10
/- request.Write. -/
namespace Go.Proofs.YtdfmgneicdpjmaaGreat
open Go.RowKit Go.Shelf
attribute [local go_sem] Oper.semAt_some
set_option linter.unusedVariables false
set_option linter.unusedSimpArgs false
set_option maxRecDepth 100000
namespace Eng
open Resp App View

/-- Fields of which only tags and bytes are said. -/
def ofN (ns : List (Int × List Int)) : List F := ns.map fun x => (x.1, .slice none 0 0, x.2)
theorem flat_ofN (l : List F) : flat (ofN (tbs l)) = flat l := by
  induction l with
  | nil => rfl
  | cons f l ih => simp only [flat, ofN, tbs, List.map_cons, List.flatMap_cons] at ih ⊢; rw [ih]; rfl
theorem rightL_ofN : ∀ (l : List F) (a b : Int), rightL a b (ofN (tbs l)) = rightL a b l
  | [], _, _ => rfl
  | f :: l, a, b => by
    have := rightL_ofN l f.1 (b - f.2.2.length)
    simp only [ofN, tbs, List.map_cons, rightL] at this ⊢
    rw [this]
theorem rightF_ofN (l : List F) : rightF (ofN (tbs l)) = rightF l := by
  unfold rightF
  rw [rightL_ofN]
  simp [ofN, tbs]
theorem flat_le : ∀ (l : List F) (a b : Int), rightL a b l = true → b ≤ 16384 → 0 ≤ b → ((flat l).length : Int) ≤ b + 10 * l.length
  | [], _, b, _, _, hb => by simp [flat]; exact hb
  | f :: l, a, b, h, h1, h2 => by
    simp only [rightL, Bool.and_eq_true, decide_eq_true_eq] at h
    obtain ⟨⟨⟨-, -⟩, h3⟩, h4⟩ := h
    have h5 := flat_le l f.1 (b - f.2.2.length) h4 (by omega) (by omega)
    have h6 := numBytes_le (x := f.2.2.length) (by omega)
    simp only [flat, List.flatMap_cons, List.length_append, fieldBytes, List.length_cons] at h5 ⊢
    omega
/-- The fields of a request, and its form. -/
def nsR (r : Rq) (zs : List Int) : List (Int × List Int) := ((tgL r.kind r.what).getD []).map fun t => (t, fval r zs t)
def formQ (r : Rq) (zs : List Int) : Option (List Int) := if rightR r zs = true ∧ rightF (ofN (nsR r zs)) = true then some (1 :: r.kind :: flat (ofN (nsR r zs))) else none
/-- What Write returns. -/
def WqP (r : Rq) (zs : List Int) (W : World) (e : Ending) (w' : World) : Prop := match formQ r zs with
  | some bs => ∃ v, e = .returned (.tuple #[v, .int .i64 0]) ∧ w'.ownsRow W.heap.size 5 1 v bs.length (u8s bs) ∧ Below W.heap.size W w'
  | none => e = .returned (.tuple #[.slice none 0 0, .int .i64 340]) ∧ Below W.heap.size W w'
theorem WqP.no {r : Rq} {zs : List Int} {W w' : World} (h : ¬ (rightR r zs = true ∧ rightF (ofN (nsR r zs)) = true)) (hb : Below W.heap.size W w') : WqP r zs W (.returned (.tuple #[.slice none 0 0, .int .i64 340])) w' := by
  unfold WqP formQ; rw [if_neg h]; exact ⟨rfl, hb⟩
theorem WqP.yes {r : Rq} {zs : List Int} {W w' : World} {v : Value} (h1 : rightR r zs = true) (h2 : rightF (ofN (nsR r zs)) = true) (ho : w'.ownsRow W.heap.size 5 1 v (2 + (flat (ofN (nsR r zs))).length) ([.int .u8 1, .int .u8 r.kind] ++ u8s (flat (ofN (nsR r zs))))) (hb : Below W.heap.size W w') : WqP r zs W (.returned (.tuple #[v, .int .i64 0])) w' := by
  unfold WqP formQ; rw [if_pos ⟨h1, h2⟩]
  refine ⟨v, rfl, ?_, hb⟩
  rw [u8s_cons, u8s_cons, List.length_cons, List.length_cons, Nat.add_assoc, Nat.add_comm]
  exact ho
set_option maxHeartbeats 4000000 in
theorem Write_req (r : Rq) (fv : Value) (zs : List Int) (W : World) (hf : TB W fv zs) (ho : Octets zs) (hr : RqOk r) (hn : RqNum r) (hl : zs.length ≤ 100000) :
    Calls Tryz.prog 98 #[.agg (rqC r fv)] W (WqP r zs W) := by
  have HRT := Lib.hid (fun w hw => Right_req r fv zs w hw ho hr hn hl)
  obtain ⟨fa, fc, rfl⟩ := hf.form
  have HF := Lib.hid hf
  have HO := Lib.hid ho
  have HR := Lib.hid hr
  have HN := Lib.hid hn
  clear hf ho hr hn
  go_enter Tryz.func98, Tryz.ntmps98
  obtain ⟨i0, hi, hz0, hz1, hz2⟩ := info_parts infoByte
  unfold rqC
  go_wp2_with fail
  have hb1 : Below W.heap.size W (W.alloc (.cells (rqC r (.slice fa zs.length fc)) 165)) := (Below.refl _ _).alloc (Nat.le_refl _) _
  have HQ1 : Hid (RqAt (W.alloc (.cells (rqC r (.slice fa zs.length fc)) 165)) W.heap.size r (.slice fa zs.length fc)) := World.alloc_heap_new W _
  have HF1 := Lib.hid (HF.out.below hb1)
  have HB1 := Lib.hid hb1
  have HS1 : Hid ((W.alloc (.cells (rqC r (.slice fa zs.length fc)) 165)).heap.size = W.heap.size + 1) := alloc_size_ _ _
  clear hb1
  unfold rqC at HQ1 HF1 HB1 HS1
  generalize (W.alloc (.cells #[.int .u8 r.kind, .int .u8 r.what, .string r.name, .int .i64 r.process, .int .i64 r.handle, .int .i64 r.holder, .int .i64 r.rights, .int .i64 r.time, .int .i64 r.source, .int .i64 r.seq, .int .i64 r.value, .slice fa zs.length fc] 165)) = W1 at *
  refine (show Calls _ _ #[.agg (rqC r (.slice fa zs.length fc))] W1 _ from HRT.out W1 HF1.out).mono ?_
  rintro e W2 ⟨rfl, hb2⟩
  have HQ2 := Lib.hid (HQ1.out.below hb2)
  have HF2 := Lib.hid (HF1.out.below hb2)
  have HB2 := Lib.hid (HB1.out.trans (hb2.mono HB1.out.size))
  have HS2 : Hid (W.heap.size < W2.heap.size) := by have h1 := hb2.size; have h2 := HS1.out; unfold Hid; omega
  clear hb2 HQ1 HF1 HB1 HRT
  obtain ⟨q0, q1, q2, q3, q4, q5, q6, q7, q8, q9, q10, q11⟩ := HQ2.out.cells
  rcases hrr : rightR r zs with _ | _
  · have HX : Hid (∀ e w', (e = .returned (.tuple #[.slice none 0 0, .int .i64 340]) ∧ Below W.heap.size W w') → WqP r zs W e w') := by
      rintro e w' ⟨rfl, h⟩
      exact WqP.no (by rw [hrr]; simp) h
    clear hrr
    go_wp2_with fail
    go_ret2
    exact HX.out _ _ ⟨rfl, HB2.out⟩
  · obtain ⟨ts, hts⟩ : ∃ ts, tgL r.kind r.what = some ts := by
      cases h : tgL r.kind r.what with
      | none => unfold rightR at hrr; rw [h] at hrr; cases hrr
      | some ts => exact ⟨ts, rfl⟩
    have hnz : r.name.size ≤ 255 ∧ zs.length ≤ 15000 := by
      unfold rightR at hrr
      rw [hts] at hrr
      simp only [Bool.and_eq_true, decide_eq_true_eq] at hrr
      exact ⟨hrr.1.1.1.1, hrr.1.1.1.2⟩
    obtain ⟨htg, hln⟩ := tgL_ok hts
    have hns : nsR r zs = ts.map fun t => (t, fval r zs t) := by unfold nsR; rw [hts]; rfl
    have HNS := Lib.hid hns
    have HTG := Lib.hid htg
    have HLN := Lib.hid hln
    have HRR := Lib.hid hrr
    have HNZ := Lib.hid hnz
    have HTGS : Hid (tgL r.kind r.what = some ts) := hts
    clear hns htg hln hrr hnz hts
    go_wp2_with fail
    refine (Tags_any _ _ _).mono ?_
    rintro e W3 ⟨lv, rfl, hlv, hb3⟩
    rw [HTGS.out] at hlv ⊢
    simp only [Option.getD_some, Option.isSome_some] at hlv ⊢
    obtain ⟨la, lc, rfl⟩ := ownsRow_form hlv
    have HQ3 := Lib.hid (HQ2.out.below hb3)
    have HF3 := Lib.hid (HF2.out.below hb3)
    have HB3 := Lib.hid (HB2.out.trans (hb3.mono HB2.out.size))
    have HS3 : Hid (W.heap.size < W3.heap.size) := by have h1 := hb3.size; have h2 := HS2.out; unfold Hid; omega
    have HLV := Lib.hid hlv
    clear hb3 hlv HQ2 HF2 HB2 HS2 q0 q1 q2 q3 q4 q5 q6 q7 q8 q9 q10 q11
    obtain ⟨q0, q1, q2, q3, q4, q5, q6, q7, q8, q9, q10, q11⟩ := HQ3.out.cells
    go_wp2_with fail
    refine (show Calls _ _ #[.agg (rqC r (.slice fa zs.length fc)), _] W3 _ from fields_any r (.slice fa zs.length fc) zs (.slice la ts.length lc) ts W3 (Reads.of_owns HLV.out) HF3.out).mono ?_
    rintro e W4 ⟨bl, br, ba, rfl, hfd, -, hb4⟩
    have HQ4 := Lib.hid (HQ3.out.below hb4)
    have HB4 := Lib.hid (HB3.out.trans (hb4.mono HB3.out.size))
    have HS4 : Hid (W.heap.size < W4.heap.size) := by have h1 := hb4.size; have h2 := HS3.out; unfold Hid; omega
    have HFD := Lib.hid hfd
    clear hb4 hfd HQ3 HF3 HB3 HS3 HLV q0 q1 q2 q3 q4 q5 q6 q7 q8 q9 q10 q11
    go_wp2_with fail
    have hpin : (fun (_ : Nat) => Mod (fun _ => False) W4) = fun _ => Below W4.heap.size W4 := by funext k A; exact propext mod_below_
    have hseq := SeqFr.pin W4 (fun _ => False) (fields1_fx 7 (by omega) bl br ba ts la lc r (.slice fa zs.length fc) zs HR.out (by have := HNZ.out; omega) HTG.out (by have := HLN.out; omega)).fr (fun k A hA => HFD.out.mod hA)
    rw [hpin] at hseq
    have hlns : (nsR r zs).length = ts.length := by rw [HNS.out, List.length_map]
    have HCO := Lib.hid (CollectF 200 #[.pointer (some ⟨bl, 0, none⟩), .pointer (some ⟨br, 0, none⟩), .pointer (some ⟨ba, 0, none⟩)] (enters_of Tryz.func200 (by kernel_rfl) rfl) (nsR r zs) (by have := HLN.out; omega) (FdYa bl br ba (.slice la ts.length lc) ts r (.slice fa zs.length fc) zs) W4
      (fun k x W0 A ⟨t, v, h1, h2, h3, _⟩ => ⟨t, fval r zs t, v, by rw [HNS.out, List.getElem?_map, h1]; rfl, h2, h3⟩) (by rw [hlns]; exact hseq))
    clear hpin hseq hlns
    refine HCO.out.mono ?_
    rintro e W5 ⟨cv, fl, rfl, hfl, hft, hb5⟩
    obtain ⟨ca, cc, rfl⟩ := ownsRow_form hft.1
    have hlen : fl.length = ts.length := by rw [← tbs_length fl, hfl, HNS.out, List.length_map]
    have HLF := Lib.hid hlen
    have HQ5 := Lib.hid (HQ4.out.below hb5)
    have HB5 := Lib.hid (HB4.out.trans (hb5.mono HB4.out.size))
    have HS5 : Hid (W.heap.size < W5.heap.size) := by have h1 := hb5.size; have h2 := HS4.out; unfold Hid; omega
    have HFT := Lib.hid hft
    have HFL := Lib.hid hfl
    clear hlen hb5 hft hfl HCO HFD HQ4 HB4 HS4
    go_wp2_with fail
    refine (WriteF_any _ fl W5 HFT.out.reads (by have h1 := HLF.out; have h2 := HLN.out; omega)).mono ?_
    rintro e W6 hw
    by_cases hrf : rightF fl = true
    · unfold WfP at hw
      rw [if_pos hrf] at hw
      obtain ⟨v, rfl, ho6, hb6⟩ := hw
      have hfle : (flat fl).length ≤ 20000 := by
        have h1 : rightL 0 16384 fl = true := by
          unfold rightF at hrf
          exact (Bool.and_eq_true_iff.1 hrf).1
        have h2 := flat_le fl 0 16384 h1 (by omega) (by omega)
        have h3 := HLF.out
        have h4 := HLN.out
        omega
      obtain ⟨va, vc, rfl⟩ := ownsRow_form ho6
      have HQ6 := Lib.hid (HQ5.out.below hb6)
      have HB6 := Lib.hid (HB5.out.trans (hb6.mono HB5.out.size))
      have HS6 : Hid (W.heap.size < W6.heap.size) := by have h1 := hb6.size; have h2 := HS5.out; unfold Hid; omega
      have HO6 := Lib.hid ho6
      have HRF : Hid (rightF (ofN (nsR r zs)) = true) := by unfold Hid; rw [← HFL.out, rightF_ofN]; exact hrf
      have HFA : Hid (flat (ofN (nsR r zs)) = flat fl) := by unfold Hid; rw [← HFL.out, flat_ofN]
      clear hb6 ho6 hrf HQ5 HB5 HS5 HFT
      obtain ⟨q0, -⟩ := HQ6.out.cells
      generalize hnf : (flat fl).length = nf at *
      have HNF := Lib.hid hnf
      clear hnf
      have hbz : W.heap.size ≤ W6.heap.size := Nat.le_of_lt HS6.out
      have HLIT : Hid ((W6.alloc (.cells #[.int .u8 1, .int .u8 r.kind] 5)).ownsRow W.heap.size 5 1 (.slice (some ⟨W6.heap.size, 0, none⟩) 2 2) 2 [.int .u8 1, .int .u8 r.kind]) := World.ownsRow_lit W6 #[.int .u8 1, .int .u8 r.kind] 2 hbz (by unfold maxLen; omega) rfl
      have HSRC : Hid (SrcAt (W6.alloc (.cells #[.int .u8 1, .int .u8 r.kind] 5)) (.slice va nf vc) nf 1 (u8s (flat fl))) := (src_own HO6.out).below ((Below.refl _ _).alloc (Nat.le_refl _) _)
      go_wp2_with (at_builtin; go_loud (refine wpList_app _ rfl _ _ 25 rfl W.heap.size 5 i0 (.int .u8 0) 1 1 Tryz.underlying25 hi hz0 hz1 hz2 rfl (by decide) (.slice (some ⟨W6.heap.size, 0, none⟩) 2 2) 2 [.int .u8 1, .int .u8 r.kind] rfl HLIT.out (.slice va nf vc) nf (u8s (flat fl)) rfl HSRC.out (u8s_one _) (by unfold maxLen; omega) (by omega) (by simp; omega) _ rfl ?_); intro a7 c7 w7 hown7 hgrow7 hat7; have HO7 := Lib.hid hown7; have HG7 := Lib.hid hgrow7; clear hown7 hgrow7 hat7)
      have hm7 : Mod (fun q => some q = (Value.slice (some ⟨W6.heap.size, 0, none⟩) 2 2).ownBlock) W6 w7 := ((Mod.refl _ W6).alloc _).trans (Mod.of_grownBy HG7.out)
      have hb7 := HB6.out.trans (hm7.below hbz (fun q hq e => by
        have e' : q = W6.heap.size := Option.some.inj e
        omega))
      go_ret2
      refine WqP.yes HRR.out HRF.out ?_ hb7
      rw [HFA.out, HNF.out]
      exact HO7.out
    · unfold WfP at hw
      rw [if_neg hrf] at hw
      obtain ⟨rfl, hb6⟩ := hw
      have HX : Hid (∀ e w', (e = .returned (.tuple #[.slice none 0 0, .int .i64 340]) ∧ Below W.heap.size W w') → WqP r zs W e w') := by
        rintro e w' ⟨rfl, h⟩
        exact WqP.no (by rw [← HFL.out, rightF_ofN]; exact fun h => hrf h.2) h
      have HB6 := Lib.hid (HB5.out.trans (hb6.mono HB5.out.size))
      clear hrf hb6
      go_wp2_with fail
      go_ret2
      exact HX.out _ _ ⟨rfl, HB6.out⟩
end Eng
end Go.Proofs.YtdfmgneicdpjmaaGreat

/- name.Right. -/
namespace Go.Proofs.YtdfmgneicdpjmaaGreat
open Go.RowKit Go.Shelf
attribute [local go_sem] Oper.semAt_some
set_option linter.unusedVariables false
set_option linter.unusedSimpArgs false
set_option maxRecDepth 100000
namespace Eng
open Resp

/-- A letter behind another: whether it may stand there. -/
def nmOk (c b : Int) : Bool := if 97 ≤ c ∧ c ≤ 122 ∨ 48 ≤ c ∧ c ≤ 57 then true else if c = 45 then !(b == 46) else if c = 46 then !(b == 46) && !(b == 45) else false
/-- How many letters are taken, and what stands before. -/
def nmEnd : List Int → Int → Bool
  | [], b => !(b == 46) && !(b == 45)
  | c :: l, b => nmOk c b && nmEnd l c
def nameR (s : ByteArray) : Bool := decide (1 ≤ s.size ∧ s.size ≤ 32 ∧ (97 : Int) ≤ (bytesL s)[0]?.getD 0 ∧ (bytesL s)[0]?.getD 0 ≤ (122 : Int)) && nmEnd (bytesL s) 46
theorem idx_str (s : ByteArray) (k : Nat) (hk : k < s.size) (w : World) : (Instr.index 9 (.string s) (.int .i64 (k : Int))).run Tryz.prog w = .ok (.int .u8 ((bytesL s)[k]?.getD 0)) w := by
  rw [run_index_string (P := Tryz.prog) w _ _ _ _ rfl, dif_pos ⟨by omega, by omega⟩]
  have h1 : (bytesL s)[k]? = some ((s[k]'hk).toNat : Int) := by
    have hk' : k < s.data.toList.length := hk
    unfold bytesL
    rw [List.getElem?_map, List.getElem?_eq_getElem hk']
    rfl
  rw [h1]
  rfl
theorem bytesL_lt (s : ByteArray) (k : Nat) : 0 ≤ (bytesL s)[k]?.getD 0 ∧ (bytesL s)[k]?.getD 0 ≤ 255 := by
  cases h : (bytesL s)[k]? with
  | none => simp
  | some z => have := octets_bytesL s z (List.mem_of_getElem? h); simp only [Option.getD_some]; omega
theorem below_q_ (W : World) (n : Nat) : Below W.heap.size W (W.drewN n) := ⟨rfl, rfl, rfl, Nat.le_refl _, fun _ _ => rfl⟩
attribute [-go_sem] run_index_string
set_option maxHeartbeats 2000000 in
theorem NameRight_any (s : ByteArray) (W : World) : Calls Tryz.prog 217 #[.string s] W fun e w' => e = .returned (.bool (nameR s)) ∧ Below W.heap.size W w' := by
  have HX := Lib.hid (idx_str s)
  have HBL := Lib.hid (bytesL_len s)
  by_cases h1 : s.size < 1
  · have HR : Hid (nameR s = false) := by unfold Hid nameR; rw [decide_eq_false (by omega)]; rfl
    have h1I : (s.size : Int) < 1 := by omega
    clear h1
    go_enter Tryz.func217, Tryz.ntmps217
    go_wp2_with fail
    go_step3
    go_wp2_with fail
    rw [Exit.noGoto_ret]
    go_returns
    exact ⟨by rw [HR.out]; rfl, Below.refl _ _⟩
  by_cases h2 : 32 < s.size
  · have HR : Hid (nameR s = false) := by unfold Hid nameR; rw [decide_eq_false (by omega)]; rfl
    have h1I : ¬ (s.size : Int) < 1 := by omega
    have h2I : (32 : Int) < s.size := by omega
    clear h1 h2
    go_enter Tryz.func217, Tryz.ntmps217
    go_wp2_with fail
    go_step3
    go_wp2_with fail
    rw [Exit.noGoto_ret]
    go_returns
    exact ⟨by rw [HR.out]; rfl, Below.refl _ _⟩
  have h1I : ¬ (s.size : Int) < 1 := by omega
  have h2I : ¬ (32 : Int) < s.size := by omega
  obtain ⟨c0, hc0⟩ : ∃ c0, (bytesL s)[0]?.getD 0 = c0 := ⟨_, rfl⟩
  have hx0 : ∀ w, (Instr.index 9 (.string s) (.int .i64 0)).run Tryz.prog w = .ok (.int .u8 c0) w := fun w => by
    have := HX.out 0 (by omega) w
    rw [hc0] at this
    exact this
  by_cases h3 : c0 < 97
  · have HR : Hid (nameR s = false) := by unfold Hid nameR; rw [hc0, decide_eq_false (by omega)]; rfl
    clear h1 h2
    go_enter Tryz.func217, Tryz.ntmps217
    go_wp2_with fail
    go_step3
    go_wp2_with fail
    rw [Exit.noGoto_ret]
    go_returns
    exact ⟨by rw [HR.out]; rfl, Below.refl _ _⟩
  by_cases h4 : 122 < c0
  · have HR : Hid (nameR s = false) := by unfold Hid nameR; rw [hc0, decide_eq_false (by omega)]; rfl
    clear h1 h2
    go_enter Tryz.func217, Tryz.ntmps217
    go_wp2_with fail
    go_step3
    go_wp2_with fail
    rw [Exit.noGoto_ret]
    go_returns
    exact ⟨by rw [HR.out]; rfl, Below.refl _ _⟩
  have HR : Hid (nameR s = nmEnd (bytesL s) 46) := by unfold Hid nameR; rw [hc0, decide_eq_true (by omega)]; rfl
  have hszN : s.size ≤ 32 := by omega
  clear h1 h2
  go_enter Tryz.func217, Tryz.ntmps217
  go_wp2_with fail
  go_step3
  go_wp2_with fail
  have hnI : (s.size : Int) ≤ 32 := by omega
  clear hx0 hc0 h3 h4 h1I h2I hszN
  go_step3
  go_wp2_with fail
  go_loopw [3, 4, 27] (fun r b i wr => ∃ (k : Nat) (z : Int), k ≤ s.size ∧ r = .bool true ∧ b = .int .u8 z ∧ i = .int .i64 k ∧ wr = W ∧ Hid (nmEnd ((bytesL s).drop k) z = nmEnd (bytesL s) 46)) (fun _ _ i _ => s.size - (intOf i).toNat)
  case atStart => exact ⟨0, 46, Nat.zero_le _, rfl, rfl, rfl, rfl, by simp [Hid]⟩
  case round =>
    obtain ⟨k, z, hk, rfl, rfl, rfl, rfl, HD⟩ := hrel
    by_cases hlt : k < s.size
    · have hltI : (k : Int) < s.size := by omega
      have hx := fun w => HX.out k (by omega) w
      have hkl : k < (bytesL s).length := by have h1 := HBL.out; omega
      have hdr : (bytesL s).drop k = (bytesL s)[k] :: (bytesL s).drop (k + 1) := List.drop_eq_getElem_cons hkl
      rw [List.getElem?_eq_getElem hkl, Option.getD_some] at hx
      generalize (bytesL s)[k] = c at *
      have HD2 : Hid ((nmOk c z && nmEnd ((bytesL s).drop (k + 1)) c) = nmEnd (bytesL s) 46) := by
        have := HD.out
        rw [hdr] at this
        exact this
      clear hdr hkl HD
      have HGo : Hid (nmOk c z = true → nmEnd ((bytesL s).drop (k + 1)) c = nmEnd (bytesL s) 46) := fun h => by have := HD2.out; rw [h, Bool.true_and] at this; exact this
      have HNo : Hid (nmOk c z = false → nameR s = false) := fun h => by rw [HR.out, ← HD2.out, h]; rfl
      clear HD2
      by_cases hc1 : 97 ≤ c ∧ c ≤ 122
      · obtain ⟨a1, a2⟩ := hc1
        have HG := Lib.hid (HGo.out (by unfold nmOk; rw [if_pos (.inl ⟨a1, a2⟩)]))
        clear HGo HNo
        go_wp2_with fail
        exact ⟨⟨k + 1, _, by omega, by simp, rfl, by simp, by simp, HG.out⟩, by simp [intOf]; omega⟩
      · by_cases hc2 : 48 ≤ c ∧ c ≤ 57
        · obtain ⟨a1, a2⟩ := hc2
          have HG := Lib.hid (HGo.out (by unfold nmOk; rw [if_pos (.inr ⟨a1, a2⟩)]))
          have a3 : ¬ 97 ≤ c := by omega
          clear HGo HNo hc1
          go_wp2_with fail
          exact ⟨⟨k + 1, _, by omega, by simp, rfl, by simp, by simp, HG.out⟩, by simp [intOf]; omega⟩
        · have hno : ¬ ((97 ≤ c ∧ c ≤ 122) ∨ (48 ≤ c ∧ c ≤ 57)) := by omega
          have hd1 : (decide (97 ≤ c) && decide (c ≤ 122)) = false := by
            rcases Decidable.not_and_iff_or_not.1 hc1 with h | h
            · rw [decide_eq_false h]; rfl
            · rw [decide_eq_false h, Bool.and_false]
          by_cases e45 : c = 45
          · subst e45
            by_cases hz : z = 46
            · subst hz
              have HF := Lib.hid (HNo.out (by decide))
              clear HGo HNo hc1 hc2 hno hd1
              go_wp2_with fail
              all_goals (try rw [Exit.noGoto_ret])
              all_goals go_returns
              all_goals exact ⟨by rw [HF.out]; rfl, Below.refl _ _⟩
            · have HG := Lib.hid (HGo.out (by unfold nmOk; rw [if_neg hno, if_pos rfl]; simpa using hz))
              have hzn : (z != 46) = true := by simpa using hz
              clear HGo HNo hc1 hc2 hno hd1 hz
              go_wp2_with fail
              exact ⟨⟨k + 1, _, by omega, by simp, rfl, by simp, by simp, HG.out⟩, by simp [intOf]; omega⟩
          · have e45' : (c == 45) = false := by simpa using e45
            by_cases e46 : c = 46
            · subst e46
              by_cases hz : z = 46
              · subst hz
                have HF := Lib.hid (HNo.out (by decide))
                clear HGo HNo hc1 hc2 hno hd1
                go_wp2_with fail
                all_goals (try rw [Exit.noGoto_ret])
                all_goals go_returns
                all_goals exact ⟨by rw [HF.out]; rfl, Below.refl _ _⟩
              · by_cases hz5 : z = 45
                · subst hz5
                  have HF := Lib.hid (HNo.out (by decide))
                  clear HGo HNo hc1 hc2 hno hd1 hz
                  go_wp2_with fail
                  all_goals (try rw [Exit.noGoto_ret])
                  all_goals go_returns
                  all_goals exact ⟨by rw [HF.out]; rfl, Below.refl _ _⟩
                · have HG := Lib.hid (HGo.out (by unfold nmOk; rw [if_neg hno, if_neg e45, if_pos rfl]; simp [hz, hz5]))
                  have hzn : (z != 46) = true := by simpa using hz
                  have hz5n : (z != 45) = true := by simpa using hz5
                  clear HGo HNo hc1 hc2 hno hd1 hz hz5
                  go_wp2_with fail
                  exact ⟨⟨k + 1, _, by omega, by simp, rfl, by simp, by simp, HG.out⟩, by simp [intOf]; omega⟩
            · have e46' : (c == 46) = false := by simpa using e46
              have HF := Lib.hid (HNo.out (by unfold nmOk; rw [if_neg hno, if_neg e45, if_neg e46]))
              by_cases b1 : 97 ≤ c
              · have b2 : ¬ c ≤ 122 := fun h => hc1 ⟨b1, h⟩
                have b3 : ¬ c ≤ 57 := by omega
                have b4 : 48 ≤ c := by omega
                clear HGo HNo hc1 hc2 hno hd1 e45 e46
                go_wp2_with fail
                all_goals (try rw [Exit.noGoto_ret])
                all_goals go_returns
                all_goals exact ⟨by rw [HF.out]; rfl, Below.refl _ _⟩
              · by_cases b3 : 48 ≤ c
                · have b4 : ¬ c ≤ 57 := fun h => hc2 ⟨b3, h⟩
                  clear HGo HNo hc1 hc2 hno hd1 e45 e46
                  go_wp2_with fail
                  all_goals (try rw [Exit.noGoto_ret])
                  all_goals go_returns
                  all_goals exact ⟨by rw [HF.out]; rfl, Below.refl _ _⟩
                · clear HGo HNo hc1 hc2 hno hd1 e45 e46
                  go_wp2_with fail
                  all_goals (try rw [Exit.noGoto_ret])
                  all_goals go_returns
                  all_goals exact ⟨by rw [HF.out]; rfl, Below.refl _ _⟩
    · obtain rfl : k = s.size := by omega
      have HF : Hid (nameR s = (!(z == 46) && !(z == 45))) := by
        have := HD.out
        rw [List.drop_of_length_le (by have h1 := HBL.out; omega)] at this
        rw [Hid, HR.out, ← this]
        rfl
      go_wp2_with fail
      all_goals (try rw [Exit.noGoto_ret])
      all_goals go_returns
      all_goals exact ⟨by rw [HF.out]; first | rfl | (simp [*]; done), Below.refl _ _⟩
end Eng
end Go.Proofs.YtdfmgneicdpjmaaGreat

/- check: what is known; divides, Limits.right, Limits.fits. -/
namespace Go.Proofs.YtdfmgneicdpjmaaGreat
open Go.RowKit Go.Shelf
attribute [local go_sem] Oper.semAt_some
set_option linter.unusedVariables false
set_option linter.unusedSimpArgs false
set_option maxRecDepth 100000
namespace Eng
open Resp

theorem fold_lt8 : ∀ (ls : List UInt8) (s : (Int × Int × Int) × Nat × Int), (ls.foldl oneStep s).1 = (0, 0, 0) → s.1.1 < 8 ∧ s.1.2.1 < 8 ∧ s.1.2.2 < 8
  | [], s, h => by
    have h' : s.1 = (0, 0, 0) := h
    rw [h']
    exact ⟨by decide, by decide, by decide⟩
  | l :: ls, s, h => by
    have ih := fold_lt8 ls (oneStep s l) h
    unfold oneStep at ih
    split at ih
    · split at ih
      · rename_i h8
        obtain ⟨⟨x, y, z⟩, u, n⟩ := s
        match u with
        | 0 => simp only [regAt, regZ] at ih h8 ⊢; exact ⟨h8, ih.2.1, ih.2.2⟩
        | 1 => simp only [regAt, regZ] at ih h8 ⊢; exact ⟨ih.1, h8, ih.2.2⟩
        | u + 2 => simp only [regAt, regZ] at ih h8 ⊢; exact ⟨ih.1, ih.2.1, h8⟩
      · exact ih
    · split at ih
      · exact ih
      · exact ih
theorem lt8 {i : Ins} (h : oneE i = 0) : i.a < 8 ∧ i.b < 8 ∧ i.c < 8 := by
  unfold oneE at h
  split at h
  · split at h
    · rename_i h2
      have := fold_lt8 _ _ h2.1
      exact this
    · simp at h
  · simp at h
/-- Known; what is known of registers; a fact. -/
abbrev Kn := Bool × Int
def kn0 : Kn := (false, 0)
def knV (k : Kn) : Value := .agg #[.bool k.1, .int .i64 k.2]
def rgL (k : Nat → Kn) : List Value := [.bool (k 0).1, .int .i64 (k 0).2, .bool (k 1).1, .int .i64 (k 1).2, .bool (k 2).1, .int .i64 (k 2).2, .bool (k 3).1, .int .i64 (k 3).2, .bool (k 4).1, .int .i64 (k 4).2, .bool (k 5).1, .int .i64 (k 5).2, .bool (k 6).1, .int .i64 (k 6).2, .bool (k 7).1, .int .i64 (k 7).2]
def rgV (k : Nat → Kn) : Value := .agg (rgL k).toArray
structure Fc where
  is : Bool
  k : Nat → Kn
def fcL (f : Fc) : List Value := .bool f.is :: rgL f.k
def fcV (f : Fc) : Value := .agg (fcL f).toArray
theorem idx_rg (k : Nat → Kn) (a : Nat) (h : a < 8) (w : World) : (Instr.index 539 (rgV k) (.int .u8 (a : Int))).run Tryz.prog w = .ok (knV (k a)) w := by
  have ha : a = 0 ∨ a = 1 ∨ a = 2 ∨ a = 3 ∨ a = 4 ∨ a = 5 ∨ a = 6 ∨ a = 7 := by omega
  rcases ha with rfl | rfl | rfl | rfl | rfl | rfl | rfl | rfl <;> (with_unfolding_all exact rfl)
def dvB (i : Ins) : Bool := decide (i.op = 36) || (decide (i.op = 37) || decide (i.op = 38))
theorem divides_any (i : Ins) (W : World) : Calls Tryz.prog 415 #[insV i] W fun e w' => e = .returned (.bool (dvB i)) ∧ Below W.heap.size W w' := by
  have HB := Lib.hid ((Below.refl _ W).alloc (Nat.le_refl W.heap.size) (.cells #[.int .u8 i.op, .int .u8 i.a, .int .u8 i.b, .int .u8 i.c, .int .i64 i.n] 169))
  have hc : i.op = 36 ∨ i.op = 37 ∨ i.op = 38 ∨ (¬ i.op = 36 ∧ ¬ i.op = 37 ∧ ¬ i.op = 38) := by omega
  have HD : Hid (dvB i = (i.op == 36 || (i.op == 37 || i.op == 38))) := rfl
  rw [HD.out]
  unfold insV
  generalize i.op = op at *
  rcases hc with rfl | rfl | rfl | ⟨h1, h2, h3⟩
  · go_enter Tryz.func415, Tryz.ntmps415
    go_wp2_with fail
    go_ret
    exact ⟨rfl, HB.out⟩
  · go_enter Tryz.func415, Tryz.ntmps415
    go_wp2_with fail
    go_ret
    exact ⟨rfl, HB.out⟩
  · go_enter Tryz.func415, Tryz.ntmps415
    go_wp2_with fail
    go_ret
    exact ⟨rfl, HB.out⟩
  · have h1' : (op == 36) = false := by simpa using h1
    have h2' : (op == 37) = false := by simpa using h2
    have h3' : (op == 38) = false := by simpa using h3
    rw [h1', h2', h3']
    clear h1 h2 h3
    go_enter Tryz.func415, Tryz.ntmps415
    go_wp2_with fail
    go_ret
    exact ⟨rfl, HB.out⟩
theorem eq_kn (k : Kn) (w : World) : (binOp .eql 538 (.agg #[.bool k.1, .int .i64 k.2]) (.agg #[.bool true, .int .i64 0])).run Tryz.prog w = .ok (.bool (decide (k = (true, 0)))) w := by
  obtain ⟨a, b⟩ := k
  cases a with
  | false =>
    rw [decide_eq_false (by simp)]
    with_unfolding_all exact rfl
  | true =>
    by_cases hb : b = 0
    · subst hb
      with_unfolding_all exact rfl
    · rw [decide_eq_false (by simp [hb])]
      have hb' : (b == 0) = false := by simpa using hb
      rw [run_eql_struct]
      simp [go_sem, hb']
end Eng
end Go.Proofs.YtdfmgneicdpjmaaGreat
