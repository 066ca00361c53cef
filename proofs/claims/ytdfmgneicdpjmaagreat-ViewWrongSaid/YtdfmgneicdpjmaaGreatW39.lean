import Derived.Test.YtdfmgneicdpjmaaGreatW38
namespace Go.Proofs.YtdfmgneicdpjmaaGreat
open Go.RowKit Go.Shelf
attribute [local go_sem] Oper.semAt_some
set_option linter.unusedVariables false
set_option linter.unusedSimpArgs false
set_option maxRecDepth 100000
namespace Eng
open Resp App
attribute [-go_sem] Instr.loadAt
theorem ld_opn3 (t : TypeId) (p : Value) (h : ¬ t = 84) (h2 : ¬ t = 165) : Instr.loadAt t p = (do loadVar t (← Instr.sureAddr p)) := rfl
attribute [local go_sem] ld_opn3
theorem flat_bd (B : Nat) (hB : B ≤ 1000000) : ∀ l : List (Int × List Int), (∀ x ∈ l, x.2.length ≤ B) → (flat (ofN l)).length ≤ l.length * (B + 10)
 | [], _ => by simp [flat, ofN]
 | x :: l, h => by
   have h1 := flat_bd B hB l (fun y hy => h y (List.mem_cons_of_mem _ hy))
   have h2 := h x List.mem_cons_self
   have h6 := numBytes_le (x := x.2.length) (by omega)
   simp only [flat, ofN, List.map_cons, List.flatMap_cons, fieldBytes, List.length_append, List.length_cons] at h1 ⊢
   rw [Nat.add_mul]
   omega
theorem len_small {r : Rq} {t : Int} (hr : RqOk r) (hn : r.name.size ≤ 9) {zs : List Int} (ht : ¬ t = 11 ∨ zs.length ≤ 9) : (fval r zs t).length ≤ 9 := by
 have h1 := hr.what1
 have h0 := hr.what0
 have hf := foldV_bd hr.value0 hr.value1
 have hN : ∀ x : Nat, x < 18446744073709551616 → (numBytes x).length ≤ 9 := fun x hx => numBytes_le hx
 unfold fval
 split
 · exact hN _ (by omega)
 split
 · rw [bytesL_len]; omega
 split
 · exact hN _ (by omega)
 split
 · rcases ht with ht | ht
   · exact absurd (by assumption) ht
   · exact ht
 · exact hN _ (by omega)
theorem formQ_small {r : Rq} {bs : List Int} (hr : RqOk r) (hn : r.name.size ≤ 9) (h : formQ r [] = some bs) : bs.length ≤ 16384 := by
 unfold formQ at h
 split at h
 · obtain rfl := Option.some.inj h
   have h1 : (nsR r []).length ≤ 4 := by
     unfold nsR
     rw [List.length_map]
     cases hts : tgL r.kind r.what with
     | none => simp
     | some ts => exact (tgL_ok hts).2
   have h2 := flat_bd 9 (by omega) (nsR r []) (fun x hx => by
     unfold nsR at hx
     obtain ⟨t, -, rfl⟩ := List.mem_map.1 hx
     exact len_small hr hn (.inr (by simp)))
   have h3 : (nsR r []).length * (9 + 10) ≤ 4 * 19 := Nat.mul_le_mul_right _ h1
   simp only [List.length_cons]
   omega
 · cases h
theorem formQ_create {zs bs : List Int} (hz : zs.length ≤ 12288) (h : formQ ⟨1, 0, ⟨#[]⟩, 0, 0, 0, 0, 0, 0, 0, 0⟩ zs = some bs) : bs.length ≤ 16384 := by
 unfold formQ at h
 split at h
 · obtain rfl := Option.some.inj h
   have h1 : nsR ⟨1, 0, ⟨#[]⟩, 0, 0, 0, 0, 0, 0, 0, 0⟩ zs = [(11, zs)] := rfl
   rw [h1]
   have h2 := flat_bd 12288 (by omega) [((11 : Int), zs)] (fun x hx => by
     obtain rfl := List.mem_singleton.1 hx
     exact hz)
   simp only [List.length_cons, List.length_nil] at h2 ⊢
   omega
 · cases h
def SomeB (W : World) (e : Ending) (w' : World) : Prop := ∃ v zs, e = .returned v ∧ w'.ownsRow W.heap.size 5 1 v zs.length (u8s zs) ∧ zs.length ≤ 16384 ∧ Below W.heap.size W w'
theorem WqP.some {r : Rq} {zs : List Int} {W : World} {e : Ending} {w' : World} (h : WqP r zs W e w') (hl : ∀ bs, formQ r zs = some bs → bs.length ≤ 16384) :
   ∃ v n err, e = .returned (.tuple #[v, .int .i64 err]) ∧ w'.ownsRow W.heap.size 5 1 v n.length (u8s n) ∧ n.length ≤ 16384 ∧ Below W.heap.size W w' := by
 unfold WqP at h
 cases hf : formQ r zs with
 | none =>
   rw [hf] at h
   exact ⟨_, [], 340, h.1, owns_nil _ _ _ _, by simp, h.2⟩
 | some bs =>
   rw [hf] at h
   obtain ⟨v, h1, h2, h3⟩ := h
   exact ⟨v, bs, 0, h1, h2, hl bs hf, h3⟩
theorem rqNum_of {r : Rq} (h3 : -9223372036854775808 ≤ r.process ∧ r.process < 9223372036854775808) (h4 : -9223372036854775808 ≤ r.handle ∧ r.handle < 9223372036854775808) (h5 : -9223372036854775808 ≤ r.holder ∧ r.holder < 9223372036854775808) (h6 : -9223372036854775808 ≤ r.rights ∧ r.rights < 9223372036854775808) (h7 : -9223372036854775808 ≤ r.time ∧ r.time < 9223372036854775808) (h8 : -9223372036854775808 ≤ r.source ∧ r.source < 9223372036854775808) (h9 : -9223372036854775808 ≤ r.seq ∧ r.seq < 9223372036854775808) : RqNum r := by
 refine ⟨fun t => ?_, fun t => ?_⟩ <;> (unfold getN; repeat' split) <;> omega
def prog1 : List Ins := [⟨10, 0, 0, 0, 5⟩, ⟨3, 3, 0, 0, 1⟩, ⟨34, 4, 0, 3, 0⟩, ⟨3, 5, 0, 0, 1⟩, ⟨8, 5, 4, 0, 0⟩, ⟨1, 0, 0, 0, 0⟩]
def prc1 : Prc := ⟨⟨#[97]⟩, 1, prog1⟩
def fdn1 (b : Int) : Fdn := ⟨b, 1, 5, 1, 2, 20, 2⟩
theorem prog1_ok : PrgOk prog1 := by
 intro i hi
 simp only [prog1, List.mem_cons, List.not_mem_nil, or_false] at hi
 rcases hi with rfl | rfl | rfl | rfl | rfl | rfl <;> exact ⟨by decide, by decide, by decide, by decide, by decide, by decide, by decide, by decide⟩
theorem prc1_ok : PrcOk prc1 := ⟨prog1_ok, by decide, by decide, by decide, by decide⟩
theorem fdn1_ok {b : Int} (h0 : 0 ≤ b) (h1 : b < 256) : FdnOk (fdn1 b) := ⟨⟨h0, by show b < _; omega⟩, (by show (-9223372036854775808 : Int) ≤ 1 ∧ (1 : Int) < 9223372036854775808; decide), (by show (-9223372036854775808 : Int) ≤ 5 ∧ (5 : Int) < 9223372036854775808; decide), (by show (-9223372036854775808 : Int) ≤ 1 ∧ (1 : Int) < 9223372036854775808; decide), (by show (-9223372036854775808 : Int) ≤ 2 ∧ (2 : Int) < 9223372036854775808; decide), (by show (-9223372036854775808 : Int) ≤ 20 ∧ (20 : Int) < 9223372036854775808; decide), (by show (-9223372036854775808 : Int) ≤ 2 ∧ (2 : Int) < 9223372036854775808; decide)⟩
theorem prog1_oct : Octets (prgB prog1) := by
 intro z hz
 have h : (prgB prog1).all (fun z => decide (0 ≤ z ∧ z ≤ 255)) = true := by decide +kernel
 exact of_decide_eq_true (List.all_eq_true.1 h z hz)
theorem octets_flat {l : List (Int × List Int)} (h : ∀ x ∈ l, (0 ≤ x.1 ∧ x.1 ≤ 255) ∧ Octets x.2 ∧ x.2.length ≤ 1000000) : Octets (flat (ofN l)) := by
 intro z hz
 unfold flat ofN at hz
 rw [List.flatMap_map] at hz
 obtain ⟨x, hx, hzx⟩ := List.mem_flatMap.1 hz
 obtain ⟨h1, h2, h3⟩ := h x hx
 simp only [fieldBytes, List.mem_cons, List.mem_append] at hzx
 rcases hzx with rfl | hzx | hzx
 · exact h1
 · exact octets_num (by omega) z hzx
 · exact h2 z hzx
theorem form1_oct {b : Int} (h0 : 0 ≤ b) (h1 : b < 256) : Octets (formW (fdn1 b) [prc1]) := by
 refine octets_flat (fun x hx => ?_)
 have hn : ∀ n : Int, (u64N n).toNat < 18446744073709551616 := fun n => by unfold u64N; omega
 unfold fedF at hx
 rcases List.mem_cons.1 hx with rfl | hx
 · have hb : (fdn1 b).seed.toNat < 18446744073709551616 := by show b.toNat < _; omega
   exact ⟨⟨(by show (0 : Int) ≤ 1; decide), (by show (1 : Int) ≤ 255; decide)⟩, octets_num hb, by have := numBytes_le hb; show (numBytes (fdn1 b).seed.toNat).length ≤ _; omega⟩
 rcases List.mem_append.1 hx with hx | hx
 · obtain ⟨k, hk, rfl⟩ := List.mem_map.1 hx
   have hk6 := List.mem_range.1 hk
   exact ⟨⟨by show (0 : Int) ≤ (k : Int) + 2; omega, by show (k : Int) + 2 ≤ 255; omega⟩, octets_num (hn _), by have := numBytes_le (hn (fdnN (fdn1 b) k)); show (numBytes _).length ≤ _; omega⟩
 · simp only [flatP, prcF, List.append_nil, List.mem_cons, List.not_mem_nil, or_false] at hx
   rcases hx with rfl | rfl | rfl
   · exact ⟨by decide, octets_bytesL _, by rw [bytesL_len]; decide⟩
   · exact ⟨by decide, octets_num (hn prc1.cells), by have := numBytes_le (hn prc1.cells); show (numBytes (u64N prc1.cells).toNat).length ≤ _; omega⟩
   · refine ⟨by decide, ?_, ?_⟩
     · show Octets (if cpE prog1 = 0 then prgB prog1 else [])
       split
       · exact prog1_oct
       · intro z hz; cases hz
     · show (if cpE prog1 = 0 then prgB prog1 else []).length ≤ 1000000
       split
       · have : (prgB prog1).length ≤ 1000000 := by decide +kernel
         exact this
       · simp
def req7 (b : Int) : Nat → Rq
 | 0 => ⟨2, 0, ⟨#[112]⟩, 1, 0, 0, 0, 0, 0, 0, 0⟩
 | 1 => ⟨3, 0, ⟨#[]⟩, 0, 1, 1, 1, 0, 0, 0, 0⟩
 | 2 => ⟨5, 0, ⟨#[]⟩, 0, 1, 0, 0, 1 + b / 16, 0, 0, b / 32⟩
 | 3 => ⟨6, 0, ⟨#[]⟩, 0, 0, 0, 0, 5 + b / 8, 0, 0, 0⟩
 | 4 => ⟨7, 1, ⟨#[]⟩, 0, 0, 0, 0, 0, 0, 0, 0⟩
 | 5 => ⟨6, 0, ⟨#[]⟩, 0, 0, 0, 0, 100, 0, 0, 0⟩
 | _ => ⟨9, 0, ⟨#[]⟩, 0, 0, 0, 0, 0, 0, 0, 0⟩
def cells7 (b : Int) : List Value := (rqC (req7 b 0) (.slice none 0 0)).toList ++ (rqC (req7 b 1) (.slice none 0 0)).toList ++ (rqC (req7 b 2) (.slice none 0 0)).toList ++ (rqC (req7 b 3) (.slice none 0 0)).toList ++ (rqC (req7 b 4) (.slice none 0 0)).toList ++ (rqC (req7 b 5) (.slice none 0 0)).toList ++ (rqC (req7 b 6) (.slice none 0 0)).toList
theorem infoRq : (Tryz.prog.info? 165).map (·.size) = some 12 := by kernel_rfl
theorem ld_req7 {W : World} {B : Nat} {b : Int} (h : W.heap[B]? = some (.cells (cells7 b).toArray 165)) (k : Nat) (hk : k < 7) : (Instr.loadAt 165 (.pointer (some ⟨B, k * 12, none⟩))).run Tryz.prog W = .ok (.agg (rqC (req7 b k) (.slice none 0 0))) W := by
 refine ld_at W B (k * 12) _ (rqC (req7 b k) (.slice none 0 0)).toList _ Tryz.underlying165 rfl infoRq (fun j v hv => ?_)
 have hj : j < 12 := by
   have := (List.getElem?_eq_some_iff.1 hv).1
   exact this
 have e : (cells7 b)[k * 12 + j]? = (rqC (req7 b k) (.slice none 0 0)).toList[j]? := by
   have hk' : k = 0 ∨ k = 1 ∨ k = 2 ∨ k = 3 ∨ k = 4 ∨ k = 5 ∨ k = 6 := by omega
   have hj' : j = 0 ∨ j = 1 ∨ j = 2 ∨ j = 3 ∨ j = 4 ∨ j = 5 ∨ j = 6 ∨ j = 7 ∨ j = 8 ∨ j = 9 ∨ j = 10 ∨ j = 11 := by omega
   rcases hk' with rfl | rfl | rfl | rfl | rfl | rfl | rfl <;> (rcases hj' with rfl | rfl | rfl | rfl | rfl | rfl | rfl | rfl | rfl | rfl | rfl | rfl <;> rfl)
 simp only [World.cell?, h]
 simp [e, hv]
theorem req7_ok {b : Int} (hb0 : 0 ≤ b) (hb1 : b < 256) (k : Nat) : RqOk (req7 b k) ∧ RqNum (req7 b k) ∧ (req7 b k).name.size ≤ 9 := by
 have h1 : 0 ≤ b / 16 ∧ b / 16 < 256 := by omega
 have h2 : 0 ≤ b / 32 ∧ b / 32 < 256 := by omega
 have h3 : 0 ≤ b / 8 ∧ b / 8 < 256 := by omega
 have hs : (⟨#[]⟩ : ByteArray).size = 0 := rfl
 have hs1 : (⟨#[112]⟩ : ByteArray).size = 1 := rfl
 unfold req7
 split <;> (refine ⟨⟨?_, ?_, ?_, ?_⟩, rqNum_of ?_ ?_ ?_ ?_ ?_ ?_ ?_, ?_⟩ <;> simp only [hs, hs1] <;> omega)
set_option maxHeartbeats 8000000 in
theorem Request_0 (b : Int) (hb0 : 0 ≤ b) (hb1 : b < 256) (h7 : b % 8 = 0) (W : World) : Calls Tryz.prog 58 #[.int .u8 b] W (SomeB W) := by
 have HOK := Lib.hid (req7_ok hb0 hb1 0)
 go_enter Tryz.func58, Tryz.ntmps58
 go_upto_region 4 with fail
 have HB : Hid (Below W.heap.size W (W.alloc (.cells (cells7 b).toArray 165))) := (Below.refl _ _).alloc (Nat.le_refl _) _
 have HL := Lib.hid (World.alloc_heap_new W (.cells (cells7 b).toArray 165))
 simp only [cells7, rqC, req7, List.cons_append, List.nil_append] at HB HL
 generalize W.alloc (.cells _ 165) = W1 at *
 have hld := ld_req7 (W := W1) (B := W.heap.size) (b := b) HL.out 0 (by decide)
 simp only [Nat.reduceMul] at hld
 clear HL hb0 hb1 h7
 go_wp2_with fail
 have HZ : Hid (TB W1 (.slice none 0 0) []) := ⟨.inl ⟨none, 0, rfl, rfl⟩, fun g hg => by cases hg⟩
 refine (show Calls _ _ #[.agg (rqC (req7 b 0) (.slice none 0 0))] W1 _ from Write_req (req7 b 0) (.slice none 0 0) [] W1 HZ.out (fun z hz => by cases hz) HOK.out.1 HOK.out.2.1 (by simp)).mono ?_
 rintro e w2 hw
 obtain ⟨v, zs, err, rfl, ho, hl, hb2⟩ := hw.some (fun bs h => formQ_small HOK.out.1 HOK.out.2.2 h)
 obtain ⟨va, vc, rfl⟩ := ownsRow_form ho
 have HO := Lib.hid (ho.mono HB.out.size)
 have HB2 : Hid (Below W.heap.size W w2) := HB.out.trans (hb2.mono HB.out.size)
 have HLN := Lib.hid hl
 clear hw ho hb2 hld hl
 go_wp2_with fail
 go_ret
 exact ⟨_, zs, rfl, HO.out, HLN.out, HB2.out⟩
set_option maxHeartbeats 8000000 in
theorem Request_1 (b : Int) (hb0 : 0 ≤ b) (hb1 : b < 256) (h7 : b % 8 = 1) (W : World) : Calls Tryz.prog 58 #[.int .u8 b] W (SomeB W) := by
 have HOK := Lib.hid (req7_ok hb0 hb1 1)
 go_enter Tryz.func58, Tryz.ntmps58
 go_upto_region 4 with fail
 have HB : Hid (Below W.heap.size W (W.alloc (.cells (cells7 b).toArray 165))) := (Below.refl _ _).alloc (Nat.le_refl _) _
 have HL := Lib.hid (World.alloc_heap_new W (.cells (cells7 b).toArray 165))
 simp only [cells7, rqC, req7, List.cons_append, List.nil_append] at HB HL
 generalize W.alloc (.cells _ 165) = W1 at *
 have hld := ld_req7 (W := W1) (B := W.heap.size) (b := b) HL.out 1 (by decide)
 simp only [Nat.reduceMul] at hld
 clear HL hb0 hb1 h7
 go_wp2_with fail
 have HZ : Hid (TB W1 (.slice none 0 0) []) := ⟨.inl ⟨none, 0, rfl, rfl⟩, fun g hg => by cases hg⟩
 refine (show Calls _ _ #[.agg (rqC (req7 b 1) (.slice none 0 0))] W1 _ from Write_req (req7 b 1) (.slice none 0 0) [] W1 HZ.out (fun z hz => by cases hz) HOK.out.1 HOK.out.2.1 (by simp)).mono ?_
 rintro e w2 hw
 obtain ⟨v, zs, err, rfl, ho, hl, hb2⟩ := hw.some (fun bs h => formQ_small HOK.out.1 HOK.out.2.2 h)
 obtain ⟨va, vc, rfl⟩ := ownsRow_form ho
 have HO := Lib.hid (ho.mono HB.out.size)
 have HB2 : Hid (Below W.heap.size W w2) := HB.out.trans (hb2.mono HB.out.size)
 have HLN := Lib.hid hl
 clear hw ho hb2 hld hl
 go_wp2_with fail
 go_ret
 exact ⟨_, zs, rfl, HO.out, HLN.out, HB2.out⟩
set_option maxHeartbeats 8000000 in
theorem Request_2 (b : Int) (hb0 : 0 ≤ b) (hb1 : b < 256) (h7 : b % 8 = 2) (W : World) : Calls Tryz.prog 58 #[.int .u8 b] W (SomeB W) := by
 have HOK := Lib.hid (req7_ok hb0 hb1 2)
 go_enter Tryz.func58, Tryz.ntmps58
 go_upto_region 4 with fail
 have HB : Hid (Below W.heap.size W (W.alloc (.cells (cells7 b).toArray 165))) := (Below.refl _ _).alloc (Nat.le_refl _) _
 have HL := Lib.hid (World.alloc_heap_new W (.cells (cells7 b).toArray 165))
 simp only [cells7, rqC, req7, List.cons_append, List.nil_append] at HB HL
 generalize W.alloc (.cells _ 165) = W1 at *
 have hld := ld_req7 (W := W1) (B := W.heap.size) (b := b) HL.out 2 (by decide)
 simp only [Nat.reduceMul] at hld
 clear HL hb0 hb1 h7
 go_wp2_with fail
 have HZ : Hid (TB W1 (.slice none 0 0) []) := ⟨.inl ⟨none, 0, rfl, rfl⟩, fun g hg => by cases hg⟩
 refine (show Calls _ _ #[.agg (rqC (req7 b 2) (.slice none 0 0))] W1 _ from Write_req (req7 b 2) (.slice none 0 0) [] W1 HZ.out (fun z hz => by cases hz) HOK.out.1 HOK.out.2.1 (by simp)).mono ?_
 rintro e w2 hw
 obtain ⟨v, zs, err, rfl, ho, hl, hb2⟩ := hw.some (fun bs h => formQ_small HOK.out.1 HOK.out.2.2 h)
 obtain ⟨va, vc, rfl⟩ := ownsRow_form ho
 have HO := Lib.hid (ho.mono HB.out.size)
 have HB2 : Hid (Below W.heap.size W w2) := HB.out.trans (hb2.mono HB.out.size)
 have HLN := Lib.hid hl
 clear hw ho hb2 hld hl
 go_wp2_with fail
 go_ret
 exact ⟨_, zs, rfl, HO.out, HLN.out, HB2.out⟩
set_option maxHeartbeats 8000000 in
theorem Request_3 (b : Int) (hb0 : 0 ≤ b) (hb1 : b < 256) (h7 : b % 8 = 3) (W : World) : Calls Tryz.prog 58 #[.int .u8 b] W (SomeB W) := by
 have HOK := Lib.hid (req7_ok hb0 hb1 3)
 go_enter Tryz.func58, Tryz.ntmps58
 go_upto_region 4 with fail
 have HB : Hid (Below W.heap.size W (W.alloc (.cells (cells7 b).toArray 165))) := (Below.refl _ _).alloc (Nat.le_refl _) _
 have HL := Lib.hid (World.alloc_heap_new W (.cells (cells7 b).toArray 165))
 simp only [cells7, rqC, req7, List.cons_append, List.nil_append] at HB HL
 generalize W.alloc (.cells _ 165) = W1 at *
 have hld := ld_req7 (W := W1) (B := W.heap.size) (b := b) HL.out 3 (by decide)
 simp only [Nat.reduceMul] at hld
 clear HL hb0 hb1 h7
 go_wp2_with fail
 have HZ : Hid (TB W1 (.slice none 0 0) []) := ⟨.inl ⟨none, 0, rfl, rfl⟩, fun g hg => by cases hg⟩
 refine (show Calls _ _ #[.agg (rqC (req7 b 3) (.slice none 0 0))] W1 _ from Write_req (req7 b 3) (.slice none 0 0) [] W1 HZ.out (fun z hz => by cases hz) HOK.out.1 HOK.out.2.1 (by simp)).mono ?_
 rintro e w2 hw
 obtain ⟨v, zs, err, rfl, ho, hl, hb2⟩ := hw.some (fun bs h => formQ_small HOK.out.1 HOK.out.2.2 h)
 obtain ⟨va, vc, rfl⟩ := ownsRow_form ho
 have HO := Lib.hid (ho.mono HB.out.size)
 have HB2 : Hid (Below W.heap.size W w2) := HB.out.trans (hb2.mono HB.out.size)
 have HLN := Lib.hid hl
 clear hw ho hb2 hld hl
 go_wp2_with fail
 go_ret
 exact ⟨_, zs, rfl, HO.out, HLN.out, HB2.out⟩
set_option maxHeartbeats 8000000 in
theorem Request_4 (b : Int) (hb0 : 0 ≤ b) (hb1 : b < 256) (h7 : b % 8 = 4) (W : World) : Calls Tryz.prog 58 #[.int .u8 b] W (SomeB W) := by
 have HOK := Lib.hid (req7_ok hb0 hb1 4)
 go_enter Tryz.func58, Tryz.ntmps58
 go_upto_region 4 with fail
 have HB : Hid (Below W.heap.size W (W.alloc (.cells (cells7 b).toArray 165))) := (Below.refl _ _).alloc (Nat.le_refl _) _
 have HL := Lib.hid (World.alloc_heap_new W (.cells (cells7 b).toArray 165))
 simp only [cells7, rqC, req7, List.cons_append, List.nil_append] at HB HL
 generalize W.alloc (.cells _ 165) = W1 at *
 have hld := ld_req7 (W := W1) (B := W.heap.size) (b := b) HL.out 4 (by decide)
 simp only [Nat.reduceMul] at hld
 clear HL hb0 hb1 h7
 go_wp2_with fail
 have HZ : Hid (TB W1 (.slice none 0 0) []) := ⟨.inl ⟨none, 0, rfl, rfl⟩, fun g hg => by cases hg⟩
 refine (show Calls _ _ #[.agg (rqC (req7 b 4) (.slice none 0 0))] W1 _ from Write_req (req7 b 4) (.slice none 0 0) [] W1 HZ.out (fun z hz => by cases hz) HOK.out.1 HOK.out.2.1 (by simp)).mono ?_
 rintro e w2 hw
 obtain ⟨v, zs, err, rfl, ho, hl, hb2⟩ := hw.some (fun bs h => formQ_small HOK.out.1 HOK.out.2.2 h)
 obtain ⟨va, vc, rfl⟩ := ownsRow_form ho
 have HO := Lib.hid (ho.mono HB.out.size)
 have HB2 : Hid (Below W.heap.size W w2) := HB.out.trans (hb2.mono HB.out.size)
 have HLN := Lib.hid hl
 clear hw ho hb2 hld hl
 go_wp2_with fail
 go_ret
 exact ⟨_, zs, rfl, HO.out, HLN.out, HB2.out⟩
set_option maxHeartbeats 8000000 in
theorem Request_5 (b : Int) (hb0 : 0 ≤ b) (hb1 : b < 256) (h7 : b % 8 = 5) (W : World) : Calls Tryz.prog 58 #[.int .u8 b] W (SomeB W) := by
 have HOK := Lib.hid (req7_ok hb0 hb1 5)
 go_enter Tryz.func58, Tryz.ntmps58
 go_upto_region 4 with fail
 have HB : Hid (Below W.heap.size W (W.alloc (.cells (cells7 b).toArray 165))) := (Below.refl _ _).alloc (Nat.le_refl _) _
 have HL := Lib.hid (World.alloc_heap_new W (.cells (cells7 b).toArray 165))
 simp only [cells7, rqC, req7, List.cons_append, List.nil_append] at HB HL
 generalize W.alloc (.cells _ 165) = W1 at *
 have hld := ld_req7 (W := W1) (B := W.heap.size) (b := b) HL.out 5 (by decide)
 simp only [Nat.reduceMul] at hld
 clear HL hb0 hb1 h7
 go_wp2_with fail
 have HZ : Hid (TB W1 (.slice none 0 0) []) := ⟨.inl ⟨none, 0, rfl, rfl⟩, fun g hg => by cases hg⟩
 refine (show Calls _ _ #[.agg (rqC (req7 b 5) (.slice none 0 0))] W1 _ from Write_req (req7 b 5) (.slice none 0 0) [] W1 HZ.out (fun z hz => by cases hz) HOK.out.1 HOK.out.2.1 (by simp)).mono ?_
 rintro e w2 hw
 obtain ⟨v, zs, err, rfl, ho, hl, hb2⟩ := hw.some (fun bs h => formQ_small HOK.out.1 HOK.out.2.2 h)
 obtain ⟨va, vc, rfl⟩ := ownsRow_form ho
 have HO := Lib.hid (ho.mono HB.out.size)
 have HB2 : Hid (Below W.heap.size W w2) := HB.out.trans (hb2.mono HB.out.size)
 have HLN := Lib.hid hl
 clear hw ho hb2 hld hl
 go_wp2_with fail
 go_ret
 exact ⟨_, zs, rfl, HO.out, HLN.out, HB2.out⟩
set_option maxHeartbeats 8000000 in
theorem Request_6 (b : Int) (hb0 : 0 ≤ b) (hb1 : b < 256) (h7 : b % 8 = 6) (W : World) : Calls Tryz.prog 58 #[.int .u8 b] W (SomeB W) := by
 have HOK := Lib.hid (req7_ok hb0 hb1 6)
 go_enter Tryz.func58, Tryz.ntmps58
 go_upto_region 4 with fail
 have HB : Hid (Below W.heap.size W (W.alloc (.cells (cells7 b).toArray 165))) := (Below.refl _ _).alloc (Nat.le_refl _) _
 have HL := Lib.hid (World.alloc_heap_new W (.cells (cells7 b).toArray 165))
 simp only [cells7, rqC, req7, List.cons_append, List.nil_append] at HB HL
 generalize W.alloc (.cells _ 165) = W1 at *
 have hld := ld_req7 (W := W1) (B := W.heap.size) (b := b) HL.out 6 (by decide)
 simp only [Nat.reduceMul] at hld
 clear HL hb0 hb1 h7
 go_wp2_with fail
 have HZ : Hid (TB W1 (.slice none 0 0) []) := ⟨.inl ⟨none, 0, rfl, rfl⟩, fun g hg => by cases hg⟩
 refine (show Calls _ _ #[.agg (rqC (req7 b 6) (.slice none 0 0))] W1 _ from Write_req (req7 b 6) (.slice none 0 0) [] W1 HZ.out (fun z hz => by cases hz) HOK.out.1 HOK.out.2.1 (by simp)).mono ?_
 rintro e w2 hw
 obtain ⟨v, zs, err, rfl, ho, hl, hb2⟩ := hw.some (fun bs h => formQ_small HOK.out.1 HOK.out.2.2 h)
 obtain ⟨va, vc, rfl⟩ := ownsRow_form ho
 have HO := Lib.hid (ho.mono HB.out.size)
 have HB2 : Hid (Below W.heap.size W w2) := HB.out.trans (hb2.mono HB.out.size)
 have HLN := Lib.hid hl
 clear hw ho hb2 hld hl
 go_wp2_with fail
 go_ret
 exact ⟨_, zs, rfl, HO.out, HLN.out, HB2.out⟩
theorem prgAt1 {W : World} {B : Nat} (h : W.heap[B]? = some (.cells #[.int .u8 10, .int .u8 0, .int .u8 0, .int .u8 0, .int .i64 5, .int .u8 3, .int .u8 3, .int .u8 0, .int .u8 0, .int .i64 1, .int .u8 34, .int .u8 4, .int .u8 0, .int .u8 3, .int .i64 0, .int .u8 3, .int .u8 5, .int .u8 0, .int .u8 0, .int .i64 1, .int .u8 8, .int .u8 5, .int .u8 4, .int .u8 0, .int .i64 0, .int .u8 1, .int .u8 0, .int .u8 0, .int .u8 0, .int .i64 0] 169)) : PrgAt W (some ⟨B, 0, none⟩) 6 prog1 := by
 refine ⟨rfl, fun i e he => ⟨B, 0, rfl, ?_⟩⟩
 have hi : i < 6 := (List.getElem?_eq_some_iff.1 he).1
 have hi' : i = 0 ∨ i = 1 ∨ i = 2 ∨ i = 3 ∨ i = 4 ∨ i = 5 := by omega
 rcases hi' with rfl | rfl | rfl | rfl | rfl | rfl <;> (simp only [prog1, List.getElem?_cons_zero, List.getElem?_cons_succ, Option.some.injEq] at he; subst he; refine ⟨?_, ?_, ?_, ?_, ?_⟩ <;> simp [World.cell?, h])
theorem prcsAt1 {W : World} {B A : Nat} (h : W.heap[B]? = some (.cells #[.string ⟨#[97]⟩, .int .i64 1, .slice (some ⟨A, 0, none⟩) 6 6] 173)) (hp : PrgAt W (some ⟨A, 0, none⟩) 6 prog1) : PrcsAt W (some ⟨B, 0, none⟩) 1 [prc1] := by
 refine ⟨rfl, fun k x hx => ?_⟩
 have hk : k < 1 := (List.getElem?_eq_some_iff.1 hx).1
 obtain rfl : k = 0 := by omega
 simp only [List.getElem?_cons_zero, Option.some.injEq] at hx
 subst hx
 refine ⟨B, 0, .slice (some ⟨A, 0, none⟩) 6 6, rfl, ⟨?_, ?_, ?_⟩, some ⟨A, 0, none⟩, 6, rfl, hp⟩
 · simp [World.cell?, h, prc1]
 · simp [World.cell?, h, prc1]
 · simp [World.cell?, h]
theorem FwP.some {b : Int} (h0 : 0 ≤ b) (h1 : b < 256) {W : World} {e : Ending} {w' : World} (h : FwP (fdn1 b) [prc1] W e w') :
   ∃ v err zs, e = .returned (.tuple #[v, .int .i64 err]) ∧ TB w' v zs ∧ Octets zs ∧ zs.length ≤ 12288 ∧ Below W.heap.size W w' := by
 obtain ⟨hb, h⟩ := h
 by_cases hw : wrE (fdn1 b) [prc1] = 0
 · rw [if_pos hw] at h
   obtain ⟨v, h2, h3⟩ := h
   refine ⟨v, 0, _, h2, TB.of_own h3, form1_oct h0 h1, ?_, hb⟩
   unfold wrE at hw
   split at hw
   · split at hw
     · exact (by assumption : _ ∧ _).2
     · cases hw
   · contradiction
 · rw [if_neg hw] at h
   have ho : Octets [] := fun z hz => by cases hz
   have ht : TB w' (.slice none 0 0) [] := ⟨.inl ⟨none, 0, rfl, rfl⟩, fun g hg => by cases hg⟩
   exact ⟨_, _, [], h, ht, ho, Nat.zero_le _, hb⟩
set_option maxHeartbeats 8000000 in
theorem Request_7 (b : Int) (hb0 : 0 ≤ b) (hb1 : b < 256) (h7 : b % 8 = 7) (W : World) : Calls Tryz.prog 58 #[.int .u8 b] W (SomeB W) := by
 have HFO := Lib.hid (fdn1_ok hb0 hb1)
 have HFW := Lib.hid (fun W e w' (h : FwP (fdn1 b) [prc1] W e w') => h.some hb0 hb1)
 go_enter Tryz.func58, Tryz.ntmps58
 go_upto_region 6 with fail
 have HB : Hid (Below W.heap.size W (W.alloc (.cells (cells7 b).toArray 165))) := (Below.refl _ _).alloc (Nat.le_refl _) _
 simp only [cells7, rqC, req7, List.cons_append, List.nil_append] at HB
 generalize W.alloc (.cells _ 165) = W1 at *
 go_upto_region 7 with fail
 have HL := Lib.hid (World.alloc_heap_new W1 (.cells #[.int .u8 10, .int .u8 0, .int .u8 0, .int .u8 0, .int .i64 5, .int .u8 3, .int .u8 3, .int .u8 0, .int .u8 0, .int .i64 1, .int .u8 34, .int .u8 4, .int .u8 0, .int .u8 3, .int .i64 0, .int .u8 3, .int .u8 5, .int .u8 0, .int .u8 0, .int .i64 1, .int .u8 8, .int .u8 5, .int .u8 4, .int .u8 0, .int .i64 0, .int .u8 1, .int .u8 0, .int .u8 0, .int .u8 0, .int .i64 0] 169))
 have HB2 : Hid (Below W.heap.size W (W1.alloc (.cells #[.int .u8 10, .int .u8 0, .int .u8 0, .int .u8 0, .int .i64 5, .int .u8 3, .int .u8 3, .int .u8 0, .int .u8 0, .int .i64 1, .int .u8 34, .int .u8 4, .int .u8 0, .int .u8 3, .int .i64 0, .int .u8 3, .int .u8 5, .int .u8 0, .int .u8 0, .int .i64 1, .int .u8 8, .int .u8 5, .int .u8 4, .int .u8 0, .int .i64 0, .int .u8 1, .int .u8 0, .int .u8 0, .int .u8 0, .int .i64 0] 169))) := HB.out.alloc HB.out.size _
 generalize W1.alloc (.cells _ 169) = W2 at *
 have hw : IntKind.u64.wrap b = b := by rw [IntKind.wrap_u64]; omega
 go_wp2_with fail
 have HB3 : Hid (Below W.heap.size W (W2.alloc (.cells #[.string ⟨#[97]⟩, .int .i64 1, .slice (some ⟨W1.heap.size, 0, none⟩) 6 6] 173))) := HB2.out.alloc HB2.out.size _
 have HP3 : Hid (PrcsAt (W2.alloc (.cells #[.string ⟨#[97]⟩, .int .i64 1, .slice (some ⟨W1.heap.size, 0, none⟩) 6 6] 173)) (some ⟨W2.heap.size, 0, none⟩) 1 [prc1]) := prcsAt1 (World.alloc_heap_new W2 _) ((prgAt1 HL.out).below ((Below.refl _ _).alloc (Nat.le_refl _) _))
 generalize W2.alloc (.cells _ 173) = W3 at *
 refine (show Calls _ _ #[fedV (fdn1 b) (.slice (some ⟨W2.heap.size, 0, none⟩) 1 1)] W3 _ from FedWrite_any (fdn1 b) HFO.out _ 1 1 (Nat.le_refl _) (by decide) [prc1] (fun x hx => by rw [List.mem_singleton.1 hx]; exact prc1_ok) W3 HP3.out).mono ?_
 rintro e w4 hw4
 obtain ⟨v, err, zs, rfl, hTB, hoc, hzl, hb4⟩ := HFW.out _ _ _ hw4
 obtain ⟨fa, fc, rfl⟩ := hTB.form
 have HTB := Lib.hid hTB
 have HOC := Lib.hid hoc
 have HZL := Lib.hid hzl
 have HB4 : Hid (Below W.heap.size W w4) := HB3.out.trans (hb4.mono HB3.out.size)
 clear hw4 hTB hoc hzl hb4 hb0 hb1 h7 hw HL
 go_wp2_with fail
 refine (show Calls _ _ #[.agg (rqC ⟨1, 0, ⟨#[]⟩, 0, 0, 0, 0, 0, 0, 0, 0⟩ (.slice fa zs.length fc))] w4 _ from Write_req ⟨1, 0, ⟨#[]⟩, 0, 0, 0, 0, 0, 0, 0, 0⟩ (.slice fa zs.length fc) zs w4 HTB.out HOC.out ⟨by decide, by decide, by decide, by decide⟩ (rqNum_of (by decide) (by decide) (by decide) (by decide) (by decide) (by decide) (by decide)) (by have := HZL.out; omega)).mono ?_
 rintro e w5 hw5
 obtain ⟨v, ys, err5, rfl, ho, hl, hb5⟩ := hw5.some (fun bs h => formQ_create HZL.out h)
 obtain ⟨va, vc, rfl⟩ := ownsRow_form ho
 have HO := Lib.hid (ho.mono HB4.out.size)
 have HB5 : Hid (Below W.heap.size W w5) := HB4.out.trans (hb5.mono HB4.out.size)
 have HLN := Lib.hid hl
 clear hw5 ho hb5 hl
 go_wp2_with fail
 go_ret
 exact ⟨_, ys, rfl, HO.out, HLN.out, HB5.out⟩
theorem Request_any (b : Int) (hb0 : 0 ≤ b) (hb1 : b < 256) (W : World) : Calls Tryz.prog 58 #[.int .u8 b] W (SomeB W) := by
 have h : b % 8 = 0 ∨ b % 8 = 1 ∨ b % 8 = 2 ∨ b % 8 = 3 ∨ b % 8 = 4 ∨ b % 8 = 5 ∨ b % 8 = 6 ∨ b % 8 = 7 := by omega
 rcases h with h | h | h | h | h | h | h | h
 · exact Request_0 b hb0 hb1 h W
 · exact Request_1 b hb0 hb1 h W
 · exact Request_2 b hb0 hb1 h W
 · exact Request_3 b hb0 hb1 h W
 · exact Request_4 b hb0 hb1 h W
 · exact Request_5 b hb0 hb1 h W
 · exact Request_6 b hb0 hb1 h W
 · exact Request_7 b hb0 hb1 h W
end Eng
end Go.Proofs.YtdfmgneicdpjmaaGreat
