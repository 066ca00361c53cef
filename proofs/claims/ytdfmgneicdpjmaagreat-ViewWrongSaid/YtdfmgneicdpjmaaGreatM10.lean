import Derived.Test.YtdfmgneicdpjmaaGreatM09
import Derived.Lib.MinMax
import Derived.Laws.Tables
import Derived.Lib.EndianBits
/- Programs in memory; code.Check. -/
namespace Go.Proofs.YtdfmgneicdpjmaaGreat
open Go.RowKit Go.Shelf
attribute [local go_sem] Oper.semAt_some
set_option linter.unusedVariables false
set_option linter.unusedSimpArgs false
set_option maxRecDepth 100000
namespace Eng
open Resp

def InsIn (W : World) (b o : Nat) (i : Ins) : Prop := W.cell? ⟨b, o, none⟩ = some (.int .u8 i.op) ∧ W.cell? ⟨b, o + 1, none⟩ = some (.int .u8 i.a) ∧ W.cell? ⟨b, o + 2, none⟩ = some (.int .u8 i.b) ∧ W.cell? ⟨b, o + 3, none⟩ = some (.int .u8 i.c) ∧ W.cell? ⟨b, o + 4, none⟩ = some (.int .i64 i.n)
theorem InsIn.mod {S : Nat → Prop} {W W' : World} {b o : Nat} {e : Ins} (h : InsIn W b o e) (hm : Mod S W W') (hS : ¬ S b) : InsIn W' b o e := by
  obtain ⟨h0, h1, h2, h3, h4⟩ := h
  exact ⟨hm.cell hS h0, hm.cell hS h1, hm.cell hS h2, hm.cell hS h3, hm.cell hS h4⟩
/-- The slice (a, n) holds the program p. -/
def PrgAt (W : World) (a : Option Addr) (n : Nat) (p : List Ins) : Prop := p.length = n ∧ ∀ i e, p[i]? = some e → ∃ b o, a = some ⟨b, o, none⟩ ∧ InsIn W b (o + i * 5) e
def PrgOk (p : List Ins) : Prop := ∀ i ∈ p, InsOk i
theorem PrgAt.mod {S : Nat → Prop} {W W' : World} {a : Option Addr} {n : Nat} {p : List Ins} (h : PrgAt W a n p) (hm : Mod S W W') (hS : ∀ g, ¬ S g) : PrgAt W' a n p :=
  ⟨h.1, fun i e he => by
    obtain ⟨b, o, e1, h1⟩ := h.2 i e he
    exact ⟨b, o, e1, h1.mod hm (hS b)⟩⟩
theorem PrgAt.below {W W' : World} {a : Option Addr} {n : Nat} {p : List Ins} (h : PrgAt W a n p) (hb : Below W.heap.size W W') : PrgAt W' a n p := h.mod (S := fun _ => False) (Mod.of_same hb) (by simp)
theorem PrgAt.at_ {W : World} {a : Option Addr} {n : Nat} {p : List Ins} (h : PrgAt W a n p) {i : Nat} (hi : i < p.length) : ∃ b o, a = some ⟨b, o, none⟩ ∧ b < W.heap.size ∧ W.cell? ⟨b, o + i * 5, none⟩ = some (.int .u8 p[i].op) ∧ W.cell? ⟨b, o + i * 5 + 1, none⟩ = some (.int .u8 p[i].a) ∧ W.cell? ⟨b, o + i * 5 + 2, none⟩ = some (.int .u8 p[i].b) ∧ W.cell? ⟨b, o + i * 5 + 3, none⟩ = some (.int .u8 p[i].c) ∧ W.cell? ⟨b, o + i * 5 + 4, none⟩ = some (.int .i64 p[i].n) := by
  obtain ⟨b, o, e, h0, h1, h2, h3, h4⟩ := h.2 i _ (List.getElem?_eq_getElem hi)
  exact ⟨b, o, e, World.block_lt_of_cell? W _ h0, h0, h1, h2, h3, h4⟩

def badI (len : Nat) (i : Ins) : Int := if oneE i = 0 then (if tgtB i = true ∧ (len : Int) ≤ tgtV i then 142 else 0) else oneE i
def badP (p : List Ins) : Nat := p.findIdx (fun i => decide (¬ badI p.length i = 0))
def insZ : Ins := ⟨0, 0, 0, 0, 0⟩
def cpK (p : List Ins) : Int := if p.length = 0 then -1 else if 256 < p.length then -1 else if badP p < p.length then (badP p : Int) else if goesB (p[p.length - 1]?.getD insZ) = true then (p.length : Int) - 1 else -1
def cpE (p : List Ins) : Int := if p.length = 0 then 6 else if 256 < p.length then 5 else if badP p < p.length then badI p.length (p[badP p]?.getD insZ) else if goesB (p[p.length - 1]?.getD insZ) = true then 143 else 0
theorem badP_step {p : List Ins} {k : Nat} (hk : k < p.length) (h : k ≤ badP p) (hb : badI p.length p[k] = 0) : k + 1 ≤ badP p := by
  rcases Nat.lt_or_ge k (badP p) with h2 | h2
  · exact h2
  · exfalso
    have h3 : badP p = k := by omega
    have h4 : badP p < p.length := by omega
    have := List.findIdx_getElem (p := fun i => decide (¬ badI p.length i = 0)) (w := h4)
    have h5 : p[badP p]'h4 = p[k] := by congr 1
    unfold badP at h4 h5
    rw [h5] at this
    simp [hb] at this
theorem badP_at {p : List Ins} {k : Nat} (hk : k < p.length) (h : k ≤ badP p) (hb : ¬ badI p.length p[k] = 0) : badP p = k := by
  rcases Nat.lt_or_ge k (badP p) with h2 | h2
  · exfalso
    have := List.not_of_lt_findIdx (p := fun i => decide (¬ badI p.length i = 0)) h2
    simp at this
    exact hb this
  · omega
def CkP (W : World) (p : List Ins) (e : Ending) (w' : World) : Prop := e = .returned (.tuple #[.int .i64 (cpK p), .int .i64 (cpE p)]) ∧ Below W.heap.size W w'
theorem CkP.mk {W w' : World} {p : List Ins} {x y : Int} (h : cpK p = x ∧ cpE p = y) (hb : Below W.heap.size W w') : CkP W p (.returned (.tuple #[.int .i64 x, .int .i64 y])) w' := ⟨by rw [h.1, h.2], hb⟩
set_option maxHeartbeats 1000000 in
theorem Check_any (a : Option Addr) (n c : Nat) (p : List Ins) (W : World) (h : PrgAt W a n p) (ho : PrgOk p) (hn : n ≤ maxLen) :
    Calls Tryz.prog 241 #[.slice a n c] W (CkP W p) := by
  have hl := h.1
  unfold maxLen at hn
  by_cases hz : n = 0
  · have HF : Hid (cpK p = -1 ∧ cpE p = 6) := by constructor <;> simp [cpK, cpE, hl, hz]
    subst hz
    clear hl h
    go_enter Tryz.func241, Tryz.ntmps241
    go_wp2_with fail
    go_ret2
    exact CkP.mk HF.out (Below.refl _ _)
  · by_cases hm : 256 < n
    · have hmI : (256 : Int) < n := by omega
      have hzI : ((n : Int) == 0) = false := by simp; omega
      have HF : Hid (cpK p = -1 ∧ cpE p = 5) := by constructor <;> simp [cpK, cpE, hl, hz, hm]
      clear hl h
      go_enter Tryz.func241, Tryz.ntmps241
      go_wp2_with fail
      go_ret2
      exact CkP.mk HF.out (Below.refl _ _)
    · have hmI : ¬ (256 : Int) < n := by omega
      have hmD : decide ((256 : Int) < n) = false := by simp; omega
      have hzI : ((n : Int) == 0) = false := by simp; omega
      have H := Lib.hid h
      have HL := Lib.hid hl
      have HO := Lib.hid ho
      clear hl h ho
      go_enter Tryz.func241, Tryz.ntmps241
      go_wp2_with fail
      go_loopw [20] (fun i wr => ∃ k : Nat, k ≤ n ∧ i = .int .i64 k ∧ Hid (k ≤ badP p) ∧ Hid (Below W.heap.size W wr)) (fun i _ => n - (intOf i).toNat)
      case atStart => exact ⟨0, Nat.zero_le _, rfl, Nat.zero_le _, Below.refl _ _⟩
      case round =>
        obtain ⟨k, hk, rfl, HKB, HB⟩ := hrel
        by_cases hlt : k < n
        · have hltI : (k : Int) < n := by omega
          have hk2 : k < p.length := by have := HL.out; omega
          obtain ⟨b, o, rfl, hbl, c0, c1, c2, c3, c4⟩ := (H.out.below HB.out).at_ hk2
          have HOK := Lib.hid (HO.out _ (List.getElem_mem hk2))
          have HSTEP := Lib.hid (fun h => badP_step hk2 HKB.out h)
          have HSTOP := Lib.hid (fun h => badP_at hk2 HKB.out h)
          have HGET : Hid (p[k]?.getD insZ = p[k]) := by rw [Hid, List.getElem?_eq_getElem hk2]; rfl
          have HBI : Hid (badI p.length p[k] = if oneE p[k] = 0 then (if tgtB p[k] = true ∧ (p.length : Int) ≤ tgtV p[k] then 142 else 0) else oneE p[k]) := rfl
          generalize p[k] = z at *
          have H1 := fun W => Lib.hid (One_any z HOK.out W)
          have H2 := fun W => Lib.hid (Target_any z HOK.out W)
          obtain ⟨op, a', b', c', n'⟩ := z
          simp only at c0 c1 c2 c3 c4
          unfold insV at H1 H2
          simp only at H1 H2
          go_wp2_with fail
          refine (H1 _).out.mono ?_; rintro e W1 ⟨rfl, hb1⟩
          have HB1 := Lib.hid (HB.out.trans ((((Below.refl wr.heap.size wr).alloc (Nat.le_refl _) _).trans (hb1.mono (by simp))).mono HB.out.size))
          obtain ⟨q0, q1, q2, q3, q4⟩ := (new_ins hb1).1.cells
          clear hb1 c0 c1 c2 c3 c4
          by_cases h1 : oneE ⟨op, a', b', c', n'⟩ = 0
          · have HE1 := Lib.hid h1
            rw [h1]
            clear h1
            go_wp2_with fail
            refine (H2 _).out.mono ?_; rintro e W2 ⟨rfl, hb2⟩
            have HB2 := Lib.hid (below_step_ HB1.out hb2)
            clear hb2 q0 q1 q2 q3 q4
            by_cases h2 : tgtB ⟨op, a', b', c', n'⟩ = true
            · by_cases h3 : (n : Int) ≤ tgtV ⟨op, a', b', c', n'⟩
              · have HBV : Hid (badI p.length ⟨op, a', b', c', n'⟩ = 142) := by rw [Hid, HBI.out, if_pos HE1.out, if_pos ⟨h2, by rw [HL.out]; exact h3⟩]
                have HAT := Lib.hid (HSTOP.out (by rw [HBV.out]; decide))
                have HF : Hid (cpK p = k ∧ cpE p = 142) := by
                  have h9 := HL.out
                  constructor
                  · rw [cpK, if_neg (by omega), if_neg (by omega), HAT.out, if_pos hk2]
                  · rw [cpE, if_neg (by omega), if_neg (by omega), HAT.out, if_pos hk2, HGET.out, HBV.out]
                rw [h2]
                generalize tgtV ⟨op, a', b', c', n'⟩ = tv at *
                have h3d : decide ((n : Int) ≤ tv) = true := by simpa using h3
                have h3e : decide (tv ≥ (n : Int)) = true := by simpa using h3
                clear hk2 h2 HGET
                go_wp2_with fail
                go_ret2
                exact CkP.mk HF.out HB2.out
              · have HBV : Hid (badI p.length ⟨op, a', b', c', n'⟩ = 0) := by rw [Hid, HBI.out, if_pos HE1.out, if_neg (fun h => h3 (by rw [← HL.out]; exact h.2))]
                have HNX := Lib.hid (HSTEP.out HBV.out)
                rw [h2]
                generalize tgtV ⟨op, a', b', c', n'⟩ = tv at *
                have h3d : decide ((n : Int) ≤ tv) = false := by simpa using h3
                have h3e : decide (tv ≥ (n : Int)) = false := by simpa using h3
                clear hk2 h2 HGET
                go_wp2_with fail
                exact ⟨⟨k + 1, by omega, by simp, HNX.out, HB2.out⟩, by simp [intOf]; omega⟩
            · have HBV : Hid (badI p.length ⟨op, a', b', c', n'⟩ = 0) := by rw [Hid, HBI.out, if_pos HE1.out, if_neg (fun h => h2 h.1)]
              have HNX := Lib.hid (HSTEP.out HBV.out)
              have h2' : tgtB ⟨op, a', b', c', n'⟩ = false := by simpa using h2
              rw [h2']
              generalize tgtV ⟨op, a', b', c', n'⟩ = tv at *
              clear hk2 h2 h2' HGET
              go_wp2_with fail
              exact ⟨⟨k + 1, by omega, by simp, HNX.out, HB2.out⟩, by simp [intOf]; omega⟩
          · have HBV : Hid (badI p.length ⟨op, a', b', c', n'⟩ = oneE ⟨op, a', b', c', n'⟩) := by rw [Hid, HBI.out, if_neg h1]
            have HAT := Lib.hid (HSTOP.out (by rw [HBV.out]; exact h1))
            have HF : Hid (cpK p = k ∧ cpE p = oneE ⟨op, a', b', c', n'⟩) := by
              have h9 := HL.out
              constructor
              · rw [cpK, if_neg (by omega), if_neg (by omega), HAT.out, if_pos hk2]
              · rw [cpE, if_neg (by omega), if_neg (by omega), HAT.out, if_pos hk2, HGET.out, HBV.out]
            have h1b : (oneE ⟨op, a', b', c', n'⟩ != 0) = true := by rw [bne_iff_ne]; exact h1
            clear hk2 HGET h1 HBV HBI
            generalize oneE ⟨op, a', b', c', n'⟩ = oe at *
            go_wp2_with fail
            go_ret2
            exact CkP.mk HF.out HB1.out
        · obtain rfl : k = n := by omega
          have HNB : Hid (¬ badP p < p.length) := by
            have h1 := HKB.out
            have h2 := HL.out
            show ¬ badP p < p.length
            omega
          have hk2 : k - 1 < p.length := by have := HL.out; omega
          obtain ⟨b, o, rfl, hbl, c0, c1, c2, c3, c4⟩ := (H.out.below HB.out).at_ hk2
          have HOK := Lib.hid (HO.out _ (List.getElem_mem hk2))
          have HGET : Hid (p[p.length - 1]?.getD insZ = p[k - 1]) := by
            have h1 : p.length - 1 = k - 1 := by have := HL.out; omega
            rw [Hid, h1, List.getElem?_eq_getElem hk2]; rfl
          generalize p[k - 1] = z at *
          have H1 := fun W => Lib.hid (Goes_any z HOK.out W)
          have HF : Hid ((goesB z = true → cpK p = (k : Int) - 1 ∧ cpE p = 143) ∧ (goesB z = false → cpK p = -1 ∧ cpE p = 0)) := by
            have h9 := HL.out
            refine ⟨fun hg => ⟨?_, ?_⟩, fun hg => ⟨?_, ?_⟩⟩
            · rw [cpK, if_neg (by omega), if_neg (by omega), if_neg HNB.out, HGET.out, if_pos hg, h9]
            · rw [cpE, if_neg (by omega), if_neg (by omega), if_neg HNB.out, HGET.out, if_pos hg]
            · rw [cpK, if_neg (by omega), if_neg (by omega), if_neg HNB.out, HGET.out, if_neg (by simp [hg])]
            · rw [cpE, if_neg (by omega), if_neg (by omega), if_neg HNB.out, HGET.out, if_neg (by simp [hg])]
          obtain ⟨op, a', b', c', n'⟩ := z
          simp only at c0 c1 c2 c3 c4
          unfold insV at H1
          simp only at H1
          have hto : ((k : Int) - 1).toNat = k - 1 := by omega
          have hge : 0 ≤ (k : Int) - 1 := by omega
          have hlt1 : (k : Int) - 1 < k := by omega
          have hw1 : IntKind.i64.wrap ((k : Int) - 1) = (k : Int) - 1 := by rw [IntKind.wrap_i64]; omega
          clear hk2 hlt
          go_wp2_with fail
          refine (H1 _).out.mono ?_; rintro e W1 ⟨rfl, hb1⟩
          have HB1 := Lib.hid (below_step_ HB.out hb1)
          clear hb1 c0 c1 c2 c3 c4
          cases hg : goesB ⟨op, a', b', c', n'⟩ with
          | true =>
            have HF2 := Lib.hid (HF.out.1 hg)
            clear hg
            go_wp2_with fail
            go_ret2
            exact CkP.mk HF2.out HB1.out
          | false =>
            have HF2 := Lib.hid (HF.out.2 hg)
            clear hg
            go_wp2_with fail
            go_ret2
            exact CkP.mk HF2.out HB1.out
end Eng
end Go.Proofs.YtdfmgneicdpjmaaGreat

/- word.all, wrong. -/
namespace Go.Proofs.YtdfmgneicdpjmaaGreat
open Go.RowKit Go.Shelf
attribute [local go_sem] Oper.semAt_some
set_option linter.unusedVariables false
set_option linter.unusedSimpArgs false
set_option maxRecDepth 100000
namespace Eng
open Resp

def divB (op : Int) : Bool := decide (op = 4 ∨ op = 5 ∨ op = 6)
def apE (op b : Int) : Int := if op < 1 ∨ 17 < op then 130 else if b = 0 ∧ divB op = true then 131 else 0
def allA : Array Value := #[.string ⟨#[]⟩, .bool false, .string ⟨#[97, 100, 100]⟩, .bool false, .string ⟨#[115, 117, 98]⟩, .bool false, .string ⟨#[109, 117, 108]⟩, .bool false, .string ⟨#[100, 105, 118]⟩, .bool true, .string ⟨#[114, 101, 109]⟩, .bool true, .string ⟨#[109, 111, 100]⟩, .bool true, .string ⟨#[97, 110, 100]⟩, .bool false, .string ⟨#[111, 114]⟩, .bool false, .string ⟨#[120, 111, 114]⟩, .bool false, .string ⟨#[115, 104, 108]⟩, .bool false, .string ⟨#[115, 104, 114]⟩, .bool false, .string ⟨#[115, 97, 114]⟩, .bool false, .string ⟨#[108, 101, 115, 115]⟩, .bool false, .string ⟨#[98, 101, 108, 111, 119]⟩, .bool false, .string ⟨#[101, 113, 117, 97, 108]⟩, .bool false, .string ⟨#[109, 105, 110]⟩, .bool false, .string ⟨#[109, 97, 120]⟩, .bool false]
def allZ : Array Value := #[.string ⟨#[]⟩, .bool false, .string ⟨#[]⟩, .bool false, .string ⟨#[]⟩, .bool false, .string ⟨#[]⟩, .bool false, .string ⟨#[]⟩, .bool false, .string ⟨#[]⟩, .bool false, .string ⟨#[]⟩, .bool false, .string ⟨#[]⟩, .bool false, .string ⟨#[]⟩, .bool false, .string ⟨#[]⟩, .bool false, .string ⟨#[]⟩, .bool false, .string ⟨#[]⟩, .bool false, .string ⟨#[]⟩, .bool false, .string ⟨#[]⟩, .bool false, .string ⟨#[]⟩, .bool false, .string ⟨#[]⟩, .bool false, .string ⟨#[]⟩, .bool false, .string ⟨#[]⟩, .bool false]
theorem infoOnes : (Tryz.prog.info? 639).map (·.size) = some 36 := by kernel_rfl
theorem bld_all (w : World) : (Instr.build 639 #[(0, .agg #[.string ⟨#[]⟩, .bool false]), (1, .agg #[.string ⟨#[97, 100, 100]⟩, .bool false]), (2, .agg #[.string ⟨#[115, 117, 98]⟩, .bool false]), (3, .agg #[.string ⟨#[109, 117, 108]⟩, .bool false]), (4, .agg #[.string ⟨#[100, 105, 118]⟩, .bool true]), (5, .agg #[.string ⟨#[114, 101, 109]⟩, .bool true]), (6, .agg #[.string ⟨#[109, 111, 100]⟩, .bool true]), (7, .agg #[.string ⟨#[97, 110, 100]⟩, .bool false]), (8, .agg #[.string ⟨#[111, 114]⟩, .bool false]), (9, .agg #[.string ⟨#[120, 111, 114]⟩, .bool false]), (10, .agg #[.string ⟨#[115, 104, 108]⟩, .bool false]), (11, .agg #[.string ⟨#[115, 104, 114]⟩, .bool false]), (12, .agg #[.string ⟨#[115, 97, 114]⟩, .bool false]), (13, .agg #[.string ⟨#[108, 101, 115, 115]⟩, .bool false]), (14, .agg #[.string ⟨#[98, 101, 108, 111, 119]⟩, .bool false]), (15, .agg #[.string ⟨#[101, 113, 117, 97, 108]⟩, .bool false]), (16, .agg #[.string ⟨#[109, 105, 110]⟩, .bool false]), (17, .agg #[.string ⟨#[109, 97, 120]⟩, .bool false])]).run Tryz.prog w = .ok (.agg allA) w := run_build w _ _ _ (by with_unfolding_all exact rfl)
theorem bld_zero (w : World) : (Instr.build 638 #[]).run Tryz.prog w = .ok (.agg #[.string ⟨#[]⟩, .bool false]) w := run_build w _ _ _ (by with_unfolding_all exact rfl)
theorem bld_one (s : ByteArray) (b : Bool) (w : World) : (Instr.build 638 #[(0, .string s), (1, .bool b)]).run Tryz.prog w = .ok (.agg #[.string s, .bool b]) w := run_build w _ _ _ (by with_unfolding_all exact rfl)
theorem st_all (w : World) : (Instr.storeAt 639 (.pointer (some ⟨w.heap.size, 0, none⟩)) (.agg allA)).run Tryz.prog (w.alloc (.cells #[.string ⟨#[]⟩, .bool false, .string ⟨#[]⟩, .bool false, .string ⟨#[]⟩, .bool false, .string ⟨#[]⟩, .bool false, .string ⟨#[]⟩, .bool false, .string ⟨#[]⟩, .bool false, .string ⟨#[]⟩, .bool false, .string ⟨#[]⟩, .bool false, .string ⟨#[]⟩, .bool false, .string ⟨#[]⟩, .bool false, .string ⟨#[]⟩, .bool false, .string ⟨#[]⟩, .bool false, .string ⟨#[]⟩, .bool false, .string ⟨#[]⟩, .bool false, .string ⟨#[]⟩, .bool false, .string ⟨#[]⟩, .bool false, .string ⟨#[]⟩, .bool false, .string ⟨#[]⟩, .bool false] 639)) = .ok () ((w.alloc (.cells #[.string ⟨#[]⟩, .bool false, .string ⟨#[]⟩, .bool false, .string ⟨#[]⟩, .bool false, .string ⟨#[]⟩, .bool false, .string ⟨#[]⟩, .bool false, .string ⟨#[]⟩, .bool false, .string ⟨#[]⟩, .bool false, .string ⟨#[]⟩, .bool false, .string ⟨#[]⟩, .bool false, .string ⟨#[]⟩, .bool false, .string ⟨#[]⟩, .bool false, .string ⟨#[]⟩, .bool false, .string ⟨#[]⟩, .bool false, .string ⟨#[]⟩, .bool false, .string ⟨#[]⟩, .bool false, .string ⟨#[]⟩, .bool false, .string ⟨#[]⟩, .bool false, .string ⟨#[]⟩, .bool false] 639)).setRow w.heap.size allA) := by
  simp only [Instr.storeAt, Instr.sureAddr, Sem.run_bind, Sem.run_pure, Result.andThen]
  exact run_storeVar_row (w.alloc (.cells #[.string ⟨#[]⟩, .bool false, .string ⟨#[]⟩, .bool false, .string ⟨#[]⟩, .bool false, .string ⟨#[]⟩, .bool false, .string ⟨#[]⟩, .bool false, .string ⟨#[]⟩, .bool false, .string ⟨#[]⟩, .bool false, .string ⟨#[]⟩, .bool false, .string ⟨#[]⟩, .bool false, .string ⟨#[]⟩, .bool false, .string ⟨#[]⟩, .bool false, .string ⟨#[]⟩, .bool false, .string ⟨#[]⟩, .bool false, .string ⟨#[]⟩, .bool false, .string ⟨#[]⟩, .bool false, .string ⟨#[]⟩, .bool false, .string ⟨#[]⟩, .bool false, .string ⟨#[]⟩, .bool false] 639)) w.heap.size 639 639 #[.string ⟨#[]⟩, .bool false, .string ⟨#[]⟩, .bool false, .string ⟨#[]⟩, .bool false, .string ⟨#[]⟩, .bool false, .string ⟨#[]⟩, .bool false, .string ⟨#[]⟩, .bool false, .string ⟨#[]⟩, .bool false, .string ⟨#[]⟩, .bool false, .string ⟨#[]⟩, .bool false, .string ⟨#[]⟩, .bool false, .string ⟨#[]⟩, .bool false, .string ⟨#[]⟩, .bool false, .string ⟨#[]⟩, .bool false, .string ⟨#[]⟩, .bool false, .string ⟨#[]⟩, .bool false, .string ⟨#[]⟩, .bool false, .string ⟨#[]⟩, .bool false, .string ⟨#[]⟩, .bool false] allA (World.alloc_heap_new w _) infoOnes rfl (by simp [allA, Value.oneCell'])
theorem all_row (w : World) : ((w.alloc (.cells #[.string ⟨#[]⟩, .bool false, .string ⟨#[]⟩, .bool false, .string ⟨#[]⟩, .bool false, .string ⟨#[]⟩, .bool false, .string ⟨#[]⟩, .bool false, .string ⟨#[]⟩, .bool false, .string ⟨#[]⟩, .bool false, .string ⟨#[]⟩, .bool false, .string ⟨#[]⟩, .bool false, .string ⟨#[]⟩, .bool false, .string ⟨#[]⟩, .bool false, .string ⟨#[]⟩, .bool false, .string ⟨#[]⟩, .bool false, .string ⟨#[]⟩, .bool false, .string ⟨#[]⟩, .bool false, .string ⟨#[]⟩, .bool false, .string ⟨#[]⟩, .bool false, .string ⟨#[]⟩, .bool false] 639)).setRow w.heap.size allA).heap[w.heap.size]? = some (.cells allA 639) := by
  have h := World.alloc_heap_new w (.cells #[.string ⟨#[]⟩, .bool false, .string ⟨#[]⟩, .bool false, .string ⟨#[]⟩, .bool false, .string ⟨#[]⟩, .bool false, .string ⟨#[]⟩, .bool false, .string ⟨#[]⟩, .bool false, .string ⟨#[]⟩, .bool false, .string ⟨#[]⟩, .bool false, .string ⟨#[]⟩, .bool false, .string ⟨#[]⟩, .bool false, .string ⟨#[]⟩, .bool false, .string ⟨#[]⟩, .bool false, .string ⟨#[]⟩, .bool false, .string ⟨#[]⟩, .bool false, .string ⟨#[]⟩, .bool false, .string ⟨#[]⟩, .bool false, .string ⟨#[]⟩, .bool false, .string ⟨#[]⟩, .bool false] 639)
  obtain ⟨hlt, he⟩ := Array.getElem?_eq_some_iff.1 h
  show ((w.alloc _).heap.modify w.heap.size _)[w.heap.size]? = _
  rw [Array.getElem?_eq_getElem (by rw [Array.size_modify]; exact hlt), Array.getElem_modify_self, he]
theorem all_below (w : World) : Below w.heap.size w ((w.alloc (.cells #[.string ⟨#[]⟩, .bool false, .string ⟨#[]⟩, .bool false, .string ⟨#[]⟩, .bool false, .string ⟨#[]⟩, .bool false, .string ⟨#[]⟩, .bool false, .string ⟨#[]⟩, .bool false, .string ⟨#[]⟩, .bool false, .string ⟨#[]⟩, .bool false, .string ⟨#[]⟩, .bool false, .string ⟨#[]⟩, .bool false, .string ⟨#[]⟩, .bool false, .string ⟨#[]⟩, .bool false, .string ⟨#[]⟩, .bool false, .string ⟨#[]⟩, .bool false, .string ⟨#[]⟩, .bool false, .string ⟨#[]⟩, .bool false, .string ⟨#[]⟩, .bool false, .string ⟨#[]⟩, .bool false] 639)).setRow w.heap.size allA) := by
  refine ((Below.refl _ _).alloc (Nat.le_refl w.heap.size) (.cells #[.string ⟨#[]⟩, .bool false, .string ⟨#[]⟩, .bool false, .string ⟨#[]⟩, .bool false, .string ⟨#[]⟩, .bool false, .string ⟨#[]⟩, .bool false, .string ⟨#[]⟩, .bool false, .string ⟨#[]⟩, .bool false, .string ⟨#[]⟩, .bool false, .string ⟨#[]⟩, .bool false, .string ⟨#[]⟩, .bool false, .string ⟨#[]⟩, .bool false, .string ⟨#[]⟩, .bool false, .string ⟨#[]⟩, .bool false, .string ⟨#[]⟩, .bool false, .string ⟨#[]⟩, .bool false, .string ⟨#[]⟩, .bool false, .string ⟨#[]⟩, .bool false, .string ⟨#[]⟩, .bool false] 639)).trans ⟨rfl, rfl, rfl, by simp [World.setRow], fun k hk => ?_⟩
  show ((w.alloc _).heap.modify w.heap.size _)[k]? = _
  rw [Array.getElem?_modify, if_neg (by omega)]
attribute [-go_sem] Instr.build Instr.storeAt
attribute [local go_sem] bld_all bld_zero bld_one st_all
theorem all_any (w : World) : Calls Tryz.prog 469 #[] w fun e w' => e = .returned (.agg allA) ∧ Below w.heap.size w w' := by
  go_enter Tryz.func469, Tryz.ntmps469
  go_wp2_with fail
  exact bodyPost_ret (results_cell_row rfl _ _ w.heap.size _ _ _ _ rfl (all_row w) Tryz.underlying639 rfl infoOnes) rfl ⟨rfl, all_below w⟩
end Eng
end Go.Proofs.YtdfmgneicdpjmaaGreat

/- word.wrong, truth, mod, Apply. -/
namespace Go.Proofs.YtdfmgneicdpjmaaGreat
open Go.RowKit Go.Shelf
attribute [local go_sem] Oper.semAt_some
set_option linter.unusedVariables false
set_option linter.unusedSimpArgs false
set_option maxRecDepth 100000
namespace Eng
open Resp

theorem idx_all (op : Nat) (h1 : op ≤ 17) : ∃ s : ByteArray, ∀ w : World, (Instr.index 639 (.agg allA) (.int .u8 (op : Int))).run Tryz.prog w = .ok (.agg #[.string s, .bool (divB (op : Int))]) w := by
  have hk : op = 0 ∨ op = 1 ∨ op = 2 ∨ op = 3 ∨ op = 4 ∨ op = 5 ∨ op = 6 ∨ op = 7 ∨ op = 8 ∨ op = 9 ∨ op = 10 ∨ op = 11 ∨ op = 12 ∨ op = 13 ∨ op = 14 ∨ op = 15 ∨ op = 16 ∨ op = 17 := by omega
  rcases hk with rfl | rfl | rfl | rfl | rfl | rfl | rfl | rfl | rfl | rfl | rfl | rfl | rfl | rfl | rfl | rfl | rfl | rfl <;> exact ⟨_, fun w => by with_unfolding_all exact rfl⟩
theorem fld_one (s : ByteArray) (b : Bool) (w : World) : (Instr.field 638 (.agg #[.string s, .bool b]) 1).run Tryz.prog w = .ok (.bool b) w := by with_unfolding_all exact rfl
def tB (b : Bool) : Int := if b = true then 1 else 0
theorem truth_any (b : Bool) (w : World) : Calls Tryz.prog 463 #[.bool b] w fun e w' => e = .returned (.int .i64 (tB b)) ∧ w = w' := by
  cases b <;>
  · go_enter Tryz.func463, Tryz.ntmps463
    go_wp2_with fail
    go_ret
    exact ⟨rfl, rfl⟩
theorem wrong_any (op b : Int) (h0 : 0 ≤ op) (w : World) : Calls Tryz.prog 461 #[.int .u8 op, .int .i64 b] w fun e w' => e = .returned (.int .i64 (apE op b)) ∧ Below w.heap.size w w' := by
  by_cases h1 : op < 1
  · have HE : Hid (apE op b = 130) := by rw [Hid, apE, if_pos (.inl h1)]
    have d1 : decide (op < 1) = true := by simpa using h1
    go_enter Tryz.func461, Tryz.ntmps461
    go_wp2_with fail
    go_ret
    exact ⟨by rw [HE.out]; rfl, Below.refl _ _⟩
  · by_cases h2 : 17 < op
    · have HE : Hid (apE op b = 130) := by rw [Hid, apE, if_pos (.inr h2)]
      have d1 : decide (op < 1) = false := by simpa using h1
      have d2 : decide (17 < op) = true := by simpa using h2
      go_enter Tryz.func461, Tryz.ntmps461
      go_wp2_with fail
      go_ret
      exact ⟨by rw [HE.out]; rfl, Below.refl _ _⟩
    · have d1 : decide (op < 1) = false := by simpa using h1
      have d2 : decide (17 < op) = false := by simpa using h2
      by_cases hb : b = 0
      · obtain ⟨o, ho⟩ : ∃ o : Nat, op = (o : Int) := ⟨op.toNat, by omega⟩
        subst ho
        obtain ⟨s, hs⟩ := idx_all o (by omega)
        have hfl := fun b w => fld_one s b w
        have hbb : (b == 0) = true := by simpa using hb
        have HE : Hid (apE (o : Int) b = if divB (o : Int) = true then 131 else 0) := by
          rw [Hid, apE, if_neg (by omega)]
          by_cases hd : divB (o : Int) = true
          · rw [if_pos ⟨hb, hd⟩, if_pos hd]
          · rw [if_neg (fun h => hd h.2), if_neg hd]
        subst hb
        cases hdv : divB (o : Int) with
        | true =>
          rw [hdv] at hs HE
          have HF := Lib.hid (show apE (o : Int) 0 = 131 from HE.out)
          clear hdv HE
          go_enter Tryz.func461, Tryz.ntmps461
          go_wp2_with fail
          refine (all_any _).mono ?_; rintro e w1 ⟨rfl, hb1⟩
          have HB := Lib.hid hb1
          clear hb1
          go_wp2_with fail
          go_ret
          exact ⟨by rw [HF.out]; rfl, HB.out⟩
        | false =>
          rw [hdv] at hs HE
          have HF := Lib.hid (show apE (o : Int) 0 = 0 from HE.out)
          clear hdv HE
          go_enter Tryz.func461, Tryz.ntmps461
          go_wp2_with fail
          refine (all_any _).mono ?_; rintro e w1 ⟨rfl, hb1⟩
          have HB := Lib.hid hb1
          clear hb1
          go_wp2_with fail
          go_ret
          exact ⟨by rw [HF.out]; rfl, HB.out⟩
      · have HE : Hid (apE op b = 0) := by rw [Hid, apE, if_neg (by omega), if_neg (fun h => hb h.1)]
        have hbb : (b == 0) = false := by simpa using hb
        clear hb
        go_enter Tryz.func461, Tryz.ntmps461
        go_wp2_with fail
        go_ret
        exact ⟨by rw [HE.out]; rfl, Below.refl _ _⟩
def modV (a b : Int) : Int := if 0 ≤ a.tmod b then a.tmod b else if b < 0 then wrap64 (a.tmod b - b) else wrap64 (a.tmod b + b)
theorem modw_any (a b : Int) (hb : ¬ b = 0) (w : World) : Calls Tryz.prog 462 #[.int .i64 a, .int .i64 b] w fun e w' => e = .returned (.int .i64 (modV a b)) ∧ w = w' := by
  by_cases h1 : 0 ≤ a.tmod b
  · have HV : Hid (modV a b = a.tmod b) := if_pos h1
    go_enter Tryz.func462, Tryz.ntmps462
    go_wp2_with fail
    go_ret
    exact ⟨by rw [HV.out]; rfl, rfl⟩
  · by_cases h2 : b < 0
    · have HV : Hid (modV a b = wrap64 (a.tmod b - b)) := by rw [Hid, modV, if_neg h1, if_pos h2]
      go_enter Tryz.func462, Tryz.ntmps462
      go_wp2_with fail
      go_ret
      exact ⟨by rw [HV.out]; rfl, rfl⟩
    · have HV : Hid (modV a b = wrap64 (a.tmod b + b)) := by rw [Hid, modV, if_neg h1, if_neg h2]
      go_enter Tryz.func462, Tryz.ntmps462
      go_wp2_with fail
      go_ret
      exact ⟨by rw [HV.out]; rfl, rfl⟩
def shK (b : Int) : Nat := (b % 64).toNat
theorem shK_eq (b : Int) : bits BinOp.and IntKind.u64 (IntKind.u64.wrap b) 63 = ((shK b : Nat) : Int) := by
  have h1 : 0 ≤ IntKind.u64.wrap b ∧ IntKind.u64.wrap b < 18446744073709551616 := by rw [IntKind.wrap_u64]; omega
  have h2 : bits BinOp.and IntKind.u64 (IntKind.u64.wrap b) 63 = IntKind.u64.wrap b % 64 := bits_mask .u64 64 (by decide) wraps_u64 6 (by decide) _ h1.1 h1.2
  rw [h2, shK, IntKind.wrap_u64]
  omega
theorem shK_le (b : Int) : shK b ≤ 63 := by unfold shK; omega
/-- What word.Apply computes where nothing is wrong. -/
def apV (op a b : Int) : Int :=
  if op = 1 then wrap64 (a + b) else if op = 2 then wrap64 (a - b) else if op = 3 then wrap64 (a * b) else if op = 4 then wrap64 (a.tdiv b) else if op = 5 then a.tmod b else if op = 6 then modV a b
  else if op = 7 then bits BinOp.and IntKind.i64 a b else if op = 8 then bits BinOp.or IntKind.i64 a b else if op = 9 then bits BinOp.xor IntKind.i64 a b
  else if op = 10 then wrap64 (a * 2 ^ shK b) else if op = 11 then wrap64 (IntKind.u64.wrap a / 2 ^ shK b) else if op = 12 then a / 2 ^ shK b
  else if op = 13 then tB (decide (a < b)) else if op = 14 then tB (decide (IntKind.u64.wrap a < IntKind.u64.wrap b)) else if op = 15 then tB (a == b)
  else if op = 16 then min a b else max a b
def apR (op a b : Int) : Int := if apE op b = 0 then apV op a b else 0
set_option maxHeartbeats 1000000 in
theorem Apply_any (op a b : Int) (h0 : 0 ≤ op) (h1 : op ≤ 255) (w : World) : Calls Tryz.prog 445 #[.int .u8 op, .int .i64 a, .int .i64 b] w fun e w' => e = .returned (.tuple #[.int .i64 (apR op a b), .int .i64 (apE op b)]) ∧ Below w.heap.size w w' := by
  have HW := Lib.hid (wrong_any op b h0 w)
  by_cases hE : apE op b = 0
  · have HE := Lib.hid hE
    have hop : 1 ≤ op ∧ op ≤ 17 := by
      unfold apE at hE
      by_cases h : op < 1 ∨ 17 < op
      · rw [if_pos h] at hE; cases hE
      · omega
    have hdz : (op = 4 ∨ op = 5 ∨ op = 6) → ¬ b = 0 := by
      intro h hb
      unfold apE at hE
      rw [if_neg (by omega), if_pos ⟨hb, by unfold divB; exact decide_eq_true h⟩] at hE
      cases hE
    have HR : Hid (apR op a b = apV op a b) := if_pos hE
    clear hE
    have hk : op = 1 ∨ op = 2 ∨ op = 3 ∨ op = 4 ∨ op = 5 ∨ op = 6 ∨ op = 7 ∨ op = 8 ∨ op = 9 ∨ op = 10 ∨ op = 11 ∨ op = 12 ∨ op = 13 ∨ op = 14 ∨ op = 15 ∨ op = 16 ∨ op = 17 := by omega
    rw [HR.out, HE.out]
    have hkc := shK_eq b
    have hkl := shK_le b
    rcases hk with rfl | rfl | rfl | rfl | rfl | rfl | rfl | rfl | rfl | rfl | rfl | rfl | rfl | rfl | rfl | rfl | rfl
    all_goals
      (try have hb0 := hdz (by omega))
      clear hdz hop
      simp only [apV, Int.reduceEq, if_true, if_false]
      go_enter Tryz.func445, Tryz.ntmps445
      go_wp2_with fail
      refine HW.out.mono ?_; rintro e w1 ⟨rfl, hb1⟩
      rw [HE.out]
      have HB := Lib.hid hb1
      clear hb1
      go_wp2_with (first | (go_at_call 463; refine (truth_any _ _).mono ?_; rintro e w' ⟨rfl, rfl⟩) | (go_at_call 462; refine (modw_any _ _ hb0 _).mono ?_; rintro e w' ⟨rfl, rfl⟩))
      all_goals (go_ret2; exact ⟨rfl, HB.out⟩)
  · have HR : Hid (apR op a b = 0) := if_neg hE
    have hEb : (apE op b != 0) = true := by rw [bne_iff_ne]; exact hE
    rw [HR.out]
    clear hE
    generalize apE op b = ae at *
    go_enter Tryz.func445, Tryz.ntmps445
    go_wp2_with fail
    refine HW.out.mono ?_; rintro e w1 ⟨rfl, hb1⟩
    have HB := Lib.hid hb1
    clear hb1
    go_wp2_with fail
    go_ret2
    exact ⟨rfl, HB.out⟩
end Eng
end Go.Proofs.YtdfmgneicdpjmaaGreat
