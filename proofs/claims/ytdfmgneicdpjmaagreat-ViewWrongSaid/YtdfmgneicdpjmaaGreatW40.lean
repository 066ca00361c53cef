import Derived.Test.YtdfmgneicdpjmaaGreatM17
import Derived.Deep.Matrix
import Derived.Deep.Slices
import Derived.Lib.SmallJoins
import Derived.ChangeSlices
import Derived.ChangeArms
import Derived.SizedLaws
namespace Go.Proofs.YtdfmgneicdpjmaaGreat
open Go.RowKit Go.Shelf Go.ChangeShapes Go.WideShapes
set_option linter.unusedVariables false
set_option linter.unusedSimpArgs false
set_option maxRecDepth 100000
namespace Resp
end Resp
end Go.Proofs.YtdfmgneicdpjmaaGreat

namespace Go.Proofs.YtdfmgneicdpjmaaGreat
open Go.RowKit Go.Shelf Go.ChangeShapes Go.WideShapes Go.Deep Go.Joins
set_option linter.unusedVariables false
set_option linter.unusedSimpArgs false
set_option maxRecDepth 100000
namespace View
open Resp
theorem weightsAll_mem {H : Type} {P : Program} {t : TypeId} {d : DataW H} {m : Nat} (hm : m ∈ d.weights P t) : ∀ {l : List (DataW H)}, d ∈ l → m ∈ DataW.weightsAll P t l
 | x :: r, h => by
   rcases List.mem_cons.1 h with rfl | h
   · simp only [DataW.weightsAll, List.mem_append]; exact .inl hm
   · simp only [DataW.weightsAll, List.mem_append]; exact .inr (weightsAll_mem hm h)
theorem choose_list {α : Type} {p : Nat → α → Prop} : ∀ n : Nat, (∀ i, i < n → ∃ x, p i x) → ∃ l : List α, l.length = n ∧ ∀ i (hi : i < l.length), p i l[i]
 | 0, _ => ⟨[], rfl, fun i hi => absurd hi (Nat.not_lt_zero _)⟩
 | n + 1, h => by
   obtain ⟨l, hl, hp⟩ := choose_list n (fun i hi => h i (by omega))
   obtain ⟨x, hx⟩ := h n (by omega)
   refine ⟨l ++ [x], by simp [hl], fun i hi => ?_⟩
   by_cases h1 : i < l.length
   · rw [List.getElem_append_left h1]; exact hp i h1
   · have h2 : i = l.length := by simp at hi; omega
     subst h2
     simp
     rw [hl]; exact hx
end View
end Go.Proofs.YtdfmgneicdpjmaaGreat

namespace Go.Proofs.YtdfmgneicdpjmaaGreat
open Go.RowKit Go.Shelf Go.ChangeShapes Go.WideShapes Go.Deep Go.Joins
set_option linter.unusedVariables false
set_option linter.unusedSimpArgs false
set_option maxRecDepth 100000
namespace View
open Resp
structure Sml where
 kind : Int
 slot : Int
 n : Int
 bytes : ByteArray
def SmlOk (e : Sml) : Prop := (0 ≤ e.kind ∧ e.kind ≤ 255) ∧ (0 ≤ e.slot ∧ e.slot ≤ 255) ∧ (0 ≤ e.n ∧ e.n ≤ 255)
def CapOk (v : Value) : Prop := ∀ a l c, v = .slice a l c → l ≤ c
def SmlIn (W : World) (b o : Nat) (e : Sml) : Prop := ∃ v, W.cell? ⟨b, o, none⟩ = some (.int .u8 e.kind) ∧ W.cell? ⟨b, o + 1, none⟩ = some (.int .u8 e.slot) ∧ W.cell? ⟨b, o + 2, none⟩ = some (.int .u8 e.n) ∧ W.cell? ⟨b, o + 3, none⟩ = some v ∧ StrAt W v e.bytes ∧ CapOk v ∧ SmlOk e
theorem SmlIn.mod {S : Nat → Prop} {W W' : World} {b o : Nat} {e : Sml} (h : SmlIn W b o e) (hm : Mod S W W') (hS : ∀ g, ¬ S g) : SmlIn W' b o e := by
 obtain ⟨v, h0, h1, h2, h3, h4, h5⟩ := h
 exact ⟨v, hm.cell (hS _) h0, hm.cell (hS _) h1, hm.cell (hS _) h2, hm.cell (hS _) h3, h4.mod hm hS, h5⟩
def SmallAt (W : World) (a : Option Addr) (n : Nat) (es : List Sml) : Prop := es.length = n ∧ ∀ i e, es[i]? = some e → ∃ b o, a = some ⟨b, o, none⟩ ∧ SmlIn W b (o + i * 4) e
theorem SmallAt.below {W W' : World} {a : Option Addr} {n : Nat} {es : List Sml} (h : SmallAt W a n es) (hb : Below W.heap.size W W') : SmallAt W' a n es :=
 ⟨h.1, fun i e he => by
   obtain ⟨b, o, e1, h1⟩ := h.2 i e he
   exact ⟨b, o, e1, h1.mod (S := fun _ => False) (Mod.of_same hb) (by simp)⟩⟩
theorem u8_wf {z : Int} (h : (Lit.int .u8 z).wf = true) : 0 ≤ z ∧ z ≤ 255 := by
 have h1 : IntKind.u8.min = 0 := rfl
 have h2 : IntKind.u8.max = 255 := rfl
 simp [Lit.wf, h1, h2] at h
 exact h
theorem open_smalls {H : Type} {enc : TypeId × Value → H} {W : World} {base fuel : Nat} {held : Bool} {a : Option Addr} {n c : Nat} {x : DataW H × List MemPlace}
   (h : DataW.trod enc Tryz.prog W base (fun _ => true) held fuel 32 [.slice a n c] = some x) (hsz : ∀ m ∈ x.1.weights Tryz.prog 32, m ≤ reachBytes) :
   ∃ es, SmallAt W a n es ∧ n ≤ c ∧ c ≤ maxLen ∧ ∀ e ∈ es, e.bytes.size ≤ 140737488351232 := by
 rcases open_slice Tryz.underlying32 h with ⟨hcs, _⟩ | ⟨a', len, cap, m, k, D, Pl, hcs, hb, hl, hm, hmm, rfl, hx⟩
 · simp at hcs
   obtain ⟨rfl, rfl, rfl⟩ := hcs
   exact ⟨[], ⟨rfl, fun i e he => by simp at he⟩, Nat.le_refl _, Nat.zero_le _, by simp⟩
 · simp at hcs
   obtain ⟨rfl, rfl, rfl⟩ := hcs
   simp only [if_true] at hmm
   subst hmm
   have hce : Tryz.prog.cellsOf 113 = 4 := by kernel_rfl
   have h1c : Tryz.prog.cellsOf 5 = 1 := by kernel_rfl
   have h1b : Tryz.prog.bytesOf 5 = 1 := by kernel_rfl
   rw [hce] at hx
   have each : ∀ i, i < n → ∃ q : Sml × Value, W.cell? (a'.add (i * 4)) = some (.int .u8 q.1.kind) ∧ W.cell? (a'.add (i * 4 + 1)) = some (.int .u8 q.1.slot) ∧ W.cell? (a'.add (i * 4 + 2)) = some (.int .u8 q.1.n) ∧ W.cell? (a'.add (i * 4 + 3)) = some q.2 ∧ StrAt W q.2 q.1.bytes ∧ CapOk q.2 ∧ SmlOk q.1 ∧ q.1.bytes.size ≤ 140737488351232 := by
     intro i hi
     obtain ⟨cs', h1, h2⟩ := hx i (by omega)
     obtain ⟨_, hlen, hcell⟩ := World.cells?_some h1
     obtain ⟨y0, y1, y2, y3, k2, hy, _, t0, t1, t2, t3⟩ := trod_struct4 Tryz.underlying113 h2
     match cs', hlen with
     | [v0, v1, v2, v3], _ =>
       have e0 := hcell 0 (by omega)
       have e1 := hcell 1 (by omega)
       have e2 := hcell 2 (by omega)
       have e3 := hcell 3 (by omega)
       rw [add_add] at e0 e1 e2 e3
       obtain ⟨z0, hz0, hy0, hv0⟩ := DataW.trod_int Tryz.underlying5 t0
       obtain ⟨z1, hz1, hy1, hv1⟩ := DataW.trod_int Tryz.underlying5 t1
       obtain ⟨z2, hz2, hy2, hv2⟩ := DataW.trod_int Tryz.underlying5 t2
       have k0 : Tryz.prog.cellsOf 5 = 1 := by kernel_rfl
       have k3 : Tryz.prog.cellsOf 25 = 1 := by kernel_rfl
       simp [k0, k3] at hz0 hz1 hz2 t3 e0 e1 e2 e3
       subst hz0; subst hz1; subst hz2
       have hok : ∀ B : ByteArray, SmlOk ⟨z0, z1, z2, B⟩ := fun B => ⟨u8_wf hv0, u8_wf hv1, u8_wf hv2⟩
       have hwD : ∀ m ∈ y3.1.weights Tryz.prog 25, m ≤ reachBytes := by
         intro m hm9
         refine hsz m ?_
         have hDi : D i = .agg [y0.1, y1.1, y2.1, y3.1] := congrArg Prod.fst hy
         have h9 : m ∈ (D i).weights Tryz.prog 113 := by
           rw [hDi]
           simp only [DataW.weights, Tryz.underlying113]
           exact DataW.weights_mem_each (j := 3) rfl rfl _ hm9
         simp only [DataW.weights, Tryz.underlying32]
         refine List.mem_cons_of_mem _ (List.mem_append.2 (.inl (weightsAll_mem h9 ?_)))
         exact List.mem_map.2 ⟨i, List.mem_range.2 hi, rfl⟩
       rcases open_ints Tryz.underlying25 Tryz.underlying5 h1c t3 with ⟨hcs3, _⟩ | ⟨b', l3, c3, zs, hcs3, hb3, hl3, hm3, hzl, hy3, hc3, hw3⟩
       · simp at hcs3
         subst hcs3
         exact ⟨(⟨z0, z1, z2, ByteArray.empty⟩, .slice none 0 0), e0, e1, e2, e3, StrAt.nil _, (fun _ _ _ h => by cases h; exact Nat.le_refl _), hok _, Nat.zero_le _⟩
       · simp at hcs3
         subst hcs3
         simp only [if_true] at hzl
         have hrow : IsRow .u8 W (some b') l3 c3 zs := .inr ⟨b', rfl, hl3, hm3, hzl, hc3, hw3⟩
         refine ⟨(⟨z0, z1, z2, strOfNums (zs.take l3)⟩, .slice (some b') l3 c3), e0, e1, e2, e3, ⟨_, hrow.reads.1, rfl⟩, (fun _ _ _ h => by cases h; exact hl3), hok _, ?_⟩
         have hwz := hwD (zs.length * 1) (by
           rw [hy3]
           simp only [DataW.weights, Tryz.underlying25]
           refine List.mem_cons.2 (.inl ?_)
           rw [h1b]
           simp [lits]
           omega)
         have hsz9 : (strOfNums (zs.take l3)).size ≤ zs.length := by
           simp [strOfNums, ByteArray.size]
           omega
         unfold reachBytes at hwz
         show (strOfNums (zs.take l3)).size ≤ _
         omega
   obtain ⟨L, hL, hp⟩ := choose_list n each
   refine ⟨L.map (·.1), ⟨by simpa using hL, fun i e he => ?_⟩, hl, hm, ?_⟩
   · have hi : i < L.length := by have := (List.getElem?_eq_some_iff.1 he).1; simpa using this
     rw [List.getElem?_map, List.getElem?_eq_getElem hi] at he
     injection he with he
     subst he
     obtain ⟨q0, q1, q2, q3, q4, q7, q6, q5⟩ := hp i hi
     obtain ⟨b, o, spot⟩ := a'
     have hspot : spot = none := by simpa [Addr.add] using World.cell?_spot (hp 0 (by omega)).1
     subst hspot
     rw [add_plain] at q0 q1 q2 q3
     exact ⟨b, o, rfl, L[i].2, q0, by rw [Nat.add_assoc]; exact q1, by rw [Nat.add_assoc]; exact q2, by rw [Nat.add_assoc]; exact q3, q4, q7, q6⟩
   · intro e he
     obtain ⟨q, hq, rfl⟩ := List.mem_map.1 he
     obtain ⟨i, hi, rfl⟩ := List.mem_iff_getElem.1 hq
     exact (hp i hi).2.2.2.2.2.2.2
end View
end Go.Proofs.YtdfmgneicdpjmaaGreat
