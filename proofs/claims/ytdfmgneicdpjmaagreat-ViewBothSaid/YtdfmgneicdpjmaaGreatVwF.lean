import Derived.Test.YtdfmgneicdpjmaaGreatVwE
import Derived.Test.YtdfmgneicdpjmaaGreatVwB
import Derived.Test.YtdfmgneicdpjmaaGreatVwC
import Derived.Test.YtdfmgneicdpjmaaGreatVwD
import Derived.Test.YtdfmgneicdpjmaaGreatVwA
import Derived.Test.YtdfmgneicdpjmaaGreatBegE
import Derived.Deep.Slices
import Derived.Lib.SmallJoins
import Derived.ChangeSlices
import Derived.ChangeArms
import Derived.SizedLaws
/- Rows of the law: what a write into the bytes of one leaves of another. -/
namespace Go.Proofs.YtdfmgneicdpjmaaGreat
open Go.RowKit Go.Shelf
set_option linter.unusedVariables false
set_option linter.unusedSimpArgs false
set_option maxRecDepth 100000
namespace View
open Resp

def entO : Sh Ent := ⟨38, 4, entC, Ent.bytes⟩
def Row {α : Type} (K : Sh α) (A : World) (lo hi : Nat) (v : Value) (l : List (α × Value)) : Prop := ORow K A lo v l ∧ (∀ g, v.ownBlock = some g → g < hi) ∧ ∀ g, inBytes l g → lo ≤ g ∧ g < hi
theorem Row.of {α : Type} {K : Sh α} {A : World} {lo : Nat} {v : Value} {l : List (α × Value)} (h : ORow K A lo v l) : Row K A lo A.heap.size v l :=
  ⟨h, fun g hg => (h.1.lt g hg).2, fun g ⟨x, hx, hg⟩ => by obtain ⟨zs, h5, -⟩ := h.2.1 x hx; exact h5.lt g hg⟩
theorem Row.keep {α : Type} {K : Sh α} {S : Nat → Prop} {A B : World} {lo hi : Nat} {v : Value} {l : List (α × Value)} (h : Row K A lo hi v l) (hm : Mod S A B) (hS : ∀ g, lo ≤ g → g < hi → ¬ S g) : Row K B lo hi v l := by
  obtain ⟨⟨h1, h2, h3⟩, h4, h5⟩ := h
  exact ⟨⟨ownsRow_mod h1 hm (fun g hg => hS g (h1.lt g hg).1 (h4 g hg)), fun x hx => (h2 x hx).mod hm (fun g hg => hS g (h5 g ⟨x, hx, hg⟩).1 (h5 g ⟨x, hx, hg⟩).2), h3⟩, h4, h5⟩
theorem Row.below {α : Type} {K : Sh α} {A B : World} {lo hi : Nat} {v : Value} {l : List (α × Value)} (h : Row K A lo hi v l) (hb : Below A.heap.size A B) : Row K B lo hi v l := h.keep (S := fun _ => False) (Mod.of_same hb) (by simp)
theorem ent_rows {T : TypeId} {W : World} {base : Nat} {v : Value} {l : List (Ent × Value)} {es : List Ent} (h : W.ownsRow base T 4 v l.length (entCs l)) (hs : ∀ x ∈ l, StrAt W x.2 x.1.bytes) (he : l.map Prod.fst = es) : ∃ a c, v = .slice a es.length c ∧ es.length ≤ c ∧ c ≤ maxLen ∧ ScrAt W a es.length es ∧ DatOf (fun W' => ∀ x ∈ l, StrAt W' x.2 x.1.bytes) W a es := by
  subst he
  obtain ⟨a, c, rfl⟩ := ownsRow_form h
  by_cases hn : l.length = 0
  · obtain rfl := List.length_eq_zero_iff.1 hn
    rcases h.2 with ⟨h1, h2⟩ | ⟨g', c', cur, h1, h2, h3, h4, h5, h6, h7⟩
    · cases h1
      exact ⟨none, 0, rfl, Nat.le_refl _, Nat.zero_le _, ⟨rfl, fun i e he => by simp at he⟩, fun i e b o v ha he => by simp at he⟩
    · cases h1
      exact ⟨_, _, rfl, by simp, by have := h5; omega, ⟨rfl, fun i e he => by simp at he⟩, fun i e b o v ha he => by simp at he⟩
  · obtain ⟨g, rfl, -, -, -, hlc, hcell⟩ := owns_parts h (by omega)
    have hcm : c ≤ maxLen := by
      rcases h.2 with ⟨h1, h2⟩ | ⟨g', c', cur, h1, h2, h3, h4, h5, h6, h7⟩
      · cases h1
      · cases h1; omega
    have hat : ∀ {i : Nat} (hi : i < l.length) (j : Nat) (u : Value), j < 4 → (entC l[i].1 l[i].2)[j]? = some u → W.cell? ⟨g, 0 + i * 4 + j, none⟩ = some u := by
      intro i hi j u hj hu
      rw [Nat.zero_add]
      exact hcell _ _ ((entCs_at hi hj).trans hu)
    refine ⟨some ⟨g, 0, none⟩, c, by simp, by simpa using hlc, hcm, ⟨rfl, fun i e he => ⟨g, 0, rfl, ?_⟩⟩, fun i e b o v ha he hv W' hW' => ?_⟩
    · have hi : i < l.length := by have := (List.getElem?_eq_some_iff.1 he).1; simpa using this
      rw [List.getElem?_map, List.getElem?_eq_getElem hi] at he
      injection he with he
      subst he
      exact ⟨l[i].2, hat hi 0 _ (by omega) rfl, hat hi 1 _ (by omega) rfl, hat hi 2 _ (by omega) rfl, hat hi 3 _ (by omega) rfl, hs _ (List.getElem_mem hi)⟩
    · have hi : i < l.length := by have := (List.getElem?_eq_some_iff.1 he).1; simpa using this
      rw [List.getElem?_map, List.getElem?_eq_getElem hi] at he
      injection he with he
      subst he
      cases ha
      have h9 := hat hi 3 _ (by omega) rfl
      rw [hv] at h9
      cases h9
      exact hW' _ (List.getElem_mem hi)
theorem Row.scrO {A : World} {lo hi : Nat} {v : Value} {l : List (Ent × Value)} {es : List Ent} (h : Row entO A lo hi v l) (he : l.map Prod.fst = es) : ∃ a c, v = .slice a es.length c ∧ es.length ≤ c ∧ c ≤ maxLen ∧ ScrAt A a es.length es ∧ DatOf (fun W' => ∀ x ∈ l, StrAt W' x.2 x.1.bytes) A a es := ent_rows h.1.1 (fun x hx => (h.1.2.1 x hx).str) he
theorem Row.scrR {A : World} {lo hi : Nat} {v : Value} {l : List (Ent × Value)} {es : List Ent} (h : Row entSh A lo hi v l) (he : l.map Prod.fst = es) : ∃ a c, v = .slice a es.length c ∧ es.length ≤ c ∧ c ≤ maxLen ∧ ScrAt A a es.length es ∧ DatOf (fun W' => ∀ x ∈ l, StrAt W' x.2 x.1.bytes) A a es := ent_rows h.1.1 (fun x hx => (h.1.2.1 x hx).str) he
theorem Row.scrO' {A : World} {lo hi n c : Nat} {a : Option Addr} {l : List (Ent × Value)} {es : List Ent} (h : Row entO A lo hi (.slice a n c) l) (he : l.map Prod.fst = es) : ScrAt A a es.length es := by
  obtain ⟨a', c', e, -, -, hs, -⟩ := h.scrO he
  cases e; exact hs
theorem Row.scrR' {A : World} {lo hi n c : Nat} {a : Option Addr} {l : List (Ent × Value)} {es : List Ent} (h : Row entSh A lo hi (.slice a n c) l) (he : l.map Prod.fst = es) : ScrAt A a es.length es ∧ DatOf (fun W' => ∀ x ∈ l, StrAt W' x.2 x.1.bytes) A a es := by
  obtain ⟨a', c', e, -, -, hs, hd⟩ := h.scrR he
  cases e; exact ⟨hs, hd⟩
/-- The bytes of a row can be read. -/
def Dat (l : List (Ent × Value)) (W : World) : Prop := ∀ x ∈ l, StrAt W x.2 x.1.bytes
theorem Row.dat {A : World} {lo hi : Nat} {v : Value} {l : List (Ent × Value)} (h : Row entSh A lo hi v l) : Dat l A := fun x hx => (h.1.2.1 x hx).str
theorem Row.lrow {A : World} {lo hi : Nat} {v : Value} {l : List (Ent × Value)} (h : Row entSh A lo hi v l) : LRow entSh (Dat l) A lo v l := ⟨h.1.1, fun x hx W' hW' => hW' x hx⟩
theorem entries_rows {D : World → Prop} {A : World} {lo hi base : Nat} {v v1 : Value} {l l1 : List (Ent × Value)} (h : Row entO A lo hi v l) (h1 : LRow entSh D A base v1 l1) (hb : hi ≤ base ∨ A.heap.size ≤ lo ∨ ∀ g, v1.ownBlock = some g → g < lo) (he : l.map Prod.fst = l1.map Prod.fst) (hn : l.length ≤ 100000) (hD : ∀ B, Mod (inBytes l) A B → D B) :
    Calls Tryz.prog 51 #[v, v1] A fun e w' => e = .returned (.bool true) ∧ Mod (inBytes l) A w' := by
  have hlen : l1.length = l.length := by have := congrArg List.length he; simpa using this.symm
  have hrow : ∀ B, Mod (inBytes l) A B → B.ownsRow base 158 4 v1 l1.length (entCs l1) := fun B hB => ownsRow_mod h1.1 hB (fun g hg h9 => by
    have h5 := h1.1.lt g hg
    have h6 := h.2.2 g h9
    rcases hb with h7 | h7 | h7
    · omega
    · omega
    · have := h7 g hg; omega)
  obtain ⟨a, c, rfl, -, -, -, -⟩ := ent_rows (hrow A (Mod.refl _ _)) (fun x hx => h1.2 x hx A (hD A (Mod.refl _ _))) rfl
  rw [show (List.map Prod.fst l1).length = l.length by simpa using hlen]
  refine entries_yes lo v l a c A h.1 hn (fun B hB => ?_)
  obtain ⟨a', c', e, -, -, hs, -⟩ := ent_rows (hrow B hB) (fun x hx => h1.2 x hx B (hD B hB)) rfl
  cases e
  rw [he]
  have h9 : (List.map Prod.fst l1).length = l.length := by simpa using hlen
  rw [← h9]
  exact hs
theorem moves_rows {D : World → Prop} {A : World} {lo hi base : Nat} {v v1 : Value} {l l1 : List ((Bool × ByteArray) × Value)} (h : Row movO A lo hi v l) (h1 : LRow movSh D A base v1 l1) (hb : hi ≤ base) (he : l.map Prod.fst = l1.map Prod.fst) (hn : l.length ≤ 100000) (hD : ∀ B, Mod (inBytes l) A B → D B) :
    Calls Tryz.prog 52 #[v, v1] A fun e w' => e = .returned (.bool true) ∧ Mod (inBytes l) A w' := by
  have hlen : l1.length = l.length := by have := congrArg List.length he; simpa using this.symm
  have hrow : ∀ B, Mod (inBytes l) A B → B.ownsRow base 162 2 v1 l1.length (movO.flat l1) := fun B hB => ownsRow_mod h1.1 hB (fun g hg h9 => by
    have h5 := h1.1.lt g hg
    have h6 := h.2.2 g h9
    omega)
  obtain ⟨a, c, rfl, -, -, -⟩ := movO_rows (hrow A (Mod.refl _ _)) (fun x hx => h1.2 x hx A (hD A (Mod.refl _ _)))
  rw [hlen]
  refine moves_yes lo v l a c A h.1 hn (fun B hB => ?_)
  obtain ⟨a', c', e, -, -, hs⟩ := movO_rows (hrow B hB) (fun x hx => h1.2 x hx B (hD B hB))
  cases e
  rw [he, ← hlen]
  exact hs
end View
end Go.Proofs.YtdfmgneicdpjmaaGreat

/- fermatalaw42.parts. -/
namespace Go.Proofs.YtdfmgneicdpjmaaGreat
open Go.RowKit Go.Shelf
attribute [local go_sem] Oper.semAt_some
set_option linter.unusedVariables false
set_option linter.unusedSimpArgs false
set_option maxRecDepth 100000
namespace View
open Resp

theorem slotB_zero {slot : Int} (h0 : 0 ≤ slot) (h1 : slot ≤ 4294967295) : slotB 0 slot = true := by simp [slotB, withinB, h0, h1]
theorem slotB_no {slot : Int} (h : slot < 0 ∨ 4294967295 < slot) : slotB 0 slot = false := by simp [slotB, withinB]; omega
theorem slotB_yes {n slot : Int} (h0 : 0 ≤ slot) (h1 : slot ≤ 4294967295) (h2 : 1 ≤ n) (h3 : n ≤ 8) (h4 : slot < n) : slotB n slot = true := by simp [slotB, withinB]; omega
theorem slotB_arg {n slot : Int} (h0 : 0 ≤ slot) (h1 : slot ≤ 4294967295) (h : n < 1 ∨ 8 < n ∨ n ≤ slot) (hn : ¬ n = 0) : slotB n slot = false := by simp [slotB, withinB]; omega
theorem other_len (slot : Int) (es : List Ent) : (es.filter (aloneP slot)).length ≤ es.length ∧ (es.filter (othersP slot)).length ≤ es.length := ⟨List.length_filter_le _ _, List.length_filter_le _ _⟩
theorem mv_lenE (n slot : Int) (es : List Ent) : (mv n slot es).2.length ≤ es.length := by
  have h : ∀ k, k ≤ es.length → (mv n slot (es.take k)).2.length ≤ k := by
    intro k
    induction k with
    | zero => intro _; simp [mv]
    | succ k ih =>
      intro hk
      have h1 := ih (by omega)
      rw [mv_take (by omega : k < es.length)]
      unfold mvStep
      simp only
      split
      · simp; omega
      · split
        · simp; omega
        · omega
  have := h es.length (Nat.le_refl _)
  rwa [List.take_length] at this

set_option maxHeartbeats 4000000 in
theorem parts_no (n slot : Int) (a : Option Addr) (c : Nat) (es : List Ent) (W : World) (h : ScrAt W a es.length es) (E : Int) (hE : wrg1 slot es = E) (h0 : ¬ E = 0) (hk : es.length ≤ 100000) (hb : ∀ e ∈ es, e.bytes.size ≤ 140737488351232) :
    Calls Tryz.prog 16 #[.slice a es.length c, .int .i64 n, .int .i64 slot] W fun e w' => e = .returned (.bool true) ∧ Below W.heap.size W w' := by
  have hlm : es.length ≤ maxLen := by unfold maxLen; omega
  have HE := Lib.hid hE
  have HS := Lib.hid h
  have HY := Lib.hid hb
  clear hE h hb
  go_enter Tryz.func16, Tryz.ntmps16
  go_wp2_with fail
  refine (Copy_any a es.length c es W HS.out hk HY.out).mono ?_; rintro e W1 ⟨v, rfl, ho, hb1⟩
  obtain ⟨lo, hlo, hG⟩ := ho.grown
  have HO := Lib.hid (Row.of (K := entO) hG)
  obtain ⟨ao, co, rfl, -, -, -, -⟩ := HO.out.scrO hlo
  have HLO := Lib.hid hlo
  have HB := Lib.hid hb1
  replace HS := Lib.hid (HS.out.below hb1)
  have hz1 := hb1.size
  clear ho hlo hG hb1
  go_wp2_with fail
  refine (theirs_any a es.length c es W1 HS.out hk HY.out).mono ?_; rintro e W2 ⟨v, lr, rfl, hlr, hr, hb2⟩
  have HR := Lib.hid (Row.of hr)
  obtain ⟨ar, cr, rfl, hcr1, hcr2, -, -⟩ := HR.out.scrR hlr
  have HLR := Lib.hid hlr
  replace HO := Lib.hid (HO.out.below hb2)
  replace HB := Lib.hid (below_step_ HB.out hb2)
  have hz2 := hb2.size
  clear hlr hr hb2 HS HY hcr2
  go_wp2_with fail
  refine (Check_any ao es.length co es W2 (HO.out.scrO' HLO.out) hlm).mono ?_; rintro e W3 ⟨rfl, hb3⟩
  replace HO := Lib.hid (HO.out.below hb3)
  replace HR := Lib.hid (HR.out.below hb3)
  replace HB := Lib.hid (below_step_ HB.out hb3)
  have hz3 := hb3.size
  clear hb3
  obtain ⟨ci, hci⟩ : ∃ x, x = chkI es := ⟨_, rfl⟩
  rw [← hci]
  have HCI := Lib.hid hci
  clear hci
  go_wp2_with fail
  refine (Frames_no slot ao es.length co es W3 (HO.out.scrO' HLO.out) hlm E HE.out h0).mono ?_; rintro e W4 ⟨rfl, hb4⟩
  replace HO := Lib.hid (HO.out.below hb4)
  replace HR := Lib.hid (HR.out.below hb4)
  replace HB := Lib.hid (below_step_ HB.out hb4)
  have hz4 := hb4.size
  clear hb4
  go_wp2_with fail
  refine (Moves_no n slot ao es.length co es W4 (HO.out.scrO' HLO.out) hlm E HE.out h0).mono ?_; rintro e W5 ⟨rfl, hb5⟩
  replace HO := Lib.hid (HO.out.below hb5)
  replace HR := Lib.hid (HR.out.below hb5)
  replace HB := Lib.hid (below_step_ HB.out hb5)
  have hz5 := hb5.size
  clear hb5
  go_wp2_with fail
  refine (Alone_no slot ao es.length co es W5 (HO.out.scrO' HLO.out) hlm E HE.out h0).mono ?_; rintro e W6 ⟨rfl, hb6⟩
  replace HO := Lib.hid (HO.out.below hb6)
  replace HR := Lib.hid (HR.out.below hb6)
  replace HB := Lib.hid (below_step_ HB.out hb6)
  have hz6 := hb6.size
  clear hb6
  go_wp2_with fail
  refine (Others_no slot ao es.length co es W6 (HO.out.scrO' HLO.out) hlm E HE.out h0).mono ?_; rintro e W7 ⟨rfl, hb7⟩
  replace HO := Lib.hid (HO.out.below hb7)
  replace HR := Lib.hid (HR.out.below hb7)
  replace HB := Lib.hid (below_step_ HB.out hb7)
  have hz7 := hb7.size
  clear hb7
  go_wp2_with fail
  refine (CheckR_any ar es.length cr es W7 (HR.out.scrR' HLR.out).1 hlm).mono ?_; rintro e W8 ⟨rfl, hb8⟩
  replace HO := Lib.hid (HO.out.below hb8)
  replace HR := Lib.hid (HR.out.below hb8)
  replace HB := Lib.hid (below_step_ HB.out hb8)
  have hz8 := hb8.size
  clear hb8
  rw [← HCI.out]
  by_cases hc : chkE es = 0
  · have HC := Lib.hid hc
    rw [hc]
    have hsl : slot < 0 ∨ 4294967295 < slot := by have h9 := HE.out; unfold wrg1 at h9; rw [if_pos hc] at h9; by_cases h8 : slot < 0 ∨ 4294967295 < slot; exact h8; rw [if_neg h8] at h9; exact absurd h9.symm h0
    obtain rfl : E = 2 := by have h9 := HE.out; unfold wrg1 at h9; rw [if_pos hc, if_pos hsl] at h9; exact h9.symm
    clear hc
    go_wp2_with fail
    refine (SlotR_any 0 slot W8).mono ?_; rintro e W9 ⟨rfl, rfl⟩
    rw [slotB_no hsl]
    clear hsl
    go_wp2_with fail
    go_ret
    exact ⟨rfl, HB.out⟩
  · obtain ⟨E2, hE2⟩ : ∃ x, x = chkE es := ⟨_, rfl⟩
    obtain rfl : E2 = E := by have h9 := HE.out; unfold wrg1 at h9; rw [if_neg hc] at h9; rw [hE2]; exact h9
    rw [← hE2]
    clear hc hE2
    have h0' : ¬ (0 : Int) = E2 := fun h => h0 h.symm
    go_wp2_with fail
    go_ret
    exact ⟨rfl, HB.out⟩

set_option maxHeartbeats 4000000 in
theorem parts_arg (n slot : Int) (a : Option Addr) (c : Nat) (es : List Ent) (W : World) (h : ScrAt W a es.length es) (hE : wrg1 slot es = 0) (h0 : n < 1 ∨ 8 < n ∨ n ≤ slot) :
    Calls Tryz.prog 16 #[.slice a es.length c, .int .i64 n, .int .i64 slot] W fun e w' => e = .returned (.bool true) ∧ Below W.heap.size W w' := by
  obtain ⟨hl4, hcl⟩ := chk_ok (wrg1_ok hE).1
  have hck := (wrg1_ok hE).1
  have hs0 := (wrg1_ok hE).2.1
  have hs1 := (wrg1_ok hE).2.2
  have hb : ∀ e ∈ es, e.bytes.size ≤ 140737488351232 := fun e he => by have := clean_size (hcl e he); omega
  have hk : es.length ≤ 100000 := by omega
  clear hcl
  have HCK := Lib.hid hck
  clear hck
  have hlm : es.length ≤ maxLen := by unfold maxLen; omega
  have HE := Lib.hid hE
  have HS := Lib.hid h
  have HY := Lib.hid hb
  clear hE h hb
  go_enter Tryz.func16, Tryz.ntmps16
  go_wp2_with fail
  refine (Copy_any a es.length c es W HS.out hk HY.out).mono ?_; rintro e W1 ⟨v, rfl, ho, hb1⟩
  obtain ⟨lo, hlo, hG⟩ := ho.grown
  have HO := Lib.hid (Row.of (K := entO) hG)
  obtain ⟨ao, co, rfl, -, -, -, -⟩ := HO.out.scrO hlo
  have HLO := Lib.hid hlo
  have HB := Lib.hid hb1
  replace HS := Lib.hid (HS.out.below hb1)
  have hz1 := hb1.size
  clear ho hlo hG hb1
  go_wp2_with fail
  refine (theirs_any a es.length c es W1 HS.out hk HY.out).mono ?_; rintro e W2 ⟨v, lr, rfl, hlr, hr, hb2⟩
  have HR := Lib.hid (Row.of hr)
  obtain ⟨ar, cr, rfl, hcr1, hcr2, -, -⟩ := HR.out.scrR hlr
  have HLR := Lib.hid hlr
  replace HO := Lib.hid (HO.out.below hb2)
  replace HB := Lib.hid (below_step_ HB.out hb2)
  have hz2 := hb2.size
  clear hlr hr hb2 HS HY hcr2
  go_wp2_with fail
  refine (Check_any ao es.length co es W2 (HO.out.scrO' HLO.out) hlm).mono ?_; rintro e W3 ⟨rfl, hb3⟩
  replace HO := Lib.hid (HO.out.below hb3)
  replace HR := Lib.hid (HR.out.below hb3)
  replace HB := Lib.hid (below_step_ HB.out hb3)
  have hz3 := hb3.size
  clear hb3
  rw [HCK.out]
  obtain ⟨ci, hci⟩ : ∃ x, x = chkI es := ⟨_, rfl⟩
  rw [← hci]
  have HCI := Lib.hid hci
  clear hci
  go_wp2_with fail
  refine (Frames_yes slot ao es.length co es W3 (HO.out.scrO' HLO.out) hlm HE.out).mono ?_; rintro e W4 ⟨v, lf, rfl, hlf, hof, hb4⟩
  have HF := Lib.hid (Row.of hof)
  obtain ⟨af, cf, rfl, -, -, -⟩ := hof.rows
  have HLF := Lib.hid hlf
  have hlf4 : lf.length ≤ 4000 := by have h1 := congrArg List.length hlf; rw [List.length_map] at h1; have := framesL_len slot es; omega
  replace HO := Lib.hid (HO.out.below hb4)
  replace HR := Lib.hid (HR.out.below hb4)
  replace HB := Lib.hid (below_step_ HB.out hb4)
  have hz4 := hb4.size
  clear hlf hof hb4
  obtain ⟨kf, hkf⟩ : ∃ x, x = lf.length := ⟨_, rfl⟩
  rw [← hkf] at hlf4 HF ⊢
  have HKF := Lib.hid hkf
  clear hkf
  go_wp2_with fail
  refine (Moves_arg n slot ao es.length co es W4 (HO.out.scrO' HLO.out) hlm HE.out h0).mono ?_; rintro e W5 ⟨rfl, hb5⟩
  replace HO := Lib.hid (HO.out.below hb5)
  replace HR := Lib.hid (HR.out.below hb5)
  replace HF := Lib.hid (HF.out.below hb5)
  replace HB := Lib.hid (below_step_ HB.out hb5)
  have hz5 := hb5.size
  clear hb5
  go_wp2_with fail
  refine (Alone_yes slot ao es.length co es W5 (HO.out.scrO' HLO.out) hlm HE.out).mono ?_; rintro e W6 ⟨v, rfl, hoa, hb6⟩
  obtain ⟨la, hla, hga⟩ := hoa.grown
  have HA := Lib.hid (Row.of (K := entO) hga)
  obtain ⟨aa, ca, rfl, -, -, -, -⟩ := HA.out.scrO hla
  have HLA := Lib.hid hla
  replace HO := Lib.hid (HO.out.below hb6)
  replace HR := Lib.hid (HR.out.below hb6)
  replace HF := Lib.hid (HF.out.below hb6)
  replace HB := Lib.hid (below_step_ HB.out hb6)
  have hz6 := hb6.size
  clear hoa hla hga hb6
  go_wp2_with fail
  refine (Others_yes slot ao es.length co es W6 (HO.out.scrO' HLO.out) hlm HE.out).mono ?_; rintro e W7 ⟨v, rfl, hoa, hb7⟩
  obtain ⟨lt, hlt, hga⟩ := hoa.grown
  have HT := Lib.hid (Row.of (K := entO) hga)
  obtain ⟨at7, ct, rfl, -, -, -, -⟩ := HT.out.scrO hlt
  have HLT := Lib.hid hlt
  replace HO := Lib.hid (HO.out.below hb7)
  replace HR := Lib.hid (HR.out.below hb7)
  replace HF := Lib.hid (HF.out.below hb7)
  replace HA := Lib.hid (HA.out.below hb7)
  replace HB := Lib.hid (below_step_ HB.out hb7)
  have hz7 := hb7.size
  clear hoa hlt hga hb7
  go_wp2_with fail
  refine (CheckR_any ar es.length cr es W7 (HR.out.scrR' HLR.out).1 hlm).mono ?_; rintro e W8 ⟨rfl, hb8⟩
  replace HO := Lib.hid (HO.out.below hb8)
  replace HR := Lib.hid (HR.out.below hb8)
  replace HF := Lib.hid (HF.out.below hb8)
  replace HA := Lib.hid (HA.out.below hb8)
  replace HT := Lib.hid (HT.out.below hb8)
  replace HB := Lib.hid (below_step_ HB.out hb8)
  have hz8 := hb8.size
  clear hb8
  rw [HCK.out]
  rw [← HCI.out]
  go_wp2_with fail
  refine (SlotR_any 0 slot W8).mono ?_; rintro e W9 ⟨rfl, rfl⟩
  rw [slotB_zero hs0 hs1]
  go_wp2_with fail
  obtain ⟨hsr, hdr⟩ := HR.out.scrR' HLR.out
  refine (PartsR_any slot ar es.length cr es W8 hsr hl4 (Dat lr) hdr).mono ?_; rintro e W9 ⟨v1, v2, l1, l2, rfl, hl1, hl2, hr1, hr2, hb9⟩
  clear hsr hdr
  have HLR1 := Lib.hid hr1
  have HLR2 := Lib.hid hr2
  have HL1 := Lib.hid hl1
  have HL2 := Lib.hid hl2
  replace HO := Lib.hid (HO.out.below hb9)
  replace HR := Lib.hid (HR.out.below hb9)
  replace HF := Lib.hid (HF.out.below hb9)
  replace HA := Lib.hid (HA.out.below hb9)
  replace HT := Lib.hid (HT.out.below hb9)
  replace HB := Lib.hid (below_step_ HB.out hb9)
  have hz9 := hb9.size
  clear hl1 hl2 hr1 hr2 hb9
  go_wp2_with fail
  obtain ⟨hsr, hdr⟩ := HR.out.scrR' HLR.out
  refine (FramesR_any slot ar es.length cr es W9 hsr hl4 (Dat lr) hdr).mono ?_; rintro e W10 ⟨vw, lw, rfl, hlw, hrw, hb10⟩
  clear hsr hdr
  replace HO := Lib.hid (HO.out.below hb10)
  replace HR := Lib.hid (HR.out.below hb10)
  replace HF := Lib.hid (HF.out.below hb10)
  replace HA := Lib.hid (HA.out.below hb10)
  replace HT := Lib.hid (HT.out.below hb10)
  replace HLR1 := Lib.hid (HLR1.out.below hb10)
  replace HLR2 := Lib.hid (HLR2.out.below hb10)
  replace HB := Lib.hid (below_step_ HB.out hb10)
  have hz10 := hb10.size
  obtain ⟨aw, cw, rfl, -, -, hww⟩ := bytes_rows hrw.1 (fun x hx => hrw.2 x hx W10 HR.out.dat)
  obtain ⟨af2, cf2, ef, -, -, hff⟩ := HF.out.1.rows
  rw [← HKF.out] at ef hff
  cases ef
  rw [HLF.out] at hff
  rw [hlw] at hww
  have HWW := Lib.hid hww
  have HFF := Lib.hid hff
  obtain ⟨kw, hkw⟩ : ∃ x, x = lw.length := ⟨_, rfl⟩
  rw [← hkw] at HWW ⊢
  clear hlw hrw hb10 hww hff hkw HF HKF HLF
  go_wp2_with fail
  refine (EqualFunc_any af aw kf kw cf cw _ _ W10 HFF.out HWW.out (by omega)).mono ?_; rintro e W11 ⟨rfl, hb11⟩
  rw [decide_eq_true rfl]
  replace HO := Lib.hid (HO.out.below hb11)
  replace HR := Lib.hid (HR.out.below hb11)
  replace HA := Lib.hid (HA.out.below hb11)
  replace HT := Lib.hid (HT.out.below hb11)
  replace HLR1 := Lib.hid (HLR1.out.below hb11)
  replace HLR2 := Lib.hid (HLR2.out.below hb11)
  replace HB := Lib.hid (below_step_ HB.out hb11)
  have hz11 := hb11.size
  clear hb11 HFF HWW
  go_wp2_with fail
  have hla4 : la.length ≤ 100000 := by have h1 := congrArg List.length HLA.out; rw [List.length_map] at h1; have := (other_len slot es).1; omega
  refine (entries_rows HA.out HLR1.out (.inl (by omega)) (HLA.out.trans HL1.out.symm) hla4 (fun B hB => (HR.out.keep hB (fun g h1 h2 h3 => by have h8 := HA.out.2.2 g h3; omega)).dat)).mono ?_; rintro e W12 ⟨rfl, hm12⟩
  replace HO := Lib.hid (HO.out.keep hm12 (fun g h1 h2 h3 => by have h8 := HA.out.2.2 g h3; omega))
  replace HR := Lib.hid (HR.out.keep hm12 (fun g h1 h2 h3 => by have h8 := HA.out.2.2 g h3; omega))
  replace HT := Lib.hid (HT.out.keep hm12 (fun g h1 h2 h3 => by have h8 := HA.out.2.2 g h3; omega))
  replace HLR2 := Lib.hid (HLR2.out.keep hm12 (fun g hg h3 => by have h8 := HA.out.2.2 g h3; have h9 := HLR2.out.1.lt g hg; omega))
  replace HB := Lib.hid (HB.out.trans (hm12.below HB.out.size (fun k hk h => by have h8 := HA.out.2.2 k h; omega)))
  have hz12 := hm12.size
  clear hm12 HA HLR1 hla4
  go_wp2_with fail
  have hlt4 : lt.length ≤ 100000 := by have h1 := congrArg List.length HLT.out; rw [List.length_map] at h1; have := (other_len slot es).2; omega
  refine (entries_rows HT.out HLR2.out (.inl (by omega)) (HLT.out.trans HL2.out.symm) hlt4 (fun B hB => (HR.out.keep hB (fun g h1 h2 h3 => by have h8 := HT.out.2.2 g h3; omega)).dat)).mono ?_; rintro e W13 ⟨rfl, hm13⟩
  replace HO := Lib.hid (HO.out.keep hm13 (fun g h1 h2 h3 => by have h8 := HT.out.2.2 g h3; omega))
  replace HR := Lib.hid (HR.out.keep hm13 (fun g h1 h2 h3 => by have h8 := HT.out.2.2 g h3; omega))
  replace HB := Lib.hid (HB.out.trans (hm13.below HB.out.size (fun k hk h => by have h8 := HT.out.2.2 k h; omega)))
  have hz13 := hm13.size
  clear hm13 HT HLR2 hlt4
  go_wp2_with fail
  refine (SlotR_any n slot W13).mono ?_; rintro e W14 ⟨rfl, rfl⟩
  have hlo4 : lo.length ≤ 100000 := by have h1 := congrArg List.length HLO.out; rw [List.length_map] at h1; omega
  by_cases hn0 : n = 0
  · subst hn0
    rw [slotB_zero hs0 hs1]
    go_wp2_with fail
    refine (entries_rows HO.out HR.out.lrow (.inl (by omega)) (HLO.out.trans HLR.out.symm) hlo4 (fun B hB => (HR.out.keep hB (fun g h1 h2 h3 => by have h8 := HO.out.2.2 g h3; omega)).dat)).mono ?_; rintro e W20 ⟨rfl, hm20⟩
    have HBZ := Lib.hid (HB.out.trans (hm20.below HB.out.size (fun k hk h => by have h8 := HO.out.2.2 k h; omega)))
    clear hm20
    go_wp2_with fail
    go_ret
    exact ⟨rfl, HBZ.out⟩
  · rw [slotB_arg hs0 hs1 h0 hn0]
    go_wp2_with fail
    refine (entries_rows HO.out HR.out.lrow (.inl (by omega)) (HLO.out.trans HLR.out.symm) hlo4 (fun B hB => (HR.out.keep hB (fun g h1 h2 h3 => by have h8 := HO.out.2.2 g h3; omega)).dat)).mono ?_; rintro e W20 ⟨rfl, hm20⟩
    have HBZ := Lib.hid (HB.out.trans (hm20.below HB.out.size (fun k hk h => by have h8 := HO.out.2.2 k h; omega)))
    clear hm20
    go_wp2_with fail
    go_ret
    exact ⟨rfl, HBZ.out⟩
set_option maxHeartbeats 4000000 in
theorem parts_yes (n slot : Int) (a : Option Addr) (c : Nat) (es : List Ent) (W : World) (h : ScrAt W a es.length es) (hE : wrg1 slot es = 0) (hn1 : 1 ≤ n) (hn8 : n ≤ 8) (hsn : slot < n) :
    Calls Tryz.prog 16 #[.slice a es.length c, .int .i64 n, .int .i64 slot] W fun e w' => e = .returned (.bool true) ∧ Below W.heap.size W w' := by
  obtain ⟨hl4, hcl⟩ := chk_ok (wrg1_ok hE).1
  have hck := (wrg1_ok hE).1
  have hs0 := (wrg1_ok hE).2.1
  have hs1 := (wrg1_ok hE).2.2
  have hb : ∀ e ∈ es, e.bytes.size ≤ 140737488351232 := fun e he => by have := clean_size (hcl e he); omega
  have hk : es.length ≤ 100000 := by omega
  clear hcl
  have HCK := Lib.hid hck
  clear hck
  have hlm : es.length ≤ maxLen := by unfold maxLen; omega
  have HE := Lib.hid hE
  have HS := Lib.hid h
  have HY := Lib.hid hb
  clear hE h hb
  go_enter Tryz.func16, Tryz.ntmps16
  go_wp2_with fail
  refine (Copy_any a es.length c es W HS.out hk HY.out).mono ?_; rintro e W1 ⟨v, rfl, ho, hb1⟩
  obtain ⟨lo, hlo, hG⟩ := ho.grown
  have HO := Lib.hid (Row.of (K := entO) hG)
  obtain ⟨ao, co, rfl, -, -, -, -⟩ := HO.out.scrO hlo
  have HLO := Lib.hid hlo
  have HB := Lib.hid hb1
  replace HS := Lib.hid (HS.out.below hb1)
  have hz1 := hb1.size
  clear ho hlo hG hb1
  go_wp2_with fail
  refine (theirs_any a es.length c es W1 HS.out hk HY.out).mono ?_; rintro e W2 ⟨v, lr, rfl, hlr, hr, hb2⟩
  have HR := Lib.hid (Row.of hr)
  obtain ⟨ar, cr, rfl, hcr1, hcr2, -, -⟩ := HR.out.scrR hlr
  have HLR := Lib.hid hlr
  replace HO := Lib.hid (HO.out.below hb2)
  replace HB := Lib.hid (below_step_ HB.out hb2)
  have hz2 := hb2.size
  clear hlr hr hb2 HS HY hcr2
  go_wp2_with fail
  refine (Check_any ao es.length co es W2 (HO.out.scrO' HLO.out) hlm).mono ?_; rintro e W3 ⟨rfl, hb3⟩
  replace HO := Lib.hid (HO.out.below hb3)
  replace HR := Lib.hid (HR.out.below hb3)
  replace HB := Lib.hid (below_step_ HB.out hb3)
  have hz3 := hb3.size
  clear hb3
  rw [HCK.out]
  obtain ⟨ci, hci⟩ : ∃ x, x = chkI es := ⟨_, rfl⟩
  rw [← hci]
  have HCI := Lib.hid hci
  clear hci
  go_wp2_with fail
  refine (Frames_yes slot ao es.length co es W3 (HO.out.scrO' HLO.out) hlm HE.out).mono ?_; rintro e W4 ⟨v, lf, rfl, hlf, hof, hb4⟩
  have HF := Lib.hid (Row.of hof)
  obtain ⟨af, cf, rfl, -, -, -⟩ := hof.rows
  have HLF := Lib.hid hlf
  have hlf4 : lf.length ≤ 4000 := by have h1 := congrArg List.length hlf; rw [List.length_map] at h1; have := framesL_len slot es; omega
  replace HO := Lib.hid (HO.out.below hb4)
  replace HR := Lib.hid (HR.out.below hb4)
  replace HB := Lib.hid (below_step_ HB.out hb4)
  have hz4 := hb4.size
  clear hlf hof hb4
  obtain ⟨kf, hkf⟩ : ∃ x, x = lf.length := ⟨_, rfl⟩
  rw [← hkf] at hlf4 HF ⊢
  have HKF := Lib.hid hkf
  clear hkf
  go_wp2_with fail
  refine (Moves_yes n slot hn1 hn8 hsn ao es.length co es W4 (HO.out.scrO' HLO.out) hlm HE.out).mono ?_; rintro e W5 ⟨v, lm, rfl, hlmv, hom, hb5⟩
  have HM := Lib.hid (Row.of hom.row)
  obtain ⟨am, cm, rfl, -, -, -⟩ := hom.row.mvs
  have HLM := Lib.hid hlmv
  have hlm4 : lm.length ≤ 4000 := by have h1 := congrArg List.length hlmv; rw [List.length_map] at h1; have := mv_lenE n slot es; omega
  replace HO := Lib.hid (HO.out.below hb5)
  replace HR := Lib.hid (HR.out.below hb5)
  replace HF := Lib.hid (HF.out.below hb5)
  replace HB := Lib.hid (below_step_ HB.out hb5)
  have hz5 := hb5.size
  clear hlmv hom hb5
  obtain ⟨km, hkm⟩ : ∃ x, x = lm.length := ⟨_, rfl⟩
  rw [← hkm] at hlm4 HM ⊢
  have HKM := Lib.hid hkm
  clear hkm
  go_wp2_with fail
  refine (Alone_yes slot ao es.length co es W5 (HO.out.scrO' HLO.out) hlm HE.out).mono ?_; rintro e W6 ⟨v, rfl, hoa, hb6⟩
  obtain ⟨la, hla, hga⟩ := hoa.grown
  have HA := Lib.hid (Row.of (K := entO) hga)
  obtain ⟨aa, ca, rfl, -, -, -, -⟩ := HA.out.scrO hla
  have HLA := Lib.hid hla
  replace HO := Lib.hid (HO.out.below hb6)
  replace HR := Lib.hid (HR.out.below hb6)
  replace HF := Lib.hid (HF.out.below hb6)
  replace HM := Lib.hid (HM.out.below hb6)
  replace HB := Lib.hid (below_step_ HB.out hb6)
  have hz6 := hb6.size
  clear hoa hla hga hb6
  go_wp2_with fail
  refine (Others_yes slot ao es.length co es W6 (HO.out.scrO' HLO.out) hlm HE.out).mono ?_; rintro e W7 ⟨v, rfl, hoa, hb7⟩
  obtain ⟨lt, hlt, hga⟩ := hoa.grown
  have HT := Lib.hid (Row.of (K := entO) hga)
  obtain ⟨at7, ct, rfl, -, -, -, -⟩ := HT.out.scrO hlt
  have HLT := Lib.hid hlt
  replace HO := Lib.hid (HO.out.below hb7)
  replace HR := Lib.hid (HR.out.below hb7)
  replace HF := Lib.hid (HF.out.below hb7)
  replace HM := Lib.hid (HM.out.below hb7)
  replace HA := Lib.hid (HA.out.below hb7)
  replace HB := Lib.hid (below_step_ HB.out hb7)
  have hz7 := hb7.size
  clear hoa hlt hga hb7
  go_wp2_with fail
  refine (CheckR_any ar es.length cr es W7 (HR.out.scrR' HLR.out).1 hlm).mono ?_; rintro e W8 ⟨rfl, hb8⟩
  replace HO := Lib.hid (HO.out.below hb8)
  replace HR := Lib.hid (HR.out.below hb8)
  replace HF := Lib.hid (HF.out.below hb8)
  replace HM := Lib.hid (HM.out.below hb8)
  replace HA := Lib.hid (HA.out.below hb8)
  replace HT := Lib.hid (HT.out.below hb8)
  replace HB := Lib.hid (below_step_ HB.out hb8)
  have hz8 := hb8.size
  clear hb8
  rw [HCK.out]
  rw [← HCI.out]
  go_wp2_with fail
  refine (SlotR_any 0 slot W8).mono ?_; rintro e W9 ⟨rfl, rfl⟩
  rw [slotB_zero hs0 hs1]
  go_wp2_with fail
  obtain ⟨hsr, hdr⟩ := HR.out.scrR' HLR.out
  refine (PartsR_any slot ar es.length cr es W8 hsr hl4 (Dat lr) hdr).mono ?_; rintro e W9 ⟨v1, v2, l1, l2, rfl, hl1, hl2, hr1, hr2, hb9⟩
  clear hsr hdr
  have HLR1 := Lib.hid hr1
  have HLR2 := Lib.hid hr2
  have HL1 := Lib.hid hl1
  have HL2 := Lib.hid hl2
  replace HO := Lib.hid (HO.out.below hb9)
  replace HR := Lib.hid (HR.out.below hb9)
  replace HF := Lib.hid (HF.out.below hb9)
  replace HM := Lib.hid (HM.out.below hb9)
  replace HA := Lib.hid (HA.out.below hb9)
  replace HT := Lib.hid (HT.out.below hb9)
  replace HB := Lib.hid (below_step_ HB.out hb9)
  have hz9 := hb9.size
  clear hl1 hl2 hr1 hr2 hb9
  go_wp2_with fail
  obtain ⟨hsr, hdr⟩ := HR.out.scrR' HLR.out
  refine (FramesR_any slot ar es.length cr es W9 hsr hl4 (Dat lr) hdr).mono ?_; rintro e W10 ⟨vw, lw, rfl, hlw, hrw, hb10⟩
  clear hsr hdr
  replace HO := Lib.hid (HO.out.below hb10)
  replace HR := Lib.hid (HR.out.below hb10)
  replace HF := Lib.hid (HF.out.below hb10)
  replace HM := Lib.hid (HM.out.below hb10)
  replace HA := Lib.hid (HA.out.below hb10)
  replace HT := Lib.hid (HT.out.below hb10)
  replace HLR1 := Lib.hid (HLR1.out.below hb10)
  replace HLR2 := Lib.hid (HLR2.out.below hb10)
  replace HB := Lib.hid (below_step_ HB.out hb10)
  have hz10 := hb10.size
  obtain ⟨aw, cw, rfl, -, -, hww⟩ := bytes_rows hrw.1 (fun x hx => hrw.2 x hx W10 HR.out.dat)
  obtain ⟨af2, cf2, ef, -, -, hff⟩ := HF.out.1.rows
  rw [← HKF.out] at ef hff
  cases ef
  rw [HLF.out] at hff
  rw [hlw] at hww
  have HWW := Lib.hid hww
  have HFF := Lib.hid hff
  obtain ⟨kw, hkw⟩ : ∃ x, x = lw.length := ⟨_, rfl⟩
  rw [← hkw] at HWW ⊢
  clear hlw hrw hb10 hww hff hkw HF HKF HLF
  go_wp2_with fail
  refine (EqualFunc_any af aw kf kw cf cw _ _ W10 HFF.out HWW.out (by omega)).mono ?_; rintro e W11 ⟨rfl, hb11⟩
  rw [decide_eq_true rfl]
  replace HO := Lib.hid (HO.out.below hb11)
  replace HR := Lib.hid (HR.out.below hb11)
  replace HM := Lib.hid (HM.out.below hb11)
  replace HA := Lib.hid (HA.out.below hb11)
  replace HT := Lib.hid (HT.out.below hb11)
  replace HLR1 := Lib.hid (HLR1.out.below hb11)
  replace HLR2 := Lib.hid (HLR2.out.below hb11)
  replace HB := Lib.hid (below_step_ HB.out hb11)
  have hz11 := hb11.size
  clear hb11 HFF HWW
  go_wp2_with fail
  have hla4 : la.length ≤ 100000 := by have h1 := congrArg List.length HLA.out; rw [List.length_map] at h1; have := (other_len slot es).1; omega
  refine (entries_rows HA.out HLR1.out (.inl (by omega)) (HLA.out.trans HL1.out.symm) hla4 (fun B hB => (HR.out.keep hB (fun g h1 h2 h3 => by have h8 := HA.out.2.2 g h3; omega)).dat)).mono ?_; rintro e W12 ⟨rfl, hm12⟩
  replace HO := Lib.hid (HO.out.keep hm12 (fun g h1 h2 h3 => by have h8 := HA.out.2.2 g h3; omega))
  replace HR := Lib.hid (HR.out.keep hm12 (fun g h1 h2 h3 => by have h8 := HA.out.2.2 g h3; omega))
  replace HM := Lib.hid (HM.out.keep hm12 (fun g h1 h2 h3 => by have h8 := HA.out.2.2 g h3; omega))
  replace HT := Lib.hid (HT.out.keep hm12 (fun g h1 h2 h3 => by have h8 := HA.out.2.2 g h3; omega))
  replace HLR2 := Lib.hid (HLR2.out.keep hm12 (fun g hg h3 => by have h8 := HA.out.2.2 g h3; have h9 := HLR2.out.1.lt g hg; omega))
  replace HB := Lib.hid (HB.out.trans (hm12.below HB.out.size (fun k hk h => by have h8 := HA.out.2.2 k h; omega)))
  have hz12 := hm12.size
  clear hm12 HA HLR1 hla4
  go_wp2_with fail
  have hlt4 : lt.length ≤ 100000 := by have h1 := congrArg List.length HLT.out; rw [List.length_map] at h1; have := (other_len slot es).2; omega
  refine (entries_rows HT.out HLR2.out (.inl (by omega)) (HLT.out.trans HL2.out.symm) hlt4 (fun B hB => (HR.out.keep hB (fun g h1 h2 h3 => by have h8 := HT.out.2.2 g h3; omega)).dat)).mono ?_; rintro e W13 ⟨rfl, hm13⟩
  replace HO := Lib.hid (HO.out.keep hm13 (fun g h1 h2 h3 => by have h8 := HT.out.2.2 g h3; omega))
  replace HR := Lib.hid (HR.out.keep hm13 (fun g h1 h2 h3 => by have h8 := HT.out.2.2 g h3; omega))
  replace HM := Lib.hid (HM.out.keep hm13 (fun g h1 h2 h3 => by have h8 := HT.out.2.2 g h3; omega))
  replace HB := Lib.hid (HB.out.trans (hm13.below HB.out.size (fun k hk h => by have h8 := HT.out.2.2 k h; omega)))
  have hz13 := hm13.size
  clear hm13 HT HLR2 hlt4
  go_wp2_with fail
  refine (SlotR_any n slot W13).mono ?_; rintro e W14 ⟨rfl, rfl⟩
  have hlo4 : lo.length ≤ 100000 := by have h1 := congrArg List.length HLO.out; rw [List.length_map] at h1; omega
  rw [slotB_yes hs0 hs1 hn1 hn8 hsn]
  have hn0 : ¬ n = 0 := by omega
  go_wp2_with fail
  obtain ⟨hsr, hdr⟩ := HR.out.scrR' HLR.out
  refine (MovesR_any n slot hn1 hn8 ar es.length cr es W13 hsr hl4 hcr1 (Dat lr) hdr).mono ?_; rintro e W15 ⟨vm2, lm2, rfl, hlm2, hrm, hb15⟩
  clear hsr hdr
  have HLRM := Lib.hid hrm
  have HLM2 := Lib.hid hlm2
  replace HO := Lib.hid (HO.out.below hb15)
  replace HR := Lib.hid (HR.out.below hb15)
  replace HM := Lib.hid (HM.out.below hb15)
  replace HB := Lib.hid (below_step_ HB.out hb15)
  have hz15 := hb15.size
  clear hlm2 hrm hb15
  go_wp2_with fail
  rw [HKM.out] at HM hlm4 ⊢
  refine (moves_rows HM.out HLRM.out (by omega) (HLM.out.trans HLM2.out.symm) (by omega) (fun B hB => (HR.out.keep hB (fun g h1 h2 h3 => by have h8 := HM.out.2.2 g h3; omega)).dat)).mono ?_; rintro e W16 ⟨rfl, hm16⟩
  replace HO := Lib.hid (HO.out.keep hm16 (fun g h1 h2 h3 => by have h8 := HM.out.2.2 g h3; omega))
  replace HR := Lib.hid (HR.out.keep hm16 (fun g h1 h2 h3 => by have h8 := HM.out.2.2 g h3; omega))
  replace HB := Lib.hid (HB.out.trans (hm16.below HB.out.size (fun k hk h => by have h8 := HM.out.2.2 k h; omega)))
  have hz16 := hm16.size
  clear hm16 HM HLRM
  go_wp2_with fail
  refine (entries_rows HO.out HR.out.lrow (.inl (by omega)) (HLO.out.trans HLR.out.symm) hlo4 (fun B hB => (HR.out.keep hB (fun g h1 h2 h3 => by have h8 := HO.out.2.2 g h3; omega)).dat)).mono ?_; rintro e W20 ⟨rfl, hm20⟩
  have HBZ := Lib.hid (HB.out.trans (hm20.below HB.out.size (fun k hk h => by have h8 := HO.out.2.2 k h; omega)))
  clear hm20
  go_wp2_with fail
  go_ret
  exact ⟨rfl, HBZ.out⟩
end View
end Go.Proofs.YtdfmgneicdpjmaaGreat

/- The examples of layer 42. -/
namespace Go.Proofs.YtdfmgneicdpjmaaGreat
open Go.RowKit Go.Shelf
set_option linter.unusedVariables false
set_option linter.unusedSimpArgs false
set_option maxRecDepth 100000
namespace View
open Resp

def b7 : ByteArray := ⟨#[7]⟩
def b8 : ByteArray := ⟨#[8]⟩
def exL : List Ent := [⟨1, 0, 0, b7⟩, ⟨2, 0, 0, ByteArray.empty⟩, ⟨1, 1, 0, b8⟩, ⟨3, 0, 3, ByteArray.empty⟩, ⟨2, 0, 0, ByteArray.empty⟩]
def exC : List Ent := [⟨1, 0, 0, b7⟩, ⟨2, 0, 0, ByteArray.empty⟩, ⟨2, 0, 0, ByteArray.empty⟩]
def exD : List Ent := [⟨1, 1, 0, b8⟩, ⟨3, 0, 3, ByteArray.empty⟩]
theorem ex_wrg0 : wrg1 0 exL = 0 := by decide +kernel
theorem ex_wrg1 : wrg1 1 exL = 0 := by decide +kernel
theorem ex_mv0 : (mv 2 0 exL).2 = [(false, b7), (true, ByteArray.empty)] := by decide +kernel
theorem ex_mv1 : (mv 2 1 exL).2 = [(false, b8), (true, ByteArray.empty)] := by decide +kernel
theorem ex_alone : exL.filter (aloneP 0) = exC := by decide +kernel
theorem ex_others : exL.filter (othersP 0) = exD := by decide +kernel
theorem ex_mix : mixP 0 exC (exD.zip [2, 2]) = exL := by decide +kernel
theorem ex_cd : wrg2 0 exC exD = 0 ∧ atOk 3 2 [2, 2] = true := by decide +kernel
theorem ex_lc : wrg2 0 exL exC = 0 ∧ wrg2 1 exL exC = 0 := by decide +kernel
theorem ex_alike : decide ((mv 2 0 exL).2 = (mv 2 0 exC).2) = true := by decide +kernel
theorem ex_agree : decide (framesL 1 exL = framesL 1 exC) = false := by decide +kernel
theorem ex_check : chkI exL = -1 ∧ chkE exL = 0 := by decide +kernel
theorem str_lit_ {W : World} {g : Nat} {z : Int} {T : TypeId} (h : W.heap[g]? = some (.cells #[.int .u8 z] T)) : StrAt W (.slice (some ⟨g, 0, none⟩) 1 1) (strOfNums [z]) := ⟨[z], reads_one_ (cell_of_heap_ h), rfl⟩
theorem scr_lit_ {W : World} {B : Nat} {T : TypeId} {cs : Array Value} (l : List (Ent × Value)) (hB : W.heap[B]? = some (.cells cs T)) (hc : cs = (entCs l).toArray) (hs : ∀ x ∈ l, StrAt W x.2 x.1.bytes) : ScrAt W (some ⟨B, 0, none⟩) l.length (l.map (·.1)) := by
  refine ⟨by simp, fun i e he => ⟨B, 0, rfl, ?_⟩⟩
  have hi : i < l.length := by have := (List.getElem?_eq_some_iff.1 he).1; simpa using this
  rw [List.getElem?_map, List.getElem?_eq_getElem hi] at he
  injection he with he
  subst he
  have hcell : ∀ j u, j < 4 → (entC l[i].1 l[i].2)[j]? = some u → W.cell? ⟨B, 0 + i * 4 + j, none⟩ = some u := by
    intro j u hj hu
    rw [← entCs_at hi hj] at hu
    subst hc
    rw [Nat.zero_add]
    simp [World.cell?, hB]; simpa using hu
  exact ⟨l[i].2, hcell 0 _ (by omega) rfl, hcell 1 _ (by omega) rfl, hcell 2 _ (by omega) rfl, hcell 3 _ (by omega) rfl, hs _ (List.getElem_mem hi)⟩
theorem mv_two_ {W : World} {base : Nat} {v : Value} {l : List ((Bool × ByteArray) × Value)} {f : ByteArray} (h : OMv W base v l) (hl : l.map Prod.fst = [(false, f), (true, ByteArray.empty)]) : ∃ g c v1, v = .slice (some ⟨g, 0, none⟩) 2 c ∧ g < W.heap.size ∧ W.cell? ⟨g, 0, none⟩ = some (.bool false) ∧ W.cell? ⟨g, 1, none⟩ = some v1 ∧ StrAt W v1 f ∧ W.cell? ⟨g, 2, none⟩ = some (.bool true) := by
  rcases l with _ | ⟨⟨m1, v1⟩, _ | ⟨⟨m2, v2⟩, _ | ⟨y, t⟩⟩⟩
  · simp at hl
  · simp at hl
  · simp at hl
    obtain ⟨rfl, rfl⟩ := hl
    obtain ⟨a, c, rfl⟩ := ownsRow_form h.1
    obtain ⟨g, rfl, -, ⟨cur, hg⟩, -, -, hcell⟩ := owns_parts h.1 (by simp)
    exact ⟨g, c, v1, rfl, (Array.getElem?_eq_some_iff.1 hg).1, hcell 0 _ rfl, hcell 1 _ rfl, (h.2.1 _ List.mem_cons_self).str, hcell 2 _ rfl⟩
  · simp at hl
theorem reads_two_ {W : World} {g c : Nat} {k : IntKind} {y z : Int} {T : TypeId} (h : W.heap[g]? = some (.cells #[.int k y, .int k z] T)) : Reads k W (.slice (some ⟨g, 0, none⟩) 2 c) [y, z] :=
  .inr ⟨g, 0, c, rfl, by unfold maxLen; simp, fun i hi => by
    have : i = 0 ∨ i = 1 := by have : i < 2 := hi; omega
    rcases this with rfl | rfl <;> simp [World.cell?, h]⟩
set_option maxHeartbeats 4000000 in
theorem awake42 (W : World) : Calls Tryz.prog 17 #[] W fun e w' => e = .returned (.bool true) ∧ Below W.heap.size W w' := by
  go_enter Tryz.func17, Tryz.ntmps17
  go_wp2_with fail
  have hb0 : Below W.heap.size W (W.alloc (.cells #[.int .u8 7] 5)) := (Below.refl _ _).alloc (Nat.le_refl _) _
  have h70 := World.alloc_heap_new W (.cells #[.int .u8 7] 5)
  generalize W.alloc (.cells #[.int .u8 7] 5) = W0 at *
  refine (frame_any 0 _ 1 1 W0).mono ?_; rintro e W1 ⟨rfl, hb1⟩
  have H71 := Lib.hid ((hb1.block _ (Array.getElem?_eq_some_iff.1 h70).1).trans h70)
  have HB1 := Lib.hid (below_step_ hb0 hb1)
  clear hb0 h70 hb1
  go_wp2_with fail
  refine (tick_any W1).mono ?_; rintro e W2 ⟨rfl, hb2⟩
  have H72 := Lib.hid ((hb2.block _ (Array.getElem?_eq_some_iff.1 H71.out).1).trans H71.out)
  have HB2 := Lib.hid (below_step_ HB1.out hb2)
  clear HB1 H71 hb2
  go_wp2_with fail
  have hb3 : Below W.heap.size W (W2.alloc (.cells #[.int .u8 8] 5)) := HB2.out.alloc HB2.out.size _
  have h83 := World.alloc_heap_new W2 (.cells #[.int .u8 8] 5)
  have h73 := (Below.heap_alloc W2 (.cells #[.int .u8 8] 5) _ (Array.getElem?_eq_some_iff.1 H72.out).1).trans H72.out
  generalize W2.alloc (.cells #[.int .u8 8] 5) = W3 at *
  have X7 := (Array.getElem?_eq_some_iff.1 h73).1
  have X8 := (Array.getElem?_eq_some_iff.1 h83).1
  generalize W2.heap.size = B8 at *
  refine (frame_any 1 _ 1 1 W3).mono ?_; rintro e W4 ⟨rfl, hb4⟩
  have H74 := Lib.hid ((hb4.block _ X7).trans h73)
  have H84 := Lib.hid ((hb4.block _ X8).trans h83)
  have HB4 := Lib.hid (below_step_ hb3 hb4)
  clear hb3 h83 h73 hb4 HB2 H72 X7 X8
  go_wp2_with fail
  refine (pick_any 3 W4).mono ?_; rintro e W5 ⟨rfl, hb5⟩
  have H75 := Lib.hid ((hb5.block _ (Array.getElem?_eq_some_iff.1 H74.out).1).trans H74.out)
  have H85 := Lib.hid ((hb5.block _ (Array.getElem?_eq_some_iff.1 H84.out).1).trans H84.out)
  have HB5 := Lib.hid (below_step_ HB4.out hb5)
  clear hb5 HB4 H74 H84
  go_wp2_with fail
  refine (tick_any W5).mono ?_; rintro e W6 ⟨rfl, hb6⟩
  have H76 := Lib.hid ((hb6.block _ (Array.getElem?_eq_some_iff.1 H75.out).1).trans H75.out)
  have H86 := Lib.hid ((hb6.block _ (Array.getElem?_eq_some_iff.1 H85.out).1).trans H85.out)
  have HB6 := Lib.hid (below_step_ HB5.out hb6)
  clear hb6 HB5 H75 H85
  go_upto_region 2 with fail
  obtain ⟨WL, hWL⟩ : ∃ WL, WL = W6.alloc (.cells #[.int .u8 1, .int .i64 0, .int .i64 0, .slice (some ⟨W.heap.size, 0, none⟩) 1 1, .int .u8 2, .int .i64 0, .int .i64 0, .slice none 0 0, .int .u8 1, .int .i64 1, .int .i64 0, .slice (some ⟨B8, 0, none⟩) 1 1, .int .u8 3, .int .i64 0, .int .i64 3, .slice none 0 0, .int .u8 2, .int .i64 0, .int .i64 0, .slice none 0 0] 38) := ⟨_, rfl⟩
  rw [← hWL]
  have hml : Mod (fun _ => False) W6 WL := by rw [hWL]; exact (Mod.refl _ _).alloc _
  have hBl : WL.heap[W6.heap.size]? = some (.cells #[.int .u8 1, .int .i64 0, .int .i64 0, .slice (some ⟨W.heap.size, 0, none⟩) 1 1, .int .u8 2, .int .i64 0, .int .i64 0, .slice none 0 0, .int .u8 1, .int .i64 1, .int .i64 0, .slice (some ⟨B8, 0, none⟩) 1 1, .int .u8 3, .int .i64 0, .int .i64 3, .slice none 0 0, .int .u8 2, .int .i64 0, .int .i64 0, .slice none 0 0] 38) := by rw [hWL]; exact World.alloc_heap_new _ _
  have HSL : Hid (ScrAt WL (some ⟨W6.heap.size, 0, none⟩) 5 exL) := scr_lit_ [(⟨1, 0, 0, b7⟩, .slice (some ⟨W.heap.size, 0, none⟩) 1 1), (⟨2, 0, 0, ByteArray.empty⟩, .slice none 0 0), (⟨1, 1, 0, b8⟩, .slice (some ⟨B8, 0, none⟩) 1 1), (⟨3, 0, 3, ByteArray.empty⟩, .slice none 0 0), (⟨2, 0, 0, ByteArray.empty⟩, .slice none 0 0)] hBl rfl (by
    intro x hx
    simp at hx
    rcases hx with rfl | rfl | rfl | rfl | rfl
    · exact str_lit_ (hml.heap H76.out (by simp))
    · exact StrAt.nil _
    · exact str_lit_ (hml.heap H86.out (by simp))
    · exact StrAt.nil _
    · exact StrAt.nil _)
  have HBL : Hid (Below W.heap.size W WL) := HB6.out.trans (hml.below HB6.out.size (by simp))
  clear hWL hml hBl H76 H86 HB6
  generalize W6.heap.size = BL at *
  clear W6
  go_wp2_with fail
  refine (Moves_yes 2 0 (by omega) (by omega) (by omega) (some ⟨BL, 0, none⟩) 5 5 exL WL HSL.out (by unfold maxLen; omega) ex_wrg0).mono ?_; rintro e WA ⟨va, la, rfl, hla, hoa, hba⟩
  rw [ex_mv0] at hla
  obtain ⟨ga, ca, fa, rfl, hga, a0, a1, a2, a3⟩ := mv_two_ hoa hla
  have HA := Lib.hid (show WA.cell? ⟨ga, 0, none⟩ = some (.bool false) ∧ WA.cell? ⟨ga, 1, none⟩ = some fa ∧ StrAt WA fa b7 ∧ WA.cell? ⟨ga, 2, none⟩ = some (.bool true) from ⟨a0, a1, a2, a3⟩)
  have HSA := Lib.hid (HSL.out.below hba)
  have HBA := Lib.hid (below_step_ HBL.out hba)
  clear hla hoa hba a0 a1 a2 a3 HSL HBL hga
  go_wp2_with fail
  refine (Moves_yes 2 1 (by omega) (by omega) (by omega) (some ⟨BL, 0, none⟩) 5 5 exL WA HSA.out (by unfold maxLen; omega) ex_wrg1).mono ?_; rintro e WB ⟨vb, lb, rfl, hlb, hob, hbb⟩
  rw [ex_mv1] at hlb
  obtain ⟨gb, cb, fb, rfl, hgb, a0, a1, a2, a3⟩ := mv_two_ hob hlb
  have HBm := Lib.hid (show WB.cell? ⟨gb, 0, none⟩ = some (.bool false) ∧ WB.cell? ⟨gb, 2, none⟩ = some (.bool true) from ⟨a0, a3⟩)
  have hmb : Mod (fun _ => False) WA WB := Mod.of_same hbb
  have HAb := Lib.hid (show WB.cell? ⟨ga, 0, none⟩ = some (.bool false) ∧ WB.cell? ⟨ga, 1, none⟩ = some fa ∧ StrAt WB fa b7 ∧ WB.cell? ⟨ga, 2, none⟩ = some (.bool true) from ⟨hmb.cell (by simp) HA.out.1, hmb.cell (by simp) HA.out.2.1, HA.out.2.2.1.mod hmb (by simp), hmb.cell (by simp) HA.out.2.2.2⟩)
  have HSB := Lib.hid (HSA.out.below hbb)
  have HBB := Lib.hid (below_step_ HBA.out hbb)
  clear hlb hob hbb a0 a1 a2 a3 HSA HBA HA hgb hmb
  go_wp2_with fail
  refine (Alone_yes 0 (some ⟨BL, 0, none⟩) 5 5 exL WB HSB.out (by unfold maxLen; omega) ex_wrg0).mono ?_; rintro e WC ⟨vc, rfl, hoc, hbc⟩
  rw [ex_alone] at hoc
  obtain ⟨ac, cc, rfl, hcc1, hcc2, hsc⟩ := hoc.scr
  have HSC := Lib.hid (HSB.out.below hbc)
  have HCC := Lib.hid hsc
  have HBC := Lib.hid (below_step_ HBB.out hbc)
  have HMC : Hid (Mod (fun _ => False) WB WC) := Mod.of_same hbc
  clear hoc hsc hbc HSB HBB
  go_wp2_with fail
  refine (Others_yes 0 (some ⟨BL, 0, none⟩) 5 5 exL WC HSC.out (by unfold maxLen; omega) ex_wrg0).mono ?_; rintro e WD ⟨vd, rfl, hod, hbd⟩
  rw [ex_others] at hod
  obtain ⟨ad, cd, rfl, hcd1, hcd2, hsd⟩ := hod.scr
  have HSD := Lib.hid (HSC.out.below hbd)
  have HCD := Lib.hid (HCC.out.below hbd)
  have HDD := Lib.hid hsd
  have HBD := Lib.hid (below_step_ HBC.out hbd)
  have HMD : Hid (Mod (fun _ => False) WB WD) := HMC.out.trans (Mod.of_same hbd)
  clear hod hsd hbd HSC HBC HCC HMC
  go_wp2_with fail
  obtain ⟨WN, hWN⟩ : ∃ WN, WN = WD.alloc (.cells #[.int .i64 2, .int .i64 2] 3) := ⟨_, rfl⟩
  rw [← hWN]
  have hmn : Mod (fun _ => False) WD WN := by rw [hWN]; exact (Mod.refl _ _).alloc _
  have hRn : Reads .i64 WN (.slice (some ⟨WD.heap.size, 0, none⟩) 2 2) [2, 2] := reads_two_ (by rw [hWN]; exact World.alloc_heap_new _ _)
  have HSN := Lib.hid (HSD.out.mod hmn (by simp))
  have HCN := Lib.hid (HCD.out.mod hmn (by simp))
  have HDN := Lib.hid (HDD.out.mod hmn (by simp))
  have HBN := Lib.hid (HBD.out.trans (hmn.below HBD.out.size (by simp)))
  have HMN : Hid (Mod (fun _ => False) WB WN) := HMD.out.trans hmn
  clear hWN hmn HSD HCD HDD HBD HMD
  generalize WD.heap.size = BN at *
  clear WD
  refine (Mix_yes ac ad (some ⟨BN, 0, none⟩) exC.length exD.length 2 cc cd 2 exC exD [2, 2] WN HCN.out HDN.out (by decide) hcd1 (by omega) hRn ex_cd.1 ex_cd.2 (by decide)).mono ?_; rintro e WE ⟨ve, rfl, hoe, hbe⟩
  rw [ex_mix] at hoe
  obtain ⟨ae, ce, rfl, hce1, hce2, hse⟩ := hoe.scr
  have HSE := Lib.hid (HSN.out.below hbe)
  have HCE := Lib.hid (HCN.out.below hbe)
  have HDE := Lib.hid (HDN.out.below hbe)
  have HEE := Lib.hid hse
  have HBE := Lib.hid (below_step_ HBN.out hbe)
  have HME : Hid (Mod (fun _ => False) WB WE) := HMN.out.trans (Mod.of_same hbe)
  clear hoe hse hbe HSN HCN HDN HBN HMN
  go_wp2_with fail
  refine (Alike_yes 2 0 (by omega) (by omega) (by omega) (some ⟨BL, 0, none⟩) ac 5 exC.length 5 cc exL exC WE HSE.out HCE.out (by unfold maxLen; omega) (by unfold maxLen; decide) ex_lc.1).mono ?_; rintro e WF ⟨rfl, hbf⟩
  rw [ex_alike]
  have HSF := Lib.hid (HSE.out.below hbf)
  have HCF := Lib.hid (HCE.out.below hbf)
  have HDF := Lib.hid (HDE.out.below hbf)
  have HEF := Lib.hid (HEE.out.below hbf)
  have HBF := Lib.hid (below_step_ HBE.out hbf)
  have HMF : Hid (Mod (fun _ => False) WB WF) := HME.out.trans (Mod.of_same hbf)
  clear hbf HSE HCE HDE HEE HBE HME
  go_wp2_with fail
  refine (Agree_yes 1 (some ⟨BL, 0, none⟩) ac 5 exC.length 5 cc exL exC WF HSF.out HCF.out (by unfold maxLen; omega) (by unfold maxLen; decide) ex_lc.2).mono ?_; rintro e WG ⟨rfl, hbg⟩
  rw [ex_agree]
  have HSG := Lib.hid (HSF.out.below hbg)
  have HCG := Lib.hid (HCF.out.below hbg)
  have HDG := Lib.hid (HDF.out.below hbg)
  have HEG := Lib.hid (HEF.out.below hbg)
  have HBG := Lib.hid (below_step_ HBF.out hbg)
  have HMG : Hid (Mod (fun _ => False) WB WG) := HMF.out.trans (Mod.of_same hbg)
  clear hbg HSF HCF HDF HEF HBF HMF
  go_wp2_with fail
  refine (Lacks_ex (some ⟨BL, 0, none⟩) 5 5 exL WG HSG.out (by unfold maxLen; omega) ex_wrg0 b7 ex_mv0 (by decide)).mono ?_; rintro e WH ⟨rfl, hbh⟩
  have HSH := Lib.hid (HSG.out.below hbh)
  have HCH := Lib.hid (HCG.out.below hbh)
  have HDH := Lib.hid (HDG.out.below hbh)
  have HEH := Lib.hid (HEG.out.below hbh)
  have HBH := Lib.hid (below_step_ HBG.out hbh)
  have HMH : Hid (Mod (fun _ => False) WB WH) := HMG.out.trans (Mod.of_same hbh)
  clear hbh HSG HCG HDG HEG HBG HMG
  go_wp2_with fail
  refine (Check_any (some ⟨BL, 0, none⟩) 5 5 exL WH HSH.out (by unfold maxLen; omega)).mono ?_; rintro e WK ⟨rfl, hbk⟩
  rw [ex_check.1, ex_check.2]
  have HSK := Lib.hid (HSH.out.below hbk)
  have HCK := Lib.hid (HCH.out.below hbk)
  have HDK := Lib.hid (HDH.out.below hbk)
  have HEK := Lib.hid (HEH.out.below hbk)
  have HBK := Lib.hid (below_step_ HBH.out hbk)
  have HMK : Hid (Mod (fun _ => False) WB WK) := HMH.out.trans (Mod.of_same hbk)
  clear hbk HSH HCH HDH HEH HBH HMH
  have HAK := Lib.hid (show WK.cell? ⟨ga, 0, none⟩ = some (.bool false) ∧ WK.cell? ⟨ga, 1, none⟩ = some fa ∧ StrAt WK fa b7 ∧ WK.cell? ⟨ga, 2, none⟩ = some (.bool true) from ⟨HMK.out.cell (by simp) HAb.out.1, HMK.out.cell (by simp) HAb.out.2.1, HAb.out.2.2.1.mod HMK.out (by simp), HMK.out.cell (by simp) HAb.out.2.2.2⟩)
  have HBmK := Lib.hid (show WK.cell? ⟨gb, 0, none⟩ = some (.bool false) ∧ WK.cell? ⟨gb, 2, none⟩ = some (.bool true) from ⟨HMK.out.cell (by simp) HBm.out.1, HMK.out.cell (by simp) HBm.out.2⟩)
  clear HMK HAb HBm
  have a0 := HAK.out.1
  have a1 := HAK.out.2.1
  have a2 := HAK.out.2.2.1.convert
  have a3 := HAK.out.2.2.2
  have b0 := HBmK.out.1
  have b2 := HBmK.out.2
  go_wp2_with fail
  rotate_left
  · rename_i h9
    exact absurd (by decide +kernel) h9
  clear HAK HBmK a0 a1 a2 a3 b0 b2
  have hbp : Below W.heap.size W (WK.alloc (.cells #[.int .u8 7] 5)) := HBK.out.alloc HBK.out.size _
  have hmp : Mod (fun _ => False) WK (WK.alloc (.cells #[.int .u8 7] 5)) := (Mod.refl _ _).alloc _
  have h7p := World.alloc_heap_new WK (.cells #[.int .u8 7] 5)
  generalize WK.alloc (.cells #[.int .u8 7] 5) = WP at *
  generalize WK.heap.size = B7 at *
  refine (frame_any 0 _ 1 1 WP).mono ?_; rintro e WQ ⟨rfl, hbq⟩
  have H7Q := Lib.hid ((hbq.block _ (Array.getElem?_eq_some_iff.1 h7p).1).trans h7p)
  have HBQ := Lib.hid (below_step_ hbp hbq)
  have HMQ := Lib.hid (hmp.trans (Mod.of_same hbq))
  clear hbp hmp h7p hbq
  go_wp2_with fail
  refine (tick_any WQ).mono ?_; rintro e WR ⟨rfl, hbr⟩
  have H7R := Lib.hid ((hbr.block _ (Array.getElem?_eq_some_iff.1 H7Q.out).1).trans H7Q.out)
  have HBR := Lib.hid (below_step_ HBQ.out hbr)
  have HMR := Lib.hid (HMQ.out.trans (Mod.of_same hbr))
  clear hbr H7Q HBQ HMQ
  go_wp2_with fail
  refine (tick_any WR).mono ?_; rintro e WS ⟨rfl, hbs⟩
  have H7S := Lib.hid ((hbs.block _ (Array.getElem?_eq_some_iff.1 H7R.out).1).trans H7R.out)
  have HBS := Lib.hid (below_step_ HBR.out hbs)
  have HMS := Lib.hid (HMR.out.trans (Mod.of_same hbs))
  clear hbs H7R HBR HMR
  go_wp2_with fail
  obtain ⟨WT, hWT⟩ : ∃ WT, WT = WS.alloc (.cells #[.int .u8 1, .int .i64 0, .int .i64 0, .slice (some ⟨B7, 0, none⟩) 1 1, .int .u8 2, .int .i64 0, .int .i64 0, .slice none 0 0, .int .u8 2, .int .i64 0, .int .i64 0, .slice none 0 0] 38) := ⟨_, rfl⟩
  rw [← hWT]
  have hmt : Mod (fun _ => False) WK WT := HMS.out.trans (by rw [hWT]; exact (Mod.refl _ _).alloc _)
  have hmt1 : Mod (fun _ => False) WS WT := by rw [hWT]; exact (Mod.refl _ _).alloc _
  have hBt : WT.heap[WS.heap.size]? = some (.cells #[.int .u8 1, .int .i64 0, .int .i64 0, .slice (some ⟨B7, 0, none⟩) 1 1, .int .u8 2, .int .i64 0, .int .i64 0, .slice none 0 0, .int .u8 2, .int .i64 0, .int .i64 0, .slice none 0 0] 38) := by rw [hWT]; exact World.alloc_heap_new _ _
  have HST : Hid (ScrAt WT (some ⟨WS.heap.size, 0, none⟩) 3 exC) := scr_lit_ [(⟨1, 0, 0, b7⟩, .slice (some ⟨B7, 0, none⟩) 1 1), (⟨2, 0, 0, ByteArray.empty⟩, .slice none 0 0), (⟨2, 0, 0, ByteArray.empty⟩, .slice none 0 0)] hBt rfl (by
    intro x hx
    simp at hx
    rcases hx with rfl | rfl
    · exact str_lit_ (hmt1.heap H7S.out (by simp))
    · exact StrAt.nil _)
  have HBT : Hid (Below W.heap.size W WT) := HBS.out.trans (hmt1.below HBS.out.size (by simp))
  have HLT := Lib.hid (HSK.out.mod hmt (by simp))
  have HCT := Lib.hid (HCK.out.mod hmt (by simp))
  have HDT := Lib.hid (HDK.out.mod hmt (by simp))
  have HET := Lib.hid (HEK.out.mod hmt (by simp))
  clear hWT hmt hmt1 hBt H7S HBS HMS HSK HCK HDK HEK HBK
  generalize WS.heap.size = B9 at *
  clear WS
  refine (same_any ac (some ⟨B9, 0, none⟩) 3 3 cc 3 exC exC WT HCT.out HST.out (by omega)).mono ?_; rintro e WU ⟨rfl, hbu⟩
  rw [decide_eq_true rfl]
  have HLU := Lib.hid (HLT.out.below hbu)
  have HDU := Lib.hid (HDT.out.below hbu)
  have HEU := Lib.hid (HET.out.below hbu)
  have HBU := Lib.hid (below_step_ HBT.out hbu)
  clear hbu HLT HDT HET HBT HCT HST
  go_wp2_with fail
  have hbp : Below W.heap.size W (WU.alloc (.cells #[.int .u8 8] 5)) := HBU.out.alloc HBU.out.size _
  have hmp : Mod (fun _ => False) WU (WU.alloc (.cells #[.int .u8 8] 5)) := (Mod.refl _ _).alloc _
  have h8p := World.alloc_heap_new WU (.cells #[.int .u8 8] 5)
  generalize WU.alloc (.cells #[.int .u8 8] 5) = XP at *
  generalize WU.heap.size = C8 at *
  refine (frame_any 1 _ 1 1 XP).mono ?_; rintro e XQ ⟨rfl, hbq⟩
  have H8Q := Lib.hid ((hbq.block _ (Array.getElem?_eq_some_iff.1 h8p).1).trans h8p)
  have JBQ := Lib.hid (below_step_ hbp hbq)
  have JMQ := Lib.hid (hmp.trans (Mod.of_same hbq))
  clear hbp hmp h8p hbq
  go_wp2_with fail
  refine (pick_any 3 XQ).mono ?_; rintro e XS ⟨rfl, hbs⟩
  have H8S := Lib.hid ((hbs.block _ (Array.getElem?_eq_some_iff.1 H8Q.out).1).trans H8Q.out)
  have JBS := Lib.hid (below_step_ JBQ.out hbs)
  have JMS := Lib.hid (JMQ.out.trans (Mod.of_same hbs))
  clear hbs H8Q JBQ JMQ
  go_wp2_with fail
  obtain ⟨XT, hXT⟩ : ∃ XT, XT = XS.alloc (.cells #[.int .u8 1, .int .i64 1, .int .i64 0, .slice (some ⟨C8, 0, none⟩) 1 1, .int .u8 3, .int .i64 0, .int .i64 3, .slice none 0 0] 38) := ⟨_, rfl⟩
  rw [← hXT]
  have hmt : Mod (fun _ => False) WU XT := JMS.out.trans (by rw [hXT]; exact (Mod.refl _ _).alloc _)
  have hmt1 : Mod (fun _ => False) XS XT := by rw [hXT]; exact (Mod.refl _ _).alloc _
  have hBt : XT.heap[XS.heap.size]? = some (.cells #[.int .u8 1, .int .i64 1, .int .i64 0, .slice (some ⟨C8, 0, none⟩) 1 1, .int .u8 3, .int .i64 0, .int .i64 3, .slice none 0 0] 38) := by rw [hXT]; exact World.alloc_heap_new _ _
  have JST : Hid (ScrAt XT (some ⟨XS.heap.size, 0, none⟩) 2 exD) := scr_lit_ [(⟨1, 1, 0, b8⟩, .slice (some ⟨C8, 0, none⟩) 1 1), (⟨3, 0, 3, ByteArray.empty⟩, .slice none 0 0)] hBt rfl (by
    intro x hx
    simp at hx
    rcases hx with rfl | rfl
    · exact str_lit_ (hmt1.heap H8S.out (by simp))
    · exact StrAt.nil _)
  have JBT : Hid (Below W.heap.size W XT) := JBS.out.trans (hmt1.below JBS.out.size (by simp))
  have JLT := Lib.hid (HLU.out.mod hmt (by simp))
  have JDT := Lib.hid (HDU.out.mod hmt (by simp))
  have JET := Lib.hid (HEU.out.mod hmt (by simp))
  clear hXT hmt hmt1 hBt H8S JBS JMS HLU HDU HEU HBU
  generalize XS.heap.size = C9 at *
  clear XS
  refine (same_any ad (some ⟨C9, 0, none⟩) 2 2 cd 2 exD exD XT JDT.out JST.out (by omega)).mono ?_; rintro e XU ⟨rfl, hbu⟩
  rw [decide_eq_true rfl]
  have JLU := Lib.hid (JLT.out.below hbu)
  have JEU := Lib.hid (JET.out.below hbu)
  have JBU := Lib.hid (below_step_ JBT.out hbu)
  clear hbu JLT JDT JET JBT JST
  go_wp2_with fail
  refine (same_any ae (some ⟨BL, 0, none⟩) 5 5 ce 5 exL exL XU JEU.out JLU.out (by omega)).mono ?_; rintro e XV ⟨rfl, hbv⟩
  rw [decide_eq_true rfl]
  have JBV := Lib.hid (below_step_ JBU.out hbv)
  clear hbv JLU JEU JBU
  go_wp2_with fail
  go_ret
  exact ⟨rfl, JBV.out⟩
end View
end Go.Proofs.YtdfmgneicdpjmaaGreat

/- fermatalaw42.small, and the law ViewParts. -/
namespace Go.Proofs.YtdfmgneicdpjmaaGreat
open Go.RowKit Go.Shelf
attribute [local go_sem] Oper.semAt_some
set_option linter.unusedVariables false
set_option linter.unusedSimpArgs false
set_option maxRecDepth 100000
namespace View
open Resp

def SmP (n : Nat) (W : World) (e : Ending) (w' : World) : Prop := ∃ b, e = .returned (.bool b) ∧ (b = true → n ≤ 4100) ∧ Below W.heap.size W w'
set_option maxHeartbeats 1000000 in
theorem small_any (a : Option Addr) (n c : Nat) (es : List Ent) (W : World) (h : ScrAt W a n es) (hn : n ≤ maxLen) :
    Calls Tryz.prog 15 #[.slice a n c] W (SmP n W) := by
  unfold maxLen at hn
  have H := Lib.hid h
  have HL := Lib.hid h.1
  clear h
  go_enter Tryz.func15, Tryz.ntmps15
  by_cases h60 : 60 < n
  · have h60I : 60 < (n : Int) := by omega
    by_cases h4 : 4000 < n
    · have h4I : 4000 < (n : Int) := by omega
      by_cases h41 : n < 4100
      · have h41I : (n : Int) < 4100 := by omega
        go_wp2_with fail
        go_ret
        exact ⟨_, rfl, fun _ => by omega, Below.refl _ _⟩
      · have h41I : ¬ (n : Int) < 4100 := by omega
        go_wp2_with fail
        go_ret
        exact ⟨_, rfl, fun h => by simp at h, Below.refl _ _⟩
    · have h4I : ¬ 4000 < (n : Int) := by omega
      go_wp2_with fail
      go_ret
      exact ⟨_, rfl, fun h => by simp at h, Below.refl _ _⟩
  · have h60I : ¬ 60 < (n : Int) := by omega
    go_wp2_with fail
    go_loopw [3, 19] (fun t i wr => ∃ (k : Nat) (z : Int), k ≤ n ∧ i = .int .i64 k ∧ t = .int .i64 z ∧ Hid (Below W.heap.size W wr)) (fun _ i _ => n - (intOf i).toNat)
    case atStart => exact ⟨0, 0, Nat.zero_le _, rfl, rfl, Below.refl _ _⟩
    case round =>
      obtain ⟨k, z, hk, rfl, rfl, HB⟩ := hrel
      by_cases hlt : k < n
      · have hltI : (k : Int) < n := by omega
        have hk2 : k < es.length := by have := HL.out; omega
        have HS := Lib.hid (H.out.below HB.out)
        obtain ⟨b, o, v, sa, sc, rfl, hbl, c0, c1, c2, c3, hst, rfl⟩ := HS.out.at_ hk2
        generalize es[k] = e at *
        clear hk2 hst HS hbl
        go_wp2_with fail
        exact ⟨⟨k + 1, _, by omega, by simp, rfl, HB.out.alloc HB.out.size _⟩, by simp [intOf]; omega⟩
      · obtain rfl : k = n := by omega
        go_wp2_with fail
        go_ret
        exact ⟨_, rfl, fun _ => by omega, HB.out⟩
theorem parts_any (n slot : Int) (a : Option Addr) (k c : Nat) (es : List Ent) (W : World) (h : ScrAt W a k es) (hk : k ≤ 100000) (hb : ∀ e ∈ es, e.bytes.size ≤ 140737488351232) :
    Calls Tryz.prog 16 #[.slice a k c, .int .i64 n, .int .i64 slot] W fun e w' => e = .returned (.bool true) ∧ Below W.heap.size W w' := by
  obtain rfl : es.length = k := h.1
  by_cases hE : wrg1 slot es = 0
  · by_cases h0 : n < 1 ∨ 8 < n ∨ n ≤ slot
    · exact parts_arg n slot a c es W h hE h0
    · exact parts_yes n slot a c es W h hE (by omega) (by omega) (by omega)
  · exact parts_no n slot a c es W h _ rfl hE hk hb
theorem lawParts (n slot : Int) (a : Option Addr) (k c : Nat) (es : List Ent) (W : World) (h : ScrAt W a k es) (hk : k ≤ maxLen) (hb : ∀ e ∈ es, e.bytes.size ≤ 140737488351232) :
    Calls Tryz.prog 4 #[.slice a k c, .int .i64 n, .int .i64 slot] W fun e w' => e = .returned (.bool true) ∧ Below W.heap.size W w' := by
  have HS := Lib.hid h
  have HY := Lib.hid hb
  clear h hb
  go_enter Tryz.func4, Tryz.ntmps4
  go_wp2_with fail
  refine (small_any a k c es W HS.out hk).mono ?_; rintro e W1 ⟨b, rfl, hbn, hb1⟩
  replace HS := Lib.hid (HS.out.below hb1)
  have HB := Lib.hid hb1
  clear hb1
  cases b with
  | false =>
    clear hbn
    go_wp2_with fail
    refine (awake42 W1).mono ?_; rintro e W2 ⟨rfl, hb2⟩
    replace HB := Lib.hid (below_step_ HB.out hb2)
    clear hb2
    go_wp2_with fail
    go_ret
    exact ⟨rfl, HB.out⟩
  | true =>
    have hk4 : k ≤ 4100 := hbn rfl
    clear hbn
    go_wp2_with fail
    refine (parts_any n slot a k c es W1 HS.out (by omega) HY.out).mono ?_; rintro e W2 ⟨rfl, hb2⟩
    replace HB := Lib.hid (below_step_ HB.out hb2)
    clear hb2
    go_wp2_with fail
    refine (awake42 W2).mono ?_; rintro e W3 ⟨rfl, hb3⟩
    replace HB := Lib.hid (below_step_ HB.out hb3)
    clear hb3
    go_wp2_with fail
    go_ret
    exact ⟨rfl, HB.out⟩
end View
end Go.Proofs.YtdfmgneicdpjmaaGreat

/- A script that came as an argument. -/
namespace Go.Proofs.YtdfmgneicdpjmaaGreat
open Go.RowKit Go.Shelf Go.ChangeShapes Go.WideShapes Go.Deep Go.Joins
set_option linter.unusedVariables false
set_option linter.unusedSimpArgs false
set_option maxRecDepth 100000
namespace View
open Resp

theorem weightsAll_mem {H : Type} {P : Program} {t : TypeId} {d : DataW H} {m : Nat} (hm : m ∈ d.weights P t) : ∀ {l : List (DataW H)}, d ∈ l → m ∈ DataW.weightsAll P t l
  | x :: r, h => by
    rcases List.mem_cons.1 h with rfl | h
    · simp only [DataW.weightsAll, List.mem_append]; exact .inl hm
    · simp only [DataW.weightsAll, List.mem_append]; exact .inr (weightsAll_mem hm h)
theorem choose_list {α : Type} {p : Nat → α → Prop} : ∀ n : Nat, (∀ i, i < n → ∃ x, p i x) → ∃ l : List α, l.length = n ∧ ∀ i (hi : i < l.length), p i l[i]
  | 0, _ => ⟨[], rfl, fun i hi => absurd hi (Nat.not_lt_zero _)⟩
  | n + 1, h => by
    obtain ⟨l, hl, hp⟩ := choose_list n (fun i hi => h i (by omega))
    obtain ⟨x, hx⟩ := h n (by omega)
    refine ⟨l ++ [x], by simp [hl], fun i hi => ?_⟩
    by_cases h1 : i < l.length
    · rw [List.getElem_append_left h1]; exact hp i h1
    · have h2 : i = l.length := by simp at hi; omega
      subst h2
      simp
      rw [hl]; exact hx
theorem open_ents {H : Type} {enc : TypeId × Value → H} {W : World} {base fuel : Nat} {held : Bool} {a : Option Addr} {n c : Nat} {x : DataW H × List MemPlace}
    (h : DataW.trod enc Tryz.prog W base (fun _ => true) held fuel 27 [.slice a n c] = some x) (hsz : ∀ m ∈ x.1.weights Tryz.prog 27, m ≤ reachBytes) :
    ∃ es, ScrAt W a n es ∧ n ≤ c ∧ c ≤ maxLen ∧ ∀ e ∈ es, e.bytes.size ≤ 140737488351232 := by
  rcases open_slice Tryz.underlying27 h with ⟨hcs, _⟩ | ⟨a', len, cap, m, k, D, Pl, hcs, hb, hl, hm, hmm, rfl, hx⟩
  · simp at hcs
    obtain ⟨rfl, rfl, rfl⟩ := hcs
    exact ⟨[], ⟨rfl, fun i e he => by simp at he⟩, Nat.le_refl _, Nat.zero_le _, by simp⟩
  · simp at hcs
    obtain ⟨rfl, rfl, rfl⟩ := hcs
    simp only [if_true] at hmm
    subst hmm
    have hce : Tryz.prog.cellsOf 38 = 4 := by kernel_rfl
    have h1c : Tryz.prog.cellsOf 5 = 1 := by kernel_rfl
    have h1b : Tryz.prog.bytesOf 5 = 1 := by kernel_rfl
    rw [hce] at hx
    have each : ∀ i, i < n → ∃ q : Ent × Value, W.cell? (a'.add (i * 4)) = some (.int .u8 q.1.kind) ∧ W.cell? (a'.add (i * 4 + 1)) = some (.int .i64 q.1.slot) ∧ W.cell? (a'.add (i * 4 + 2)) = some (.int .i64 q.1.n) ∧ W.cell? (a'.add (i * 4 + 3)) = some q.2 ∧ StrAt W q.2 q.1.bytes ∧ q.1.bytes.size ≤ 140737488351232 := by
      intro i hi
      obtain ⟨cs', h1, h2⟩ := hx i (by omega)
      obtain ⟨_, hlen, hcell⟩ := World.cells?_some h1
      obtain ⟨y0, y1, y2, y3, k2, hy, _, t0, t1, t2, t3⟩ := trod_struct4 Tryz.underlying38 h2
      match cs', hlen with
      | [v0, v1, v2, v3], _ =>
        have e0 := hcell 0 (by omega)
        have e1 := hcell 1 (by omega)
        have e2 := hcell 2 (by omega)
        have e3 := hcell 3 (by omega)
        rw [add_add] at e0 e1 e2 e3
        obtain ⟨z0, hz0, hy0, -⟩ := DataW.trod_int Tryz.underlying5 t0
        obtain ⟨z1, hz1, hy1, -⟩ := DataW.trod_int Tryz.underlying3 t1
        obtain ⟨z2, hz2, hy2, -⟩ := DataW.trod_int Tryz.underlying3 t2
        have k0 : Tryz.prog.cellsOf 5 = 1 := by kernel_rfl
        have k1 : Tryz.prog.cellsOf 3 = 1 := by kernel_rfl
        have k3 : Tryz.prog.cellsOf 25 = 1 := by kernel_rfl
        simp [k0, k1, k3] at hz0 hz1 hz2 t3 e0 e1 e2 e3
        subst hz0; subst hz1; subst hz2
        have hwD : ∀ m ∈ y3.1.weights Tryz.prog 25, m ≤ reachBytes := by
          intro m hm9
          refine hsz m ?_
          have hDi : D i = .agg [y0.1, y1.1, y2.1, y3.1] := congrArg Prod.fst hy
          have h9 : m ∈ (D i).weights Tryz.prog 38 := by
            rw [hDi]
            simp only [DataW.weights, Tryz.underlying38]
            exact DataW.weights_mem_each (j := 3) rfl rfl _ hm9
          simp only [DataW.weights, Tryz.underlying27]
          refine List.mem_cons_of_mem _ (List.mem_append.2 (.inl (weightsAll_mem h9 ?_)))
          exact List.mem_map.2 ⟨i, List.mem_range.2 hi, rfl⟩
        rcases open_ints Tryz.underlying25 Tryz.underlying5 h1c t3 with ⟨hcs3, _⟩ | ⟨b', l3, c3, zs, hcs3, hb3, hl3, hm3, hzl, hy3, hc3, hw3⟩
        · simp at hcs3
          subst hcs3
          exact ⟨(⟨z0, z1, z2, ByteArray.empty⟩, .slice none 0 0), e0, e1, e2, e3, StrAt.nil _, Nat.zero_le _⟩
        · simp at hcs3
          subst hcs3
          simp only [if_true] at hzl
          have hrow : IsRow .u8 W (some b') l3 c3 zs := .inr ⟨b', rfl, hl3, hm3, hzl, hc3, hw3⟩
          refine ⟨(⟨z0, z1, z2, strOfNums (zs.take l3)⟩, .slice (some b') l3 c3), e0, e1, e2, e3, ⟨_, hrow.reads.1, rfl⟩, ?_⟩
          have hwz := hwD (zs.length * 1) (by
            rw [hy3]
            simp only [DataW.weights, Tryz.underlying25]
            refine List.mem_cons.2 (.inl ?_)
            rw [h1b]
            simp [lits]
            omega)
          have hsz9 : (strOfNums (zs.take l3)).size ≤ zs.length := by
            simp [strOfNums, ByteArray.size]
            omega
          unfold reachBytes at hwz
          show (strOfNums (zs.take l3)).size ≤ _
          omega
    obtain ⟨L, hL, hp⟩ := choose_list n each
    refine ⟨L.map (·.1), ⟨by simpa using hL, fun i e he => ?_⟩, hl, hm, ?_⟩
    · have hi : i < L.length := by have := (List.getElem?_eq_some_iff.1 he).1; simpa using this
      rw [List.getElem?_map, List.getElem?_eq_getElem hi] at he
      injection he with he
      subst he
      obtain ⟨q0, q1, q2, q3, q4, q5⟩ := hp i hi
      obtain ⟨b, o, spot⟩ := a'
      have hspot : spot = none := by simpa [Addr.add] using World.cell?_spot (hp 0 (by omega)).1
      subst hspot
      rw [add_plain] at q0 q1 q2 q3
      exact ⟨b, o, rfl, L[i].2, q0, by rw [Nat.add_assoc]; exact q1, by rw [Nat.add_assoc]; exact q2, by rw [Nat.add_assoc]; exact q3, q4⟩
    · intro e he
      obtain ⟨q, hq, rfl⟩ := List.mem_map.1 he
      obtain ⟨i, hi, rfl⟩ := List.mem_iff_getElem.1 hq
      exact (hp i hi).2.2.2.2.2
end View
end Go.Proofs.YtdfmgneicdpjmaaGreat
