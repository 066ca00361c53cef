import Derived.Test.YtdfmgneicdpjmaaGreatTenK
import Derived.Test.YtdfmgneicdpjmaaGreatBegD
import Derived.Test.YtdfmgneicdpjmaaGreatFermRange
import Derived.RangeFuncWrites
/- Entries of a script: what they are in memory; script.within, Same, Clean. -/
namespace Go.Proofs.YtdfmgneicdpjmaaGreat
open Go.RowKit Go.Shelf
set_option linter.unusedVariables false
set_option linter.unusedSimpArgs false
set_option maxRecDepth 100000
namespace View
open Resp

/-- An entry. -/
structure Ent where
  kind : Int
  slot : Int
  n : Int
  bytes : ByteArray
deriving DecidableEq

def EntAt (W : World) (b o : Nat) (e : Ent) : Prop := ∃ v, W.cell? ⟨b, o, none⟩ = some (.int .u8 e.kind) ∧ W.cell? ⟨b, o + 1, none⟩ = some (.int .i64 e.slot) ∧ W.cell? ⟨b, o + 2, none⟩ = some (.int .i64 e.n) ∧ W.cell? ⟨b, o + 3, none⟩ = some v ∧ StrAt W v e.bytes
def entV (e : Ent) (v : Value) : Value := .agg #[.int .u8 e.kind, .int .i64 e.slot, .int .i64 e.n, v]
theorem EntAt.mod {S : Nat → Prop} {W W' : World} {b o : Nat} {e : Ent} (h : EntAt W b o e) (hm : Mod S W W') (hS : ∀ g, ¬ S g) : EntAt W' b o e := by
  obtain ⟨v, h0, h1, h2, h3, h4⟩ := h
  exact ⟨v, hm.cell (hS _) h0, hm.cell (hS _) h1, hm.cell (hS _) h2, hm.cell (hS _) h3, h4.mod hm hS⟩
/-- The slice (a, n) holds the entries es. -/
def ScrAt (W : World) (a : Option Addr) (n : Nat) (es : List Ent) : Prop := es.length = n ∧ ∀ i e, es[i]? = some e → ∃ b o, a = some ⟨b, o, none⟩ ∧ EntAt W b (o + i * 4) e
theorem ScrAt.mod {S : Nat → Prop} {W W' : World} {a : Option Addr} {n : Nat} {es : List Ent} (h : ScrAt W a n es) (hm : Mod S W W') (hS : ∀ g, ¬ S g) : ScrAt W' a n es :=
  ⟨h.1, fun i e he => by
    obtain ⟨b, o, e1, h1⟩ := h.2 i e he
    exact ⟨b, o, e1, h1.mod hm hS⟩⟩
theorem ScrAt.below {W W' : World} {a : Option Addr} {n : Nat} {es : List Ent} (h : ScrAt W a n es) (hb : Below W.heap.size W W') : ScrAt W' a n es := h.mod (S := fun _ => False) (Mod.of_same hb) (by simp)
theorem StrAt.below {W W' : World} {v : Value} {s : ByteArray} (h : StrAt W v s) (hb : Below W.heap.size W W') : StrAt W' v s := h.mod (S := fun _ => False) (Mod.of_same hb) (by simp)
theorem StrAt.nil (W : World) : StrAt W (.slice none 0 0) ByteArray.empty := ⟨[], .inl ⟨none, 0, rfl, rfl⟩, rfl⟩

def withinB (n : Int) : Bool := decide (0 ≤ n ∧ n ≤ 4294967295)
theorem within_any (n : Int) (w : World) : Calls Tryz.prog 118 #[.int .i64 n] w fun e w' => e = .returned (.bool (withinB n)) ∧ w = w' := by
  by_cases h1 : 0 ≤ n
  · by_cases h2 : n ≤ 4294967295
    · have HE : Hid (withinB n = true) := by unfold withinB; exact decide_eq_true ⟨h1, h2⟩
      go_enter Tryz.func118, Tryz.ntmps118
      go_wp2_with fail
      go_ret
      exact ⟨by rw [HE.out]; simp, rfl⟩
    · have HE : Hid (withinB n = false) := by unfold withinB; exact decide_eq_false (by omega)
      go_enter Tryz.func118, Tryz.ntmps118
      go_wp2_with fail
      go_ret
      exact ⟨by rw [HE.out]; simp, rfl⟩
  · have HE : Hid (withinB n = false) := by unfold withinB; exact decide_eq_false (by omega)
    go_enter Tryz.func118, Tryz.ntmps118
    go_wp2_with fail
    go_ret
    exact ⟨by rw [HE.out]; rfl, rfl⟩

def sameB (a b : Ent) : Bool := a.kind == b.kind && a.slot == b.slot && a.n == b.n && decide (a.bytes = b.bytes)
set_option maxHeartbeats 1000000 in
theorem Same_any (k1 s1 n1 k2 s2 n2 : Int) (v1 v2 : Value) (b1 b2 : ByteArray) (w : World) (h1 : StrAt w v1 b1) (h2 : StrAt w v2 b2) :
    Calls Tryz.prog 22 #[.agg #[.int .u8 k1, .int .i64 s1, .int .i64 n1, v1], .agg #[.int .u8 k2, .int .i64 s2, .int .i64 n2, v2]] w fun e w' => e = .returned (.bool (sameB ⟨k1, s1, n1, b1⟩ ⟨k2, s2, n2, b2⟩)) ∧ Below w.heap.size w w' := by
  obtain ⟨a1, c1, rfl⟩ := h1.form
  obtain ⟨a2, c2, rfl⟩ := h2.form
  have H1 := Lib.hid h1
  have H2 := Lib.hid h2
  clear h1 h2
  have hb2 : Below w.heap.size w ((w.alloc (.cells #[.int .u8 k1, .int .i64 s1, .int .i64 n1, .slice a1 b1.size c1] 38)).alloc (.cells #[.int .u8 k2, .int .i64 s2, .int .i64 n2, .slice a2 b2.size c2] 38)) := ((Below.refl _ _).alloc (Nat.le_refl _) _).alloc (by simp) _
  have HB := Lib.hid hb2
  clear hb2
  by_cases hk : k1 = k2
  · by_cases hs : s1 = s2
    · by_cases hn : n1 = n2
      · subst hk hs hn
        have HE : Hid (sameB ⟨k1, s1, n1, b1⟩ ⟨k1, s1, n1, b2⟩ = decide (b1 = b2)) := by simp [Hid, sameB]
        go_enter Tryz.func22, Tryz.ntmps22
        go_wp2_with fail
        refine (EqualB_any _ _ b1 b2 _ (StrAt.below H1.out HB.out) (StrAt.below H2.out HB.out)).mono ?_; rintro e w' ⟨rfl, rfl⟩
        go_wp2_with fail
        go_ret
        exact ⟨by rw [HE.out]; rfl, HB.out⟩
      · have hn' : (n1 == n2) = false := by simpa using hn
        have HE : Hid (sameB ⟨k1, s1, n1, b1⟩ ⟨k2, s2, n2, b2⟩ = false) := by simp [Hid, sameB, hn]
        subst hk hs
        clear hn
        go_enter Tryz.func22, Tryz.ntmps22
        go_wp2_with fail
        go_ret
        exact ⟨by rw [HE.out]; rfl, HB.out⟩
    · have hs' : (s1 == s2) = false := by simpa using hs
      have HE : Hid (sameB ⟨k1, s1, n1, b1⟩ ⟨k2, s2, n2, b2⟩ = false) := by simp [Hid, sameB, hs]
      subst hk
      clear hs
      go_enter Tryz.func22, Tryz.ntmps22
      go_wp2_with fail
      go_ret
      exact ⟨by rw [HE.out]; rfl, HB.out⟩
  · have hk' : (k1 == k2) = false := by simpa using hk
    have HE : Hid (sameB ⟨k1, s1, n1, b1⟩ ⟨k2, s2, n2, b2⟩ = false) := by simp [Hid, sameB, hk]
    clear hk
    go_enter Tryz.func22, Tryz.ntmps22
    go_wp2_with fail
    go_ret
    exact ⟨by rw [HE.out]; rfl, HB.out⟩

def cleanB (e : Ent) : Bool :=
  if e.kind = 1 then withinB e.slot && (e.n == 0 && decide (e.bytes.size ≤ 16384))
  else if e.kind = 2 then sameB e ⟨2, 0, 0, ByteArray.empty⟩
  else if e.kind = 3 then withinB e.n && sameB e ⟨3, 0, e.n, ByteArray.empty⟩
  else false
set_option maxHeartbeats 1000000 in
theorem Clean_any (k s n : Int) (v : Value) (b : ByteArray) (w : World) (h : StrAt w v b) :
    Calls Tryz.prog 83 #[.agg #[.int .u8 k, .int .i64 s, .int .i64 n, v]] w fun e w' => e = .returned (.bool (cleanB ⟨k, s, n, b⟩)) ∧ Below w.heap.size w w' := by
  obtain ⟨a, c, rfl⟩ := h.form
  have hb : Below w.heap.size w (w.alloc (.cells #[.int .u8 k, .int .i64 s, .int .i64 n, .slice a b.size c] 38)) := (Below.refl _ _).alloc (Nat.le_refl _) _
  have HB := Lib.hid hb
  have H := Lib.hid (StrAt.below h hb)
  clear hb h
  by_cases h1 : k = 1
  · subst h1
    by_cases hs : withinB s = true
    · by_cases hn : n = 0
      · subst hn
        by_cases hl : (b.size : Int) ≤ 16384
        · have HE : Hid (cleanB ⟨1, s, 0, b⟩ = true) := by simp [Hid, cleanB, hs]; omega
          go_enter Tryz.func83, Tryz.ntmps83
          go_wp2_with fail
          refine (within_any _ _).mono ?_; rintro e w' ⟨rfl, rfl⟩
          go_wp2_with fail
          go_ret
          exact ⟨by rw [HE.out]; simp, HB.out⟩
        · have HE : Hid (cleanB ⟨1, s, 0, b⟩ = false) := by simp [Hid, cleanB, hs]; omega
          go_enter Tryz.func83, Tryz.ntmps83
          go_wp2_with fail
          refine (within_any _ _).mono ?_; rintro e w' ⟨rfl, rfl⟩
          go_wp2_with fail
          go_ret
          exact ⟨by rw [HE.out]; simp; omega, HB.out⟩
      · have hn' : (n == 0) = false := by simpa using hn
        have HE : Hid (cleanB ⟨1, s, n, b⟩ = false) := by simp [Hid, cleanB, hn]
        clear hn
        go_enter Tryz.func83, Tryz.ntmps83
        go_wp2_with fail
        refine (within_any _ _).mono ?_; rintro e w' ⟨rfl, rfl⟩
        go_wp2_with fail
        go_ret
        exact ⟨by rw [HE.out]; simp, HB.out⟩
    · have hs' : withinB s = false := by simpa using hs
      have HE : Hid (cleanB ⟨1, s, n, b⟩ = false) := by simp [Hid, cleanB, hs']
      clear hs
      go_enter Tryz.func83, Tryz.ntmps83
      go_wp2_with fail
      refine (within_any _ _).mono ?_; rintro e w' ⟨rfl, rfl⟩
      go_wp2_with fail
      go_ret
      exact ⟨by rw [HE.out]; simp, HB.out⟩
  · by_cases h2 : k = 2
    · subst h2
      have HE : Hid (cleanB ⟨2, s, n, b⟩ = sameB ⟨2, s, n, b⟩ ⟨2, 0, 0, ByteArray.empty⟩) := by simp [Hid, cleanB]
      clear h1
      go_enter Tryz.func83, Tryz.ntmps83
      go_wp2_with fail
      refine (Same_any 2 s n 2 0 0 _ _ b ByteArray.empty _ H.out (StrAt.nil _)).mono ?_; rintro e w' ⟨rfl, hb2⟩
      have HB2 := Lib.hid (below_step_ HB.out hb2)
      clear hb2
      go_wp2_with fail
      go_ret
      exact ⟨by rw [HE.out]; rfl, HB2.out⟩
    · by_cases h3 : k = 3
      · subst h3
        clear h1 h2
        by_cases hn : withinB n = true
        · have HE : Hid (cleanB ⟨3, s, n, b⟩ = sameB ⟨3, s, n, b⟩ ⟨3, 0, n, ByteArray.empty⟩) := by simp [Hid, cleanB, hn]
          go_enter Tryz.func83, Tryz.ntmps83
          go_wp2_with fail
          refine (within_any _ _).mono ?_; rintro e w' ⟨rfl, rfl⟩
          go_wp2_with fail
          refine (Same_any 3 s n 3 0 n _ _ b ByteArray.empty _ H.out (StrAt.nil _)).mono ?_; rintro e w' ⟨rfl, hb2⟩
          have HB2 := Lib.hid (below_step_ HB.out hb2)
          clear hb2
          go_wp2_with fail
          go_ret
          exact ⟨by rw [HE.out]; rfl, HB2.out⟩
        · have hn' : withinB n = false := by simpa using hn
          have HE : Hid (cleanB ⟨3, s, n, b⟩ = false) := by simp [Hid, cleanB, hn']
          clear hn
          go_enter Tryz.func83, Tryz.ntmps83
          go_wp2_with fail
          refine (within_any _ _).mono ?_; rintro e w' ⟨rfl, rfl⟩
          go_wp2_with fail
          go_ret
          exact ⟨by rw [HE.out]; rfl, HB.out⟩
      · have h1' : (k == 1) = false := by simpa using h1
        have h2' : (k == 2) = false := by simpa using h2
        have h3' : (k == 3) = false := by simpa using h3
        have HE : Hid (cleanB ⟨k, s, n, b⟩ = false) := by simp [Hid, cleanB, h1, h2, h3]
        clear h1 h2 h3
        go_enter Tryz.func83, Tryz.ntmps83
        go_wp2_with fail
        go_ret
        exact ⟨by rw [HE.out]; rfl, HB.out⟩

theorem ScrAt.at_ {W : World} {a : Option Addr} {n : Nat} {es : List Ent} (h : ScrAt W a n es) {i : Nat} (hi : i < es.length) : ∃ b o v sa sc, a = some ⟨b, o, none⟩ ∧ b < W.heap.size ∧ W.cell? ⟨b, o + i * 4, none⟩ = some (.int .u8 es[i].kind) ∧ W.cell? ⟨b, o + i * 4 + 1, none⟩ = some (.int .i64 es[i].slot) ∧ W.cell? ⟨b, o + i * 4 + 2, none⟩ = some (.int .i64 es[i].n) ∧ W.cell? ⟨b, o + i * 4 + 3, none⟩ = some v ∧ StrAt W v es[i].bytes ∧ v = .slice sa es[i].bytes.size sc := by
  obtain ⟨b, o, e, v, h0, h1, h2, h3, h4⟩ := h.2 i _ (List.getElem?_eq_getElem hi)
  obtain ⟨sa, sc, e2⟩ := h4.form
  exact ⟨b, o, v, sa, sc, e, World.block_lt_of_cell? W _ h0, h0, h1, h2, h3, h4, e2⟩
def badAt (es : List Ent) : Nat := es.findIdx (fun e => !cleanB e)
theorem badAt_le (es : List Ent) : badAt es ≤ es.length := List.findIdx_le_length
def chkI (es : List Ent) : Int := if 4000 < es.length then -1 else if badAt es < es.length then (badAt es : Int) else -1
def chkE (es : List Ent) : Int := if 4000 < es.length then 5 else if badAt es < es.length then 410 else 0
set_option maxHeartbeats 1000000 in
theorem Check_any (a : Option Addr) (n c : Nat) (es : List Ent) (W : World) (h : ScrAt W a n es) (hn : n ≤ maxLen) :
    Calls Tryz.prog 38 #[.slice a n c] W fun e w' => e = .returned (.tuple #[.int .i64 (chkI es), .int .i64 (chkE es)]) ∧ Below W.heap.size W w' := by
  have hl := h.1
  unfold maxLen at hn
  by_cases hm : 4000 < n
  · have hmI : (4000 : Int) < n := by omega
    have HI : Hid (chkI es = -1) := by simp [Hid, chkI, hl, hm]
    have HE : Hid (chkE es = 5) := by simp [Hid, chkE, hl, hm]
    clear hl h
    go_enter Tryz.func38, Tryz.ntmps38
    go_wp2_with fail
    go_step3
    go_wp2_with fail
    rw [Exit.noGoto_ret]
    go_ret2
    exact ⟨by rw [HI.out, HE.out]; rfl, Below.refl _ _⟩
  · have hmI : ¬ (4000 : Int) < n := by omega
    have HI : Hid (chkI es = if badAt es < es.length then (badAt es : Int) else -1) := by simp [Hid, chkI, hl, hm]
    have HE : Hid (chkE es = if badAt es < es.length then 410 else 0) := by simp [Hid, chkE, hl, hm]
    have H := Lib.hid h
    have HL := Lib.hid hl
    clear hl h
    go_enter Tryz.func38, Tryz.ntmps38
    go_wp2_with fail
    go_step3
    go_wp2_with fail
    go_step3
    go_wp2_with fail
    go_loopw [12, 5, 6, 4, 14, 15, 16] (fun i _ _ a4 _ _ _ wr => ∃ k : Nat, k ≤ n ∧ i = .int .i64 k ∧ a4 = .int .i64 (-1) ∧ Hid (k ≤ badAt es) ∧ Hid (Below W.heap.size W wr)) (fun i _ _ _ _ _ _ _ => n - (intOf i).toNat)
    case atStart => exact ⟨0, Nat.zero_le _, rfl, rfl, Nat.zero_le _, Below.refl _ _⟩
    case round =>
      obtain ⟨k, hk, rfl, rfl, HKB, HB⟩ := hrel
      by_cases hlt : k < n
      · have hltI : (k : Int) < n := by omega
        have hk2 : k < es.length := by have := HL.out; omega
        obtain ⟨b, o, v, sa, sc, rfl, hbl, c0, c1, c2, c3, hst, rfl⟩ := (H.out.below HB.out).at_ hk2
        have hb2 : Below wr.heap.size wr (wr.alloc (.cells #[.int .u8 es[k].kind, .int .i64 es[k].slot, .int .i64 es[k].n, .slice sa es[k].bytes.size sc] 38)) := (Below.refl _ _).alloc (Nat.le_refl _) _
        have HB2 := Lib.hid (below_step_ HB.out hb2)
        have HST := Lib.hid (StrAt.below hst hb2)
        clear hst hb2 hbl
        by_cases hcl : cleanB es[k] = true
        · have HN : Hid (k + 1 ≤ badAt es) := by
            have h1 := HKB.out
            rcases Nat.lt_or_ge k (badAt es) with h2 | h2
            · exact h2
            · exfalso
              have h3 : badAt es = k := by omega
              have h4 : badAt es < es.length := by omega
              have := List.findIdx_getElem (p := fun e => !cleanB e) (w := h4)
              have h5 : es[badAt es]'h4 = es[k] := by congr 1
              unfold badAt at h4 h5
              rw [h5] at this
              simp [hcl] at this
          have HC := Lib.hid (Clean_any es[k].kind es[k].slot es[k].n (.slice sa es[k].bytes.size sc) es[k].bytes _ HST.out)
          generalize hz : es[k] = z at *
          have HCL := Lib.hid hcl
          clear hz hcl hk2
          go_wp2_with fail
          refine HC.out.mono ?_; rintro e w' ⟨rfl, hb3⟩
          have HB3 := Lib.hid (below_step_ HB2.out hb3)
          rw [show (⟨z.kind, z.slot, z.n, z.bytes⟩ : Ent) = z from rfl, HCL.out]
          clear hb3
          go_wp2_with fail
          exact ⟨⟨k + 1, by omega, by simp, rfl, HN.out, HB3.out⟩, by simp [intOf]; omega⟩
        · have HN : Hid (badAt es = k) := by
            have h1 := HKB.out
            rcases Nat.lt_or_ge k (badAt es) with h2 | h2
            · exfalso
              have := List.not_of_lt_findIdx (p := fun e => !cleanB e) h2
              simp at this
              exact hcl this
            · show badAt es = k
              omega
          have hcl' : cleanB es[k] = false := by simpa using hcl
          have HC := Lib.hid (Clean_any es[k].kind es[k].slot es[k].n (.slice sa es[k].bytes.size sc) es[k].bytes _ HST.out)
          generalize hz : es[k] = z at *
          have HCL := Lib.hid hcl'
          have hkI : ¬ (k : Int) < 0 := by omega
          have hkJ : (0 : Int) ≤ k := by omega
          clear hz hcl hcl'
          have HK2 := Lib.hid hk2
          clear hk2
          go_wp2_with fail
          refine HC.out.mono ?_; rintro e w' ⟨rfl, hb3⟩
          have HB3 := Lib.hid (below_step_ HB2.out hb3)
          rw [show (⟨z.kind, z.slot, z.n, z.bytes⟩ : Ent) = z from rfl, HCL.out]
          clear hb3
          go_wp2_with fail
          rw [Exit.noGoto_ret]
          go_ret2
          refine ⟨?_, HB3.out⟩
          rw [HI.out, HE.out, HN.out, if_pos HK2.out, if_pos HK2.out]
          rfl
      · obtain rfl : k = n := by omega
        have HN : Hid (¬ badAt es < es.length) := by
          have h1 := HKB.out
          have h2 := HL.out
          show ¬ badAt es < es.length
          omega
        go_wp2_with fail
        rw [Exit.noGoto_ret]
        go_ret2
        refine ⟨?_, HB.out⟩
        rw [HI.out, HE.out, if_neg HN.out, if_neg HN.out]
        rfl
end View
end Go.Proofs.YtdfmgneicdpjmaaGreat

/- view.wrong; of, chosen. -/
namespace Go.Proofs.YtdfmgneicdpjmaaGreat
open Go.RowKit Go.Shelf
set_option linter.unusedVariables false
set_option linter.unusedSimpArgs false
set_option maxRecDepth 100000
namespace View
open Resp

/-- A slice that came in, with its entries. -/
structure Scr where
  a : Option Addr
  n : Nat
  c : Nat
  es : List Ent
def ScrsAt (W : World) (g : Nat) (l : List Scr) : Prop := ∀ i x, l[i]? = some x → W.cell? ⟨g, i, none⟩ = some (.slice x.a x.n x.c) ∧ ScrAt W x.a x.n x.es ∧ x.n ≤ maxLen
theorem ScrsAt.mod {S : Nat → Prop} {W W' : World} {g : Nat} {l : List Scr} (h : ScrsAt W g l) (hm : Mod S W W') (hS : ∀ q, ¬ S q) : ScrsAt W' g l := fun i x hx => ⟨hm.cell (hS _) (h i x hx).1, (h i x hx).2.1.mod hm hS, (h i x hx).2.2⟩
def firstE : List Scr → Int
  | [] => 0
  | x :: t => if chkE x.es = 0 then firstE t else chkE x.es
theorem firstE_at : ∀ (l : List Scr) (k : Nat) (hk : k < l.length), (∀ j (hj : j < l.length), j < k → chkE l[j].es = 0) → ¬ chkE l[k].es = 0 → firstE l = chkE l[k].es
  | x :: t, 0, hk, _, h0 => by simp [firstE] at h0 ⊢; intro h; exact absurd h h0
  | x :: t, k + 1, hk, h, h0 => by
    have h1 := h 0 (by simp) (by omega)
    simp at h1
    simp only [firstE, h1, if_true, List.getElem_cons_succ]
    exact firstE_at t k (by simpa using hk) (fun j hj hjk => by have := h (j + 1) (by simpa using hj) (by omega); simpa using this) (by simpa using h0)
theorem firstE_none : ∀ (l : List Scr), (∀ j (hj : j < l.length), chkE l[j].es = 0) → firstE l = 0
  | [], _ => rfl
  | x :: t, h => by
    have h1 := h 0 (by simp)
    simp at h1
    simp only [firstE, h1, if_true]
    exact firstE_none t fun j hj => by have := h (j + 1) (by simpa using hj); simpa using this
def wrongE (slot : Int) (l : List Scr) : Int := if firstE l = 0 then (if slot < 0 ∨ 4294967295 < slot then 2 else 0) else firstE l
set_option maxHeartbeats 1000000 in
theorem wrong_any (slot : Int) (g m c : Nat) (l : List Scr) (hl : l.length = m) (hm : m ≤ 1000) (W : World) (h : ScrsAt W g l) :
    Calls Tryz.prog 60 #[.int .i64 slot, .slice (some ⟨g, 0, none⟩) m c] W fun e w' => e = .returned (.int .i64 (wrongE slot l)) ∧ Below W.heap.size W w' := by
  have H := Lib.hid h
  have HL := Lib.hid hl
  clear h hl
  go_enter Tryz.func60, Tryz.ntmps60
  go_wp2_with fail
  go_loopw [11, 6, 7, 8] (fun i _ _ _ wr => ∃ k : Nat, k ≤ m ∧ i = .int .i64 k ∧ Hid (∀ j (hj : j < l.length), j < k → chkE l[j].es = 0) ∧ Hid (Below W.heap.size W wr)) (fun i _ _ _ _ => m - (intOf i).toNat)
  case atStart => exact ⟨0, Nat.zero_le _, rfl, fun j hj h => absurd h (Nat.not_lt_zero _), Below.refl _ _⟩
  case round =>
    obtain ⟨k, hk, rfl, HZ, HB⟩ := hrel
    by_cases hlt : k < m
    · have hltI : (k : Int) < m := by omega
      have hk2 : k < l.length := by have := HL.out; omega
      obtain ⟨hc, hs, hn⟩ := (H.out.mod (S := fun _ => False) (Mod.of_same HB.out) (by simp)) k _ (List.getElem?_eq_getElem hk2)
      have HC := Lib.hid (Check_any l[k].a l[k].n l[k].c l[k].es wr hs hn)
      by_cases he : chkE l[k].es = 0
      · have HZ2 : Hid (∀ j (hj : j < l.length), j < k + 1 → chkE l[j].es = 0) := fun j hj h => by
          rcases Nat.lt_or_ge j k with h2 | h2
          · exact HZ.out j hj h2
          · obtain rfl : j = k := by omega
            exact he
        rw [he] at HC
        clear hs hn he
        generalize l[k] = z at *
        clear hk2
        go_wp2_with fail
        refine HC.out.mono ?_; rintro e w' ⟨rfl, hb3⟩
        have HB3 := Lib.hid (below_step_ HB.out hb3)
        clear hb3
        go_wp2_with fail
        exact ⟨⟨k + 1, by omega, by simp, HZ2.out, HB3.out⟩, by simp [intOf]; omega⟩
      · have HF : Hid (wrongE slot l = chkE l[k].es) := by
          have h1 := firstE_at l k hk2 HZ.out he
          simp [Hid, wrongE, h1, he]
        have he' : (chkE l[k].es != 0) = true := by simpa using he
        clear hs hn he
        generalize hzz : chkE l[k].es = y at *
        generalize l[k] = z at *
        clear hk2 hzz
        go_wp2_with fail
        refine HC.out.mono ?_; rintro e w' ⟨rfl, hb3⟩
        have HB3 := Lib.hid (below_step_ HB.out hb3)
        clear hb3
        go_wp2_with fail
        go_ret
        exact ⟨by rw [HF.out]; rfl, HB3.out⟩
    · obtain rfl : k = m := by omega
      have hF := firstE_none l (fun j hj => HZ.out j hj (by have := HL.out; omega))
      by_cases h1 : slot < 0
      · have HF : Hid (wrongE slot l = 2) := by simp [Hid, wrongE, hF, h1]
        clear hF
        go_wp2_with fail
        go_ret
        exact ⟨by rw [HF.out]; rfl, HB.out⟩
      · by_cases h2 : 4294967295 < slot
        · have HF : Hid (wrongE slot l = 2) := by simp [Hid, wrongE, hF, h2]
          clear hF
          go_wp2_with fail
          go_ret
          exact ⟨by rw [HF.out]; rfl, HB.out⟩
        · have HF : Hid (wrongE slot l = 0) := by simp [Hid, wrongE, hF]; omega
          clear hF
          go_wp2_with fail
          go_ret
          exact ⟨by rw [HF.out]; rfl, HB.out⟩

/-- of: the closure, and the variable that it keeps. -/
theorem of_any (slot : Int) (w : World) : Calls Tryz.prog 61 #[.int .i64 slot] w fun e w' => e = .returned (.func (.func 100) #[] #[.pointer (some ⟨w.heap.size, 0, none⟩)]) ∧ w' = w.alloc (.cells #[.int .i64 slot] 3) := by
  go_enter Tryz.func61, Tryz.ntmps61
  go_wp2_with fail
  go_ret
  exact ⟨rfl, rfl⟩
def ownB (slot : Int) (e : Ent) : Bool := e.kind == 1 && e.slot == slot
/-- A function that tells something of an entry, and keeps nothing. -/
def IsAt (F : Value) (p : Ent → Bool) (G : World → Prop) : Prop := ∃ f cs, F = .func (.func f) #[] cs ∧ (∀ (args : Array Value) (w : World), (callFunc f args).run Tryz.prog w = .ok (.enter f args) w) ∧ ∀ (e : Ent) (v : Value) (W : World), G W → StrAt W v e.bytes →
  Calls Tryz.prog f (#[.agg #[.int .u8 e.kind, .int .i64 e.slot, .int .i64 e.n, v]] ++ cs) W fun r w' => r = .returned (.bool (p e)) ∧ Below W.heap.size W w'
theorem of1_any (slot : Int) (b : Nat) (e : Ent) (v : Value) (W : World) (hv : StrAt W v e.bytes) (hb : W.cell? ⟨b, 0, none⟩ = some (.int .i64 slot)) :
    Calls Tryz.prog 100 #[.agg #[.int .u8 e.kind, .int .i64 e.slot, .int .i64 e.n, v], .pointer (some ⟨b, 0, none⟩)] W fun r w' => r = .returned (.bool (ownB slot e)) ∧ Below W.heap.size W w' := by
  obtain ⟨a, c, rfl⟩ := hv.form
  have hbz : Below W.heap.size W (W.alloc (.cells #[.int .u8 e.kind, .int .i64 e.slot, .int .i64 e.n, .slice a e.bytes.size c] 38)) := (Below.refl _ _).alloc (Nat.le_refl _) _
  have hbl := World.block_lt_of_cell? W _ hb
  have c1 := hbz.cell (p := ⟨b, 0, none⟩) hbl
  rw [hb] at c1
  have HB := Lib.hid hbz
  clear hv hbz hbl hb
  by_cases hk : e.kind = 1
  · by_cases hs : e.slot = slot
    · have HE : Hid (ownB slot e = true) := by simp [Hid, ownB, hk, hs]
      rw [hk] at c1 HB ⊢
      rw [hs] at c1 HB ⊢
      clear hk hs
      go_enter Tryz.func100, Tryz.ntmps100
      go_wp2_with fail
      go_ret
      exact ⟨by rw [HE.out]; rfl, HB.out⟩
    · have hs' : (e.slot == slot) = false := by simpa using hs
      have HE : Hid (ownB slot e = false) := by simp [Hid, ownB, hs]
      rw [hk] at c1 HB ⊢
      clear hk hs
      go_enter Tryz.func100, Tryz.ntmps100
      go_wp2_with fail
      go_ret
      exact ⟨by rw [HE.out]; rfl, HB.out⟩
  · have hk' : (e.kind == 1) = false := by simpa using hk
    have HE : Hid (ownB slot e = false) := by simp [Hid, ownB, hk]
    clear hk
    go_enter Tryz.func100, Tryz.ntmps100
    go_wp2_with fail
    go_ret
    exact ⟨by rw [HE.out]; rfl, HB.out⟩
theorem chosen_any (lv iv : Value) (hl : ∃ a n c, lv = .slice a n c) (hi : ∃ f cs, iv = .func (.func f) #[] cs) (w : World) :
    Calls Tryz.prog 63 #[lv, iv] w fun e w' => e = .returned (.func (.func 101) #[] #[.pointer (some ⟨w.heap.size, 0, none⟩), .pointer (some ⟨w.heap.size + 1, 0, none⟩)]) ∧ w' = (w.alloc (.cells #[lv] 27)).alloc (.cells #[iv] 117) := by
  obtain ⟨a, n, c, rfl⟩ := hl
  obtain ⟨f, cs, rfl⟩ := hi
  go_enter Tryz.func63, Tryz.ntmps63
  go_wp2_with fail
  go_ret
  exact ⟨rfl, rfl⟩
end View
end Go.Proofs.YtdfmgneicdpjmaaGreat

/- As FermRange, where what is yielded may be held against the world ahead of the round. A range over a function whose own rounds write what lay ahead of the loop: the iterator has a state of its own (St), the body another (I), and each keeps the other's. -/
namespace Go.Proofs.YtdfmgneicdpjmaaGreat
open Go.RowKit Go.Shelf
set_option linter.unusedVariables false

/-- An iterator that yields just N times; Ya k x W0 W: what holds where it yields x as its round k, W0 the world that the loop left. -/
def SeqFr {α : Type} (F : Fence) (n : Nat) (P : Program) (gf : Nat) (lb : Array Value) (encs : α → Array Value) (Sw : Nat → Prop) (St : Nat → World → Prop) (Ya : Nat → α → World → World → Prop) (N : Nat) : Prop :=
  ∀ (l : Nat) (J : Nat → World → Prop) (W : World), St 0 W → (∀ k A B, J k A → Mod Sw A B → J k B) →
    (∀ k x W0 W1, k < N → J k W0 → Mod Sw W0 W1 → Ya k x W0 W1 → YieldAt F (n - 1) P l (encs x) W1 fun e W' => e = .returned (.bool true) ∧ J (k + 1) W' ∧ St (k + 1) W') →
    J 0 W → CallsIn F n P gf (#[.func (.yield l) #[] #[]] ++ lb) W fun e W' => (∃ v, e = .returned v) ∧ J N W' ∧ St N W'

theorem wpIn_rangeFunc_st3 {F : Fence} {n : Nat} {P : Program} {α : Type} {g : Operand} {ps : Array Tmp} {assign body : Code} {Q : Exit → Act → World → Prop} {a : Act} {w : World}
    (hro : F.round = none) (h1 : 1 ≤ n) {gf : Nat} {lb : Array Value} (hg : a.eval g = .func (.func gf) #[] lb) (hFg : F.fn gf) (eg : ∀ args w, (callFunc gf args).run P w = .ok (.enter gf args) w)
    {encs : α → Array Value} (hps : ∀ x, (encs x).size = ps.size) {Sw : Nat → Prop} {St : Nat → World → Prop} {Ya : Nat → α → World → World → Prop} {N : Nat}
    (hseq : SeqFr F (n - 1) P gf lb encs Sw St Ya N) (hSw : ∀ k, Sw k → k < w.heap.size)
    (hStA : ∀ B, Below w.heap.size w B → St 0 B)
    (hStP : ∀ k A l o o', w.heap.size ≤ l → A.heap[l]? = some o → o.isCells = false → St k A → St k (A.putObj l o'))
    (I : Nat → World → Prop) (hIS : ∀ k A B, I k A → Mod Sw A B → I k B)
    (hIP : ∀ k A l o o', w.heap.size ≤ l → A.heap[l]? = some o → o.isCells = false → I k A → I k (A.putObj l o'))
    (h0 : I 0 w) (As : Nat → Act → World → Prop)
    (hAsP : ∀ k a' A l o o', w.heap.size ≤ l → A.heap[l]? = some o → o.isCells = false → As k a' A → As k a' (A.putObj l o'))
    (hassign : ∀ (l k : Nat) (x : α) (W0 W : World) (K : Act → World → Prop), k < N → w.heap.size ≤ W0.heap.size → I k W0 → Mod Sw W0 W → Ya k x W0 W → (∀ a' W', KeepsFrom w.heap.size W W' → As k a' W' → K a' W') →
      assign.wpIn (F.inRound l) (n - 1 - 1) P (Exit.then K (fun _ _ _ => False)) { tmps := (ps.zip (encs x)).foldl (fun t (p, v) => t.setIfInBounds p v) a.tmps, defers := [] } W)
    (hbody : ∀ (l k : Nat) (a' : Act) (W : World), k < N → As k a' W → body.wpIn (F.inRound l) (n - 1 - 1) P (stPost w.heap.size (fun W' => I (k + 1) W' ∧ St (k + 1) W') W) a' W)
    (hdone : ∀ (D : Nat) (W : World), w.heap.size ≤ D → I N W → St N W → W.heap[D]? = some (.deferred (some [])) → Q .normal { a with defers := { target := .collected D, args := #[] } :: a.defers } W) :
    (Code.rangeFunc g ps assign body).wpIn F n P Q a w := by
  refine wpIn_rangeFunc ?_
  intro fn hfn
  rw [hro]
  obtain ⟨rec, hrec⟩ : ∃ rec : LoopState → Option Code → Loop, rec = fun st pe => { state := st, pending := pe, fn, tmps := a.tmps, params := ps, assign, body, defers := w.heap.size } := ⟨_, rfl⟩
  generalize hX : w.heap.size = X at *
  have hm1 : Mod Sw w ((w.alloc (.deferred (some []))).alloc (.loop (rec .ready none))) := ((Mod.refl _ _).alloc _).alloc _
  have hb1 : Below X w ((w.alloc (.deferred (some []))).alloc (.loop (rec .ready none))) := ((Below.refl _ w).alloc (Nat.le_of_eq hX.symm) _).alloc (by simp; omega) _
  have hL1 : ((w.alloc (.deferred (some []))).alloc (.loop (rec .ready none))).heap[X + 1]? = some (.loop (rec .ready none)) := by
    have := World.alloc_heap_new (w.alloc (.deferred (some []))) (.loop (rec .ready none)); rwa [World.size_alloc, hX] at this
  have hK1 : ((w.alloc (.deferred (some []))).alloc (.loop (rec .ready none))).heap[X]? = some (.deferred (some [])) := by
    have := World.alloc_heap_new w (.deferred (some [])); rw [hX] at this
    exact (Below.heap_alloc _ _ _ (by simp; omega)).trans this
  have hblk : ∀ {A B : World} {q : Nat} {o : Obj}, Mod Sw A B → X ≤ q → A.heap[q]? = some o → B.heap[q]? = some o := fun hm hq ho =>
    (hm.block _ (Array.getElem?_eq_some_iff.1 ho).1 (fun hs => by have := hSw _ hs; omega)).trans ho
  have hstart := run_enterLoop_outer (P := P) (w := w) fn a.tmps ps assign body
  rw [hX] at hstart
  generalize hW1 : (w.alloc (.deferred (some []))).alloc (.loop (rec .ready none)) = W1 at *
  refine ⟨X + 1, [{ target := .collected X, args := #[] }], W1, { target := .fn (.func gf) lb, args := #[.func (.yield (X + 1)) #[] #[]] }, W1, gf, #[.func (.yield (X + 1)) #[] #[]] ++ lb, W1, ?_, ?_, ?_, ?_, fun _ => h1, ?_⟩
  · rw [hstart, ← hW1, hrec]
  · simp only [resolve, hg]
    simp [go_sem]
  · intro f' hf'; simp [Target.leads] at hf'; subst hf'; exact hFg
  · simp [invoke, go_sem, eg]
  · refine (hseq (X + 1) (fun k W => I k W ∧ W.heap[X + 1]? = some (.loop (rec .ready none)) ∧ W.heap[X]? = some (.deferred (some []))) W1 (hStA _ hb1)
      (fun k A B hJ hm => ⟨hIS k A B hJ.1 hm, hblk hm (by omega) hJ.2.1, hblk hm (Nat.le_refl _) hJ.2.2⟩) ?_ ⟨hIS 0 w W1 h0 hm1, hL1, hK1⟩).mono ?_
    · rintro k x W0 W hk ⟨hi, hl0, hd0⟩ hm0 hya
      have hl := hblk hm0 (by omega) hl0
      have hd := hblk hm0 (Nat.le_refl _) hd0
      have hy := run_yield (P := P) (args := encs x) hl (by rw [hrec]; exact hps x)
      rw [hrec] at hy
      refine ⟨fn, _, assign, body, hy, roundIn_of_wpIn hfn (hassign _ k x W0 W _ hk (by have := (Array.getElem?_eq_some_iff.1 hl0).1; omega) hi hm0 hya (fun a' W' hkf has => ?_))⟩
      have hl' := hkf.same _ _ (by omega) hl rfl
      have hd' := hkf.same _ _ (Nat.le_refl _) hd rfl
      refine ⟨_, run_beginRound hl' (by rw [hrec]), ?_⟩
      have hlt : X + 1 < W'.heap.size := (Array.getElem?_eq_some_iff.1 hl').1
      have hl2 : (W'.putObj (X + 1) (.loop { rec .ready none with state := .busy })).heap[X + 1]? = some (.loop { rec .ready none with state := .busy }) := World.putObj_heap_same hlt
      have hd2 : (W'.putObj (X + 1) (.loop { rec .ready none with state := .busy })).heap[X]? = some (.deferred (some [])) := (World.putObj_heap_other (by omega)).trans hd'
      refine wpIn_mono (hbody _ k a' _ hk (hAsP k a' W' _ _ _ (by omega) hl' rfl has)) ?_
      rintro e a3 W3 hp
      cases e with
      | normal =>
        obtain ⟨hk3, hi3, hs3⟩ := hp
        have hl3 := hk3.same _ _ (by omega) hl2 rfl
        have hd3 := hk3.same _ _ (Nat.le_refl _) hd2 rfl
        have hr := run_endRound (P := P) none hl3
        refine ⟨_, _, hr, rfl, ⟨hIP _ _ _ _ _ (by omega) hl3 rfl hi3, ?_, ?_⟩, hStP _ _ _ _ _ (by omega) hl3 rfl hs3⟩
        · rw [World.putObj_heap_same (Array.getElem?_eq_some_iff.1 hl3).1, hrec]
          rfl
        · exact (World.putObj_heap_other (by omega)).trans hd3
      | ret => exact hp.elim
      | exit id => exact hp.elim
      | goto t => exact hp.elim
      | panic ch => exact hp.elim
      | outgrown => exact hp.elim
    · rintro e W2 ⟨⟨v, rfl⟩, ⟨hi, hl, hd⟩, hs⟩
      refine ⟨none, _, by have := run_endLoop (P := P) hl (by rw [hrec]; simp); rw [hrec] at this; exact this, ?_⟩
      exact hdone _ _ (Nat.le_refl _) (hIP _ _ _ _ _ (by omega) hl rfl hi) (hStP _ _ _ _ _ (by omega) hl rfl hs) ((World.putObj_heap_other (by omega)).trans hd)
end Go.Proofs.YtdfmgneicdpjmaaGreat

/- bytes.Clone and slices.Clone of any bytes. -/
namespace Go.Proofs.YtdfmgneicdpjmaaGreat
open Go.RowKit Go.Shelf
set_option linter.unusedVariables false
set_option linter.unusedSimpArgs false
set_option maxRecDepth 100000
namespace View
open Resp

/-- Bytes in a row of their own. -/
def FreshB (W : World) (base : Nat) (v : Value) (s : ByteArray) : Prop := ∃ zs : List Int, W.ownsRow base 5 1 v zs.length (u8s zs) ∧ strOfNums zs = s
theorem FreshB.str {W : World} {base : Nat} {v : Value} {s : ByteArray} (h : FreshB W base v s) : StrAt W v s := by
  obtain ⟨zs, h, e⟩ := h
  exact ⟨zs, Reads.of_owns (zs := zs) h, e⟩
theorem FreshB.mod {S : Nat → Prop} {W W' : World} {base : Nat} {v : Value} {s : ByteArray} (h : FreshB W base v s) (hm : Mod S W W') (hS : ∀ g, v.ownBlock = some g → ¬ S g) : FreshB W' base v s := by
  obtain ⟨zs, h, e⟩ := h
  exact ⟨zs, ownsRow_mod h hm hS, e⟩
theorem FreshB.base {W : World} {base base' : Nat} {v : Value} {s : ByteArray} (h : FreshB W base v s) (hb : base' ≤ base) : FreshB W base' v s := by
  obtain ⟨zs, h, e⟩ := h
  exact ⟨zs, ownsRow_base h hb, e⟩
theorem FreshB.nil (W : World) (base : Nat) : FreshB W base (.slice none 0 0) ByteArray.empty := ⟨[], owns_nil _ _ _ _, rfl⟩

theorem CloneB_any (v : Value) (s : ByteArray) (W : World) (h : StrAt W v s) (hl : s.size ≤ 140737488351232) :
    Calls Tryz.prog 59 #[v] W fun e w' => ∃ v', e = .returned v' ∧ FreshB w' W.heap.size v' s ∧ Below W.heap.size W w' := by
  obtain ⟨zs, hr, rfl⟩ := h
  rw [strOfNums_size] at hl
  have hcase : (∃ c, v = .slice none 0 c ∧ zs = []) ∨ ∃ ad c, v = .slice (some ad) zs.length c ∧ ∀ (w' : World), Below W.heap.size W w' → ∀ (j : Nat) (u : Value), (u8s zs)[j]? = some u → w'.cell? (ad.add j) = some u := by
    by_cases h0 : 0 < zs.length
    · obtain ⟨ad, c, e, -, hnw⟩ := Reads.lies_ hr h0
      exact .inr ⟨ad, c, e, hnw⟩
    · have hz : zs = [] := List.length_eq_zero_iff.1 (by omega)
      subst hz
      obtain ⟨a, c, rfl⟩ := Reads.form_ hr
      cases a with
      | none => exact .inl ⟨c, rfl, rfl⟩
      | some ad => exact .inr ⟨ad, c, rfl, fun w' _ j u hu => by simp [u8s] at hu⟩
  clear hr
  rcases hcase with ⟨c, rfl, rfl⟩ | ⟨ad, c, rfl, hnw⟩
  · have hnil : (binOp .eql 25 (.slice none 0 c) (.slice none 0 0)).run Tryz.prog W = .ok (.bool true) W := by kernel_rfl
    go_enter Tryz.func59, Tryz.ntmps59
    go_wp2_with fail
    go_ret
    exact ⟨_, rfl, FreshB.nil _ _, Below.refl _ _⟩
  · obtain ⟨i0, hi, hz0, hz1, hz2⟩ := info_parts infoByte
    have HNW := Lib.hid hnw
    clear hnw
    generalize hn : zs.length = n at *
    have HN := Lib.hid hn
    have hlI : (n : Int) ≤ 140737488351232 := by omega
    clear hn
    have hnil : (binOp .eql 25 (.slice (some ad) n c) (.slice none 0 0)).run Tryz.prog W = .ok (.bool false) W := by kernel_rfl
    go_enter Tryz.func59, Tryz.ntmps59
    go_wp2_with (at_builtin; refine wpList_append_own _ rfl _ _ 25 rfl W.heap.size 5 i0 (.int .u8 0) 1 1 Tryz.underlying25 hi hz0 hz1 hz2 rfl (by decide) _ _ _ rfl (World.ownsRow_lit W #[] 0 (Nat.le_refl _) (by unfold maxLen; omega) rfl) ad n c (u8s zs) rfl (by rw [u8s_length, HN.out, Nat.mul_one]) (HNW.out _ ((Below.refl _ _).alloc (Nat.le_refl _) _)) (u8s_one _) (by unfold maxLen; omega) (by omega) (by simp) ?_; intro v' w5 hown' hgrow hat; obtain ⟨a', c', e⟩ := ownsRow_form hown'; subst e; have HOWN := Lib.hid hown'; have HG := Lib.hid hgrow; clear hown' hgrow hat)
    go_ret
    have hm5 : Mod (fun k => some k = (Value.slice (some ⟨W.heap.size, 0, none⟩) 0 0).ownBlock) W w5 := ((Mod.refl _ W).alloc _).trans (Mod.of_grownBy HG.out)
    refine ⟨.slice a' n c', by simp, ⟨zs, by rw [HN.out]; simpa using HOWN.out, rfl⟩, hm5.below (Nat.le_refl _) (fun k hk e => by simp [Value.ownBlock] at e; omega)⟩

theorem sCloneB_any (v : Value) (s : ByteArray) (W : World) (h : StrAt W v s) (hl : s.size ≤ 140737488351232) :
    Calls Tryz.prog 80 #[v] W fun e w' => ∃ v', e = .returned v' ∧ FreshB w' W.heap.size v' s ∧ Below W.heap.size W w' := by
  obtain ⟨zs, hr, rfl⟩ := h
  rw [strOfNums_size] at hl
  have hcase : (∃ c, v = .slice none 0 c ∧ zs = []) ∨ ∃ ad c, v = .slice (some ad) zs.length c ∧ ∀ (w' : World), Below W.heap.size W w' → ∀ (j : Nat) (u : Value), (u8s zs)[j]? = some u → w'.cell? (ad.add j) = some u := by
    by_cases h0 : 0 < zs.length
    · obtain ⟨ad, c, e, -, hnw⟩ := Reads.lies_ hr h0
      exact .inr ⟨ad, c, e, hnw⟩
    · have hz : zs = [] := List.length_eq_zero_iff.1 (by omega)
      subst hz
      obtain ⟨a, c, rfl⟩ := Reads.form_ hr
      cases a with
      | none => exact .inl ⟨c, rfl, rfl⟩
      | some ad => exact .inr ⟨ad, c, rfl, fun w' _ j u hu => by simp [u8s] at hu⟩
  clear hr
  rcases hcase with ⟨c, rfl, rfl⟩ | ⟨ad, c, rfl, hnw⟩
  · have hnil : (binOp .eql 25 (.slice none 0 c) (.slice none 0 0)).run Tryz.prog W = .ok (.bool true) W := by kernel_rfl
    go_enter Tryz.func80, Tryz.ntmps80
    go_wp2_with fail
    go_ret
    exact ⟨_, rfl, FreshB.nil _ _, Below.refl _ _⟩
  · obtain ⟨i0, hi, hz0, hz1, hz2⟩ := info_parts infoByte
    have HNW := Lib.hid hnw
    clear hnw
    generalize hn : zs.length = n at *
    have HN := Lib.hid hn
    have hlI : (n : Int) ≤ 140737488351232 := by omega
    clear hn
    have hnil : (binOp .eql 25 (.slice (some ad) n c) (.slice none 0 0)).run Tryz.prog W = .ok (.bool false) W := by kernel_rfl
    go_enter Tryz.func80, Tryz.ntmps80
    go_wp2_with (at_builtin; refine wpList_append_own _ rfl _ _ 25 rfl W.heap.size 5 i0 (.int .u8 0) 1 1 Tryz.underlying25 hi hz0 hz1 hz2 rfl (by decide) _ _ _ rfl (World.ownsRow_lit W #[] 0 (Nat.le_refl _) (by unfold maxLen; omega) rfl) ad n c (u8s zs) rfl (by rw [u8s_length, HN.out, Nat.mul_one]) (HNW.out _ ((Below.refl _ _).alloc (Nat.le_refl _) _)) (u8s_one _) (by unfold maxLen; omega) (by omega) (by simp) ?_; intro v' w5 hown' hgrow hat; obtain ⟨a', c', e⟩ := ownsRow_form hown'; subst e; have HOWN := Lib.hid hown'; have HG := Lib.hid hgrow; clear hown' hgrow hat)
    go_ret
    have hm5 : Mod (fun k => some k = (Value.slice (some ⟨W.heap.size, 0, none⟩) 0 0).ownBlock) W w5 := ((Mod.refl _ W).alloc _).trans (Mod.of_grownBy HG.out)
    refine ⟨.slice a' n c', by simp, ⟨zs, by rw [HN.out]; simpa using HOWN.out, rfl⟩, hm5.below (Nat.le_refl _) (fun k hk e => by simp [Value.ownBlock] at e; omega)⟩
end View
end Go.Proofs.YtdfmgneicdpjmaaGreat

/- The iterator of view.chosen. -/
namespace Go.Proofs.YtdfmgneicdpjmaaGreat
open Go.RowKit Go.Shelf
attribute [local go_sem] Oper.semAt_some
set_option linter.unusedVariables false
set_option linter.unusedSimpArgs false
set_option maxRecDepth 100000
namespace View
open Resp

def ChSt (a : Option Addr) (n c : Nat) (iv : Value) (es : List Ent) (bl bi : Nat) (G : World → Prop) (W : World) : Prop :=
  W.heap[bl]? = some (.cells #[.slice a n c] 27) ∧ W.heap[bi]? = some (.cells #[iv] 117) ∧ ScrAt W a n es ∧ G W
theorem ChSt.mod {a : Option Addr} {n c : Nat} {iv : Value} {es : List Ent} {bl bi : Nat} {G : World → Prop} (hG : ∀ A B, G A → Mod (fun _ => False) A B → G B) {W W' : World} (h : ChSt a n c iv es bl bi G W) (hm : Mod (fun _ => False) W W') : ChSt a n c iv es bl bi G W' :=
  ⟨hm.heap h.1 (by simp), hm.heap h.2.1 (by simp), h.2.2.1.mod hm (by simp), hG _ _ h.2.2.2 hm⟩
def ChYa (a : Option Addr) (n c : Nat) (iv : Value) (es : List Ent) (p : Ent → Bool) (bl bi : Nat) (G : World → Prop) (k : Nat) (x : Value) (W0 W : World) : Prop :=
  ∃ e v, (es.filter p)[k]? = some e ∧ x = entV e v ∧ FreshB W W0.heap.size v e.bytes ∧ ChSt a n c iv es bl bi G W
theorem filter_take_succ {p : Ent → Bool} {es : List Ent} {k : Nat} (hk : k < es.length) : (es.take (k + 1)).filter p = (es.take k).filter p ++ if p es[k] then [es[k]] else [] := by
  rw [List.take_succ_eq_append_getElem hk, List.filter_append]
  congr 1
  by_cases h : p es[k] = true <;> simp [h]
theorem filter_at {p : Ent → Bool} {es : List Ent} {k : Nat} (hk : k < es.length) (hp : p es[k] = true) : (es.filter p)[((es.take k).filter p).length]? = some es[k] := by
  have h1 : es.filter p = (es.take (k + 1)).filter p ++ (es.drop (k + 1)).filter p := by rw [← List.filter_append, List.take_append_drop]
  rw [h1, filter_take_succ hk, if_pos hp]
  simp
theorem quad_cells_ {W : World} {g : Nat} {a b c d : Value} {T : TypeId} (h : W.heap[g]? = some (.cells #[a, b, c, d] T)) : W.cell? ⟨g, 0, none⟩ = some a ∧ W.cell? ⟨g, 1, none⟩ = some b ∧ W.cell? ⟨g, 2, none⟩ = some c ∧ W.cell? ⟨g, 3, none⟩ = some d ∧ W.frozen? ⟨g, 3, none⟩ = false := by
  refine ⟨?_, ?_, ?_, ?_, ?_⟩ <;> first | simp [World.cell?, h] | simp [World.frozen?, h]
set_option maxHeartbeats 4000000 in
theorem chosen1_fr (m : Nat) (hm : 1 ≤ m) (a : Option Addr) (n c : Nat) (iv : Value) (es : List Ent) (p : Ent → Bool) (bl bi : Nat) (G : World → Prop) (hG : ∀ A B, G A → Mod (fun _ => False) A B → G B) (hI : IsAt iv p G) (hb : ∀ e ∈ es, e.bytes.size ≤ 140737488351232) (hn : n ≤ maxLen) :
    SeqFr Fence.wide m Tryz.prog 101 #[.pointer (some ⟨bl, 0, none⟩), .pointer (some ⟨bi, 0, none⟩)] (fun x : Value => #[x]) (fun _ => False) (fun _ => ChSt a n c iv es bl bi G) (ChYa a n c iv es p bl bi G) (es.filter p).length := by
  intro l J W hS hJ hY h0
  obtain ⟨f, cs, rfl, eg, hcall⟩ := hI
  have HCALL := Lib.hid hcall
  have HS := Lib.hid hS
  have HJ := Lib.hid hJ
  have HY := Lib.hid hY
  have H0 := Lib.hid h0
  have HG := Lib.hid hG
  have HBY := Lib.hid hb
  obtain ⟨hh1, hh2, hsc, -⟩ := hS
  have HL := Lib.hid hsc.1
  have k1 := cell_of_heap_ hh1
  unfold maxLen at hn
  clear hcall hJ hY h0 hG hb hh1 hh2 hsc
  refine callsIn_of_wp Tryz.func101 rfl trivial ?_ rfl
  simp only [Tryz.ntmps101, List.size_toArray, List.length_cons, List.length_nil, Nat.reduceAdd, Nat.reduceSub, Array.replicate_succ, Array.replicate_zero, List.push_toArray, List.append_toArray, List.nil_append, List.cons_append]
  refine wpIn_wide.2 ?_
  go_wp2_with fail
  clear k1
  go_loopw [8] (fun i wr => ∃ k : Nat, k ≤ n ∧ i = .int .i64 k ∧ Hid (J ((es.take k).filter p).length wr) ∧ Hid (ChSt a n c (.func (.func f) #[] cs) es bl bi G wr)) (fun i _ => n - (intOf i).toNat)
  case atStart => exact ⟨0, Nat.zero_le _, rfl, by simpa using H0, HS⟩
  case round =>
    clear HS H0
    obtain ⟨k, hk, rfl, HJK, HST⟩ := hrel
    by_cases hlt : k < n
    · have hltI : (k : Int) < n := by omega
      have hk2 : k < es.length := by have := HL.out; omega
      obtain ⟨hh1, hh2, hsc, hg⟩ := HST.out
      have k2 := cell_of_heap_ hh2
      obtain ⟨b, o, v, sa, sc, rfl, hbl, c0, c1, c2, c3, hst, rfl⟩ := hsc.at_ hk2
      have hPne : ¬ bi = wr.heap.size := fun e => by have := (Array.getElem?_eq_some_iff.1 hh2).1; omega
      clear hh1 hh2 hsc hbl
      go_upto_region 3 with fail
      have hm1 : Mod (fun _ => False) wr (wr.alloc (.cells #[.int .u8 es[k].kind, .int .i64 es[k].slot, .int .i64 es[k].n, .slice sa es[k].bytes.size sc] 38)) := (Mod.refl _ _).alloc _
      have HP := Lib.hid (World.alloc_heap_new wr (.cells #[.int .u8 es[k].kind, .int .i64 es[k].slot, .int .i64 es[k].n, .slice sa es[k].bytes.size sc] 38))
      have HM1 := Lib.hid hm1
      have HST1 := Lib.hid (HST.out.mod HG.out hm1)
      have HV1 := Lib.hid (hst.mod hm1 (by simp))
      have HSZ := Lib.hid (HBY.out _ (List.getElem_mem hk2))
      have HFS := Lib.hid (filter_take_succ (p := p) hk2)
      have HFA := Lib.hid (filter_at (p := p) hk2)
      clear hm1 hst k2 c0 c1 c2 c3
      generalize hez : es[k] = e at *
      clear hez hk2
      generalize wr.alloc (.cells #[.int .u8 e.kind, .int .i64 e.slot, .int .i64 e.n, .slice sa e.bytes.size sc] 38) = W1 at *
      generalize hPw : wr.heap.size = P at *
      have HPW := Lib.hid hPw
      clear hPw
      have k2 := cell_of_heap_ HST1.out.2.1
      obtain ⟨p0, p1, p2, p3, pf⟩ := quad_cells_ HP.out
      go_wp2_with fail
      refine (HCALL.out e _ W1 HST1.out.2.2.2 HV1.out).mono ?_; rintro r W2 ⟨rfl, hb2⟩
      have HM2 : Hid (Mod (fun _ => False) W1 W2) := Mod.of_same hb2
      have HST2 := Lib.hid (HST1.out.mod HG.out HM2.out)
      have HP2 := Lib.hid (HM2.out.heap HP.out (by simp))
      have HV2 := Lib.hid (HV1.out.mod HM2.out (by simp))
      obtain ⟨p0, p1, p2, p3, pf⟩ := quad_cells_ HP2.out
      clear hb2 HST1 HP HV1
      by_cases hp : p e = true
      · rw [hp]
        have HFS2 : Hid (((es.take (k + 1)).filter p).length = ((es.take k).filter p).length + 1) := by rw [Hid, HFS.out, hp]; simp
        have HFA2 := Lib.hid (HFA.out hp)
        clear HFS HFA hp
        go_wp2_with fail
        refine (CloneB_any _ e.bytes W2 HV2.out HSZ.out).mono ?_; rintro r W3 ⟨v3, rfl, hf3, hb3⟩
        have HM3 : Hid (Mod (fun _ => False) W2 W3) := Mod.of_same hb3
        have HST3 := Lib.hid (HST2.out.mod HG.out HM3.out)
        have HP3 := Lib.hid (HM3.out.heap HP2.out (by simp))
        have HF3 := Lib.hid hf3
        have hPs : P < W2.heap.size := (Array.getElem?_eq_some_iff.1 HP2.out).1
        obtain ⟨q0, q1, q2, q3, qf⟩ := quad_cells_ HP3.out
        obtain ⟨a3, c3, rfl⟩ := hf3.str.form
        clear hf3 hb3 p0 p1 p2 p3 pf HP2
        go_upto_region 5 with fail
        have HP4 : Hid ((W3.setCell ⟨P, 3, none⟩ (.slice a3 e.bytes.size c3)).heap[P]? = some (.cells #[.int .u8 e.kind, .int .i64 e.slot, .int .i64 e.n, .slice a3 e.bytes.size c3] 38)) := by
          have := heap_set_ HP3.out 3 (.slice a3 e.bytes.size c3)
          rw [Hid]; simpa using this
        have hmP := mod_set_ W3 P 3 (.slice a3 e.bytes.size c3)
        have HM4 : Hid (Mod (fun _ => False) wr (W3.setCell ⟨P, 3, none⟩ (.slice a3 e.bytes.size c3))) := ((HM1.out.trans HM2.out).trans HM3.out).setCell (.inl (Nat.le_of_eq HPW.out)) _
        have HF4 : Hid (FreshB (W3.setCell ⟨P, 3, none⟩ (.slice a3 e.bytes.size c3)) wr.heap.size (.slice a3 e.bytes.size c3) e.bytes) := by
          refine (HF3.out.mod hmP (fun g hg he => ?_)).base (HM1.out.trans HM2.out).size
          obtain ⟨zs, ho, -⟩ := HF3.out
          exact own_other_ ho HP3.out (by decide) (by rw [hg, he])
        have HST4 := Lib.hid (HST.out.mod HG.out HM4.out)
        obtain ⟨q0, q1, q2, q3, qf⟩ := quad_cells_ HP4.out
        clear hmP HST3 HST2 HM1 HM2 HM3 HV2 HF3 HP3
        generalize W3.setCell ⟨P, 3, none⟩ (.slice a3 e.bytes.size c3) = W4 at *
        obtain ⟨fn, tmps, assign, body, hy, hR⟩ := HY.out _ (entV e (.slice a3 e.bytes.size c3)) wr W4 (by
            have := (List.getElem?_eq_some_iff.1 HFA2.out).1
            exact this) HJK.out HM4.out ⟨e, .slice a3 e.bytes.size c3, HFA2.out, rfl, HF4.out, HST4.out⟩
        unfold entV at hy
        refine (wpIn_wide (n := m)).1 ?_
        gi_wp2
        refine hR.mono ?_
        rintro r W5 ⟨rfl, hJ5, hS5⟩
        gi_wp2
        have HS5 := Lib.hid hS5
        have HJ5 := Lib.hid hJ5
        clear hS5 hJ5 hR hy q0 q1 q2 q3 qf
        go_wp2_with fail
        exact ⟨⟨k + 1, by omega, by simp, by rw [HFS2.out]; exact HJ5.out, HS5.out⟩, by simp [intOf]; omega⟩
      · have hp' : p e = false := by simpa using hp
        have HFS2 : Hid (((es.take (k + 1)).filter p).length = ((es.take k).filter p).length) := by rw [Hid, HFS.out, hp']; simp
        rw [hp']
        clear HFS HFA hp hp'
        go_wp2_with fail
        have HMt := Lib.hid (HM1.out.trans HM2.out)
        exact ⟨⟨k + 1, by omega, by simp, by rw [HFS2.out]; exact HJ.out _ _ _ HJK.out HMt.out, HST2.out⟩, by simp [intOf]; omega⟩
    · obtain rfl : k = n := by omega
      have HT : Hid (es.take k = es) := by
        have := HL.out
        exact List.take_of_length_le (by omega)
      rw [HT.out] at HJK
      go_wp2_with fail
      go_end0
      exact ⟨⟨_, rfl⟩, HJK.out, HST.out⟩
end View
end Go.Proofs.YtdfmgneicdpjmaaGreat

/- Scripts in rows of their own; slices.AppendSeq and Collect over view.chosen. -/
namespace Go.Proofs.YtdfmgneicdpjmaaGreat
open Go.RowKit Go.Shelf
attribute [local go_sem] Oper.semAt_some
set_option linter.unusedVariables false
set_option linter.unusedSimpArgs false
set_option maxRecDepth 100000
namespace View
open Resp

theorem infoEnt : (Tryz.prog.info? 38).map (fun i => (i.zero, i.size, i.bytes)) = some (some (.agg #[.int .u8 0, .int .i64 0, .int .i64 0, .slice none 0 0]), 4, 48) := by kernel_rfl
def entC (e : Ent) (v : Value) : List Value := [.int .u8 e.kind, .int .i64 e.slot, .int .i64 e.n, v]
def entCs (l : List (Ent × Value)) : List Value := l.flatMap fun x => entC x.1 x.2
theorem entCs_append (a b : List (Ent × Value)) : entCs (a ++ b) = entCs a ++ entCs b := by simp [entCs]
theorem entCs_length : ∀ l : List (Ent × Value), (entCs l).length = l.length * 4
  | [] => rfl
  | x :: t => by
    have := entCs_length t
    simp only [entCs, List.flatMap_cons, List.length_append, List.length_cons] at this ⊢
    rw [this]; simp [entC]; omega
/-- A script in a row of its own, its bytes in rows of their own, each another one. -/
def OwnScr (W : World) (base : Nat) (v : Value) (es : List Ent) : Prop := ∃ l : List (Ent × Value), l.map (·.1) = es ∧ W.ownsRow base 38 4 v l.length (entCs l) ∧ (∀ x ∈ l, FreshB W base x.2 x.1.bytes) ∧ l.Pairwise fun x y => ∀ g, x.2.ownBlock = some g → ¬ y.2.ownBlock = some g
theorem OwnScr.form {W : World} {base : Nat} {v : Value} {es : List Ent} (h : OwnScr W base v es) : ∃ a c, v = .slice a es.length c := by
  obtain ⟨l, rfl, ho, -⟩ := h
  obtain ⟨a, c, rfl⟩ := ownsRow_form ho
  exact ⟨a, c, by simp⟩
theorem OwnScr.mod {S : Nat → Prop} {W W' : World} {base : Nat} {v : Value} {es : List Ent} (h : OwnScr W base v es) (hm : Mod S W W') (hS : ∀ g, base ≤ g → ¬ S g) : OwnScr W' base v es := by
  obtain ⟨l, h1, h2, h3, h4⟩ := h
  refine ⟨l, h1, ownsRow_mod h2 hm (fun g hg => hS g (ownBlock_ge_ h2 hg)), fun x hx => ?_, h4⟩
  obtain ⟨zs, h5, h6⟩ := h3 x hx
  exact ⟨zs, ownsRow_mod h5 hm (fun g hg => hS g (ownBlock_ge_ h5 hg)), h6⟩
theorem OwnScr.base {W : World} {base base' : Nat} {v : Value} {es : List Ent} (h : OwnScr W base v es) (hb : base' ≤ base) : OwnScr W base' v es := by
  obtain ⟨l, h1, h2, h3, h4⟩ := h
  exact ⟨l, h1, ownsRow_base h2 hb, fun x hx => (h3 x hx).base hb, h4⟩
theorem OwnScr.nil (W : World) (base : Nat) : OwnScr W base (.slice none 0 0) [] := ⟨[], rfl, owns_nil _ _ _ _, by simp, .nil⟩
theorem ownsRow_put_ {W : World} {base : Nat} {e : TypeId} {size : Nat} {v : Value} {n : Nat} {xs : List Value} (h : W.ownsRow base e size v n xs) {l : Nat} {o : Obj} (o' : Obj) (hl : W.heap[l]? = some o) (ho : o.isCells = false) : (W.putObj l o').ownsRow base e size v n xs := by
  rcases h.2 with ⟨rfl, h0⟩ | ⟨g, cap, cur, rfl, hb, hgg, rest⟩
  · exact ⟨h.1, .inl ⟨rfl, h0⟩⟩
  · have hne : ¬ l = g := fun e => by rw [e, hgg] at hl; cases hl; cases ho
    exact ⟨h.1, .inr ⟨g, cap, cur, rfl, hb, (mod_put_ W l o').heap hgg (fun e => hne e.symm), rest⟩⟩
theorem OwnScr.put {W : World} {base : Nat} {v : Value} {es : List Ent} (h : OwnScr W base v es) {l : Nat} {o : Obj} (o' : Obj) (hl : W.heap[l]? = some o) (ho : o.isCells = false) : OwnScr (W.putObj l o') base v es := by
  obtain ⟨l, h1, h2, h3, h4⟩ := h
  refine ⟨l, h1, ownsRow_put_ h2 o' hl ho, fun x hx => ?_, h4⟩
  obtain ⟨zs, h5, h6⟩ := h3 x hx
  exact ⟨zs, ownsRow_put_ h5 o' hl ho, h6⟩
/-- A turn of one cell that lies in no row of ints, and in none of entries. -/
theorem OwnScr.keep_at {W W' : World} {base : Nat} {v : Value} {es : List Ent} (h : OwnScr W base v es) {B : Nat} {cs : Array Value} {t : TypeId} {fr : Nat × Nat} (hB : W.heap[B]? = some (.cells cs t fr)) (hm : Mod (fun g => g = B) W W') (ht : ¬ 38 = t) (ht2 : ¬ 5 = t) : OwnScr W' base v es := by
  obtain ⟨l, h1, h2, h3, h4⟩ := h
  refine ⟨l, h1, owns_keep_at_ h2 hB hm ht, fun x hx => ?_, h4⟩
  obtain ⟨zs, h5, h6⟩ := h3 x hx
  exact ⟨zs, owns_keep_at_ h5 hB hm ht2, h6⟩
theorem OwnScr.scr {W : World} {base : Nat} {v : Value} {es : List Ent} (h : OwnScr W base v es) : ∃ a c, v = .slice a es.length c ∧ es.length ≤ c ∧ c ≤ maxLen ∧ ScrAt W a es.length es := by
  obtain ⟨l, rfl, ho, hf, -⟩ := h
  rcases ho.2 with ⟨rfl, h0⟩ | ⟨g, cap, cur, rfl, hb, hgg, hcap, h2, h3, h4⟩
  · have hl : l.length = 0 := by have := entCs_length l; rw [h0] at this; have h9 : ([] : List Value).length = 0 := rfl; omega
    obtain rfl := List.length_eq_zero_iff.1 hl
    exact ⟨none, 0, rfl, Nat.le_refl _, Nat.zero_le _, rfl, fun i e he => by simp at he⟩
  · refine ⟨some ⟨g, 0, none⟩, cap, by simp, by simpa using hcap, by omega, rfl, fun i e he => ⟨g, 0, rfl, ?_⟩⟩
    have hi : i < l.length := by have := (List.getElem?_eq_some_iff.1 he).1; simpa using this
    have he2 : l[i].1 = e := by
      rw [List.getElem?_map, List.getElem?_eq_getElem hi] at he
      simpa using he
    have hcell : ∀ j u, j < 4 → (entC l[i].1 l[i].2)[j]? = some u → W.cell? ⟨g, i * 4 + j, none⟩ = some u := by
      intro j u hj hu
      have h5 : (entCs l)[i * 4 + j]? = some u := by
        have hsp : l = l.take i ++ l[i] :: l.drop (i + 1) := by rw [List.getElem_cons_drop, List.take_append_drop]
        rw [hsp, entCs_append]
        have hlen : (entCs (l.take i)).length = i * 4 := by rw [entCs_length, List.length_take_of_le (by omega)]
        rw [List.getElem?_append_right (by omega), hlen, Nat.add_sub_cancel_left]
        simp only [entCs, List.flatMap_cons]
        rw [List.getElem?_append_left (by simp [entC]; omega)]
        exact hu
      have h6 : (cur.toList.take (l.length * 4))[i * 4 + j]? = some u := by rw [h4]; exact h5
      rw [List.getElem?_take, if_pos (by omega)] at h6
      simp [World.cell?, hgg]; simpa using h6
    refine ⟨l[i].2, ?_, ?_, ?_, ?_, ?_⟩
    · have := hcell 0 _ (by omega) (by simp [entC]; rfl); rw [he2] at this; simpa using this
    · have := hcell 1 _ (by omega) (by simp [entC]; rfl); rw [he2] at this; simpa using this
    · have := hcell 2 _ (by omega) (by simp [entC]; rfl); rw [he2] at this; simpa using this
    · have := hcell 3 _ (by omega) (by simp [entC]; rfl); simpa using this
    · rw [← he2]; exact (hf _ (List.getElem_mem hi)).str
end View
end Go.Proofs.YtdfmgneicdpjmaaGreat

/- slices.AppendSeq and Collect over view.chosen. -/
namespace Go.Proofs.YtdfmgneicdpjmaaGreat
open Go.RowKit Go.Shelf
attribute [local go_sem] Oper.semAt_some
set_option linter.unusedVariables false
set_option linter.unusedSimpArgs false
set_option maxRecDepth 100000
namespace View
open Resp

theorem below_mod_ {base : Nat} {W : World} (hb : base ≤ W.heap.size) : ∀ A B, Below base W A → Mod (fun _ => False) A B → Below base W B := fun A B h hm => h.trans (hm.below (Nat.le_trans hb h.size) (by simp))
theorem cell_put_ {W : World} {l : Nat} {o : Obj} (o' : Obj) (hl : W.heap[l]? = some o) (ho : o.isCells = false) {p : Addr} {v : Value} (hc : W.cell? p = some v) : (W.putObj l o').cell? p = some v := by
  by_cases h : p.block = l
  · exfalso
    cases o with
    | cells => cases ho
    | _ => simp [World.cell?, h, hl] at hc
  · exact (mod_put_ W l o').cell h hc
theorem reads_put_ {k : IntKind} {w : World} {v : Value} {zs : List Int} (h : Reads k w v zs) {l : Nat} {o : Obj} (o' : Obj) (hl : w.heap[l]? = some o) (ho : o.isCells = false) : Reads k (w.putObj l o') v zs := by
  rcases h with h | ⟨b, off, cap, rfl, hl2, hc⟩
  · exact .inl h
  · exact .inr ⟨b, off, cap, rfl, hl2, fun i hi => cell_put_ o' hl ho (hc i hi)⟩
theorem ScrAt.put {W : World} {a : Option Addr} {n : Nat} {es : List Ent} (h : ScrAt W a n es) {l : Nat} {o : Obj} (o' : Obj) (hl : W.heap[l]? = some o) (ho : o.isCells = false) : ScrAt (W.putObj l o') a n es :=
  ⟨h.1, fun i e he => by
    obtain ⟨b, o, e1, v, h0, h1, h2, h3, zs, h4, h5⟩ := h.2 i e he
    exact ⟨b, o, e1, v, cell_put_ o' hl ho h0, cell_put_ o' hl ho h1, cell_put_ o' hl ho h2, cell_put_ o' hl ho h3, zs, reads_put_ h4 o' hl ho, h5⟩⟩
theorem news_k_ {W : World} {b : Nat} {cs : Array Value} {T : TypeId} (h : W.heap[b]? = some (.cells cs T)) (j : Nat) (u : Value) (hj : cs.toList[j]? = some u) : W.cell? ((⟨b, 0, none⟩ : Addr).add j) = some u := by
  have : cs[j]? = some u := by simpa using hj
  rcases j with _ | j
  · simp [Addr.add, World.cell?, h, this]
  · simp [Addr.add, World.cell?, h, this]
theorem entCs_one (e : Ent) (v : Value) : entCs [(e, v)] = entC e v := by simp [entCs]
/-- What is known of a list while it grows. -/
def Grown (W : World) (base : Nat) (sv : Value) (l : List (Ent × Value)) : Prop := W.ownsRow base 38 4 sv l.length (entCs l) ∧ (∀ x ∈ l, FreshB W base x.2 x.1.bytes) ∧ l.Pairwise fun x y => ∀ g, x.2.ownBlock = some g → ¬ y.2.ownBlock = some g
theorem Grown.own {W : World} {base : Nat} {sv : Value} {l : List (Ent × Value)} (h : Grown W base sv l) : OwnScr W base sv (l.map (·.1)) := ⟨l, rfl, h⟩
theorem OwnScr.grown {W : World} {base : Nat} {sv : Value} {es : List Ent} (h : OwnScr W base sv es) : ∃ l, l.map (·.1) = es ∧ Grown W base sv l := by
  obtain ⟨l, h1, h2⟩ := h
  exact ⟨l, h1, h2⟩
theorem Grown.modLow {S : Nat → Prop} {W W' : World} {base : Nat} {sv : Value} {l : List (Ent × Value)} (h : Grown W base sv l) (hm : Mod S W W') (hS : ∀ g, ¬ S g) : Grown W' base sv l :=
  ⟨ownsRow_mod h.1 hm (fun g _ => hS g), fun x hx => (h.2.1 x hx).mod hm (fun g _ => hS g), h.2.2⟩
theorem Grown.keep_at {W W' : World} {base : Nat} {v : Value} {l : List (Ent × Value)} (h : Grown W base v l) {B : Nat} {cs : Array Value} {t : TypeId} {fr : Nat × Nat} (hB : W.heap[B]? = some (.cells cs t fr)) (hm : Mod (fun g => g = B) W W') (ht : ¬ 38 = t) (ht2 : ¬ 5 = t) : Grown W' base v l := by
  obtain ⟨h2, h3, h4⟩ := h
  refine ⟨owns_keep_at_ h2 hB hm ht, fun x hx => ?_, h4⟩
  obtain ⟨zs, h5, h6⟩ := h3 x hx
  exact ⟨zs, owns_keep_at_ h5 hB hm ht2, h6⟩
theorem Grown.put {W : World} {base : Nat} {v : Value} {l : List (Ent × Value)} (h : Grown W base v l) {q : Nat} {o : Obj} (o' : Obj) (hl : W.heap[q]? = some o) (ho : o.isCells = false) : Grown (W.putObj q o') base v l := by
  obtain ⟨h2, h3, h4⟩ := h
  refine ⟨ownsRow_put_ h2 o' hl ho, fun x hx => ?_, h4⟩
  obtain ⟨zs, h5, h6⟩ := h3 x hx
  exact ⟨zs, ownsRow_put_ h5 o' hl ho, h6⟩
theorem Grown.push {W W3 : World} {base : Nat} {sv v' v : Value} {l : List (Ent × Value)} {e : Ent} (h : Grown W base sv l) (hv : FreshB W base v e.bytes) (hd : ∀ x ∈ l, ∀ g, x.2.ownBlock = some g → ¬ v.ownBlock = some g)
    (ho : W3.ownsRow base 38 4 v' (l.length + 1) (entCs l ++ entC e v)) (hm : Mod (fun k => some k = sv.ownBlock) W W3) : Grown W3 base v' (l ++ [(e, v)]) := by
  refine ⟨by simpa [entCs_append, entCs_one] using ho, fun x hx => ?_, ?_⟩
  · rcases List.mem_append.1 hx with hx | hx
    · obtain ⟨zs, h5, h6⟩ := h.2.1 x hx
      exact ⟨zs, owns_keep_ h5 h.1 hm (by decide), h6⟩
    · obtain rfl := List.mem_singleton.1 hx
      obtain ⟨zs, h5, h6⟩ := hv
      exact ⟨zs, owns_keep_ h5 h.1 hm (by decide), h6⟩
  · rw [List.pairwise_append]
    refine ⟨h.2.2, List.pairwise_singleton _ _, fun x hx y hy => ?_⟩
    obtain rfl := List.mem_singleton.1 hy
    exact hd x hx
def AqI (W : World) (base S : Nat) (es0 ef : List Ent) (k : Nat) (A : World) : Prop :=
  ∃ sv l, A.heap[S]? = some (.cells #[sv] 27) ∧ l.map (·.1) = es0 ++ ef.take k ∧ Grown A base sv l ∧ Mod (fun g => base ≤ g) W A ∧ S < A.heap.size
theorem AqI.mod {W : World} {base S : Nat} {es0 ef : List Ent} {k : Nat} {A B : World} (h : AqI W base S es0 ef k A) (hm : Mod (fun _ => False) A B) : AqI W base S es0 ef k B := by
  obtain ⟨sv, l, h1, h2, h3, h4, h5⟩ := h
  exact ⟨sv, l, hm.heap h1 (by simp), h2, h3.modLow hm (by simp), h4.trans (hm.mono (by simp)), Nat.lt_of_lt_of_le h5 hm.size⟩
theorem AqI.put {W : World} {base S : Nat} {es0 ef : List Ent} {k : Nat} {A : World} (h : AqI W base S es0 ef k A) {q : Nat} {o : Obj} (o' : Obj) (hl : A.heap[q]? = some o) (ho : o.isCells = false) (hq : base ≤ q) : AqI W base S es0 ef k (A.putObj q o') := by
  obtain ⟨sv, l, h1, h2, h3, h4, h5⟩ := h
  have hne : ¬ S = q := fun e => by rw [← e, h1] at hl; cases hl; cases ho
  exact ⟨sv, l, (mod_put_ A q o').heap h1 hne, h2, h3.put o' hl ho, h4.putObj (.inr hq) o', Nat.lt_of_lt_of_le h5 (mod_put_ A q o').size⟩
def AqAs (W : World) (base S : Nat) (es0 ef : List Ent) (F : Nat → Value → Act) (C : World → Prop) (k : Nat) (a' : Act) (A : World) : Prop :=
  ∃ e v E sv l, ef[k]? = some e ∧ a' = F E (entV e v) ∧ A.heap[E]? = some (.cells #[.int .u8 e.kind, .int .i64 e.slot, .int .i64 e.n, v] 38) ∧ FreshB A base v e.bytes ∧ A.heap[S]? = some (.cells #[sv] 27) ∧ l.map (·.1) = es0 ++ ef.take k ∧ Grown A base sv l ∧ (∀ x ∈ l, ∀ g, x.2.ownBlock = some g → ¬ v.ownBlock = some g) ∧ (¬ some E = sv.ownBlock) ∧ Mod (fun g => base ≤ g) W A ∧ S < A.heap.size ∧ C A
set_option maxHeartbeats 4000000 in
theorem AppendSeq_any (sv : Value) (es0 : List Ent) (base : Nat) (a : Option Addr) (n c : Nat) (iv : Value) (es : List Ent) (p : Ent → Bool) (bl bi : Nat) (hb : ∀ e ∈ es, e.bytes.size ≤ 140737488351232) (hn : n ≤ maxLen) (W : World) (hI : IsAt iv p (Below base W))
    (hs : OwnScr W base sv es0) (hbase : base ≤ W.heap.size) (hst : W.heap[bl]? = some (.cells #[.slice a n c] 27) ∧ W.heap[bi]? = some (.cells #[iv] 117)) (hdat : ∀ w', Below base W w' → ScrAt w' a n es) (hlen : es0.length + es.length ≤ 100000) :
    Calls Tryz.prog 68 #[sv, .func (.func 101) #[] #[.pointer (some ⟨bl, 0, none⟩), .pointer (some ⟨bi, 0, none⟩)]] W fun e w' => ∃ v, e = .returned v ∧ OwnScr w' base v (es0 ++ es.filter p) ∧ Mod (fun g => base ≤ g) W w' := by
  obtain ⟨i1, hi, hz0, hz1, hz2⟩ := info_parts infoEnt
  refine (callsIn_wide (n := 8)).1 ?_
  refine callsIn_of_wp_marks Tryz.func68 rfl trivial ?_ rfl
  simp only [Tryz.ntmps68, List.size_toArray, List.length_cons, List.length_nil, Nat.reduceAdd, Nat.reduceSub, Array.replicate_succ, Array.replicate_zero, List.push_toArray, List.append_toArray, List.nil_append, List.cons_append]
  refine wpIn_wide.2 ?_
  obtain ⟨sa, sc, rfl⟩ := hs.form
  have HI := Lib.hid hI
  have HBY := Lib.hid hb
  have HS := Lib.hid hs
  have HST := Lib.hid hst
  have HD := Lib.hid hdat
  have HBL : Hid (bl < W.heap.size ∧ bi < W.heap.size) := ⟨(Array.getElem?_eq_some_iff.1 hst.1).1, (Array.getElem?_eq_some_iff.1 hst.2).1⟩
  clear hI hb hs hst hdat
  go_wp2_with fail
  have hm1 : Mod (fun _ => False) W (W.alloc (.cells #[.slice sa es0.length sc] 27)) := (Mod.refl _ _).alloc _
  have hS := World.alloc_heap_new W (.cells #[.slice sa es0.length sc] 27)
  have hsz : (W.alloc (.cells #[.slice sa es0.length sc] 27)).heap.size = W.heap.size + 1 := by simp
  generalize W.alloc (.cells #[.slice sa es0.length sc] 27) = W1 at *
  have HST1 : Hid (ChSt a n c iv es bl bi (Below base W) W1) := by
    have h2 : Below base W W1 := (hm1.mono (T := fun g => base ≤ g) (by simp)).below (by omega) (fun k hk h => by omega)
    have h1 := HD.out W1 h2
    exact ⟨hm1.heap HST.out.1 (by simp), hm1.heap HST.out.2 (by simp), h1, h2⟩
  have HI0 : Hid (AqI W base W.heap.size es0 (es.filter p) 0 W1) := by
    obtain ⟨l, h1, h2⟩ := HS.out.grown
    exact ⟨_, l, hS, by simpa using h1, h2.modLow hm1 (by simp), hm1.mono (by simp), by omega⟩
  have HSZ := Lib.hid hsz
  have HM1 := Lib.hid hm1
  clear hm1 hS hsz
  refine (wpIn_wide (n := 8)).1 ?_
  refine wpIn_rangeFunc_st3 rfl (by omega) (gf := 101) (lb := #[.pointer (some ⟨bl, 0, none⟩), .pointer (some ⟨bi, 0, none⟩)]) rfl trivial (enters_of Tryz.func101 (by kernel_rfl) rfl) (fun _ => rfl)
    (chosen1_fr 7 (by omega) a n c iv es p bl bi (Below base W) (below_mod_ hbase) HI.out HBY.out hn)
    (fun k hk => hk.elim)
    (fun A' hA => HST1.out.mod (below_mod_ hbase) ((Mod.of_below hA).mono (fun k hk h => by omega)))
    (fun k A' l o1 o' hl hlo ho hS => ⟨(mod_put_ A' l o').heap hS.1 (by have := HBL.out; have := HSZ.out; omega), (mod_put_ A' l o').heap hS.2.1 (by have := HBL.out; have := HSZ.out; omega), hS.2.2.1.put _ hlo ho, hS.2.2.2.trans ((mod_put_ A' l o').below (Nat.le_trans hbase (by have := HSZ.out; have := hS.2.2.2.size; omega)) (fun q hq e => by have := HSZ.out; omega))⟩)
    (AqI W base W.heap.size es0 (es.filter p))
    (fun k A' A'' hI' hm => hI'.mod hm)
    (fun k A' l o1 o' hl hlo ho hI' => hI'.put _ hlo ho (by have := HSZ.out; omega))
    HI0.out
    (AqAs W base W.heap.size es0 (es.filter p) (fun E x => { tmps := #[.slice sa es0.length sc, .func (.func 101) #[] #[.pointer (some ⟨bl, 0, none⟩), .pointer (some ⟨bi, 0, none⟩)], .pointer (some ⟨W.heap.size, 0, none⟩), undef, .slice none 0 0, .pointer (some ⟨E, 0, none⟩), .func (.func 101) #[] #[.pointer (some ⟨bl, 0, none⟩), .pointer (some ⟨bi, 0, none⟩)], x, undef, undef, undef, undef, undef], defers := [] }) (ChSt a n c iv es bl bi (Below base W)))
    (fun k a' A' l o1 o' hl hlo ho hA => by
      obtain ⟨e, v, E, sv, ll, h1, h2, h3, h4, h5, h6, h7, h8, h9, h10, h11, h12⟩ := hA
      have hne : ∀ {q : Nat} {cs : Array Value} {t : TypeId}, A'.heap[q]? = some (.cells cs t) → ¬ q = l := fun hq e => by
        rw [e, hlo] at hq; cases hq; cases ho
      have hm := mod_put_ A' l o'
      have hlb : base ≤ l := by have := HSZ.out; omega
      obtain ⟨zs, z1, z2⟩ := h4
      exact ⟨e, v, E, sv, ll, h1, h2, hm.heap h3 (hne h3), ⟨zs, ownsRow_put_ z1 o' hlo ho, z2⟩, hm.heap h5 (hne h5), h6, h7.put o' hlo ho, h8, h9, h10.putObj (.inr hlb) o', Nat.lt_of_lt_of_le h11 hm.size, ⟨hm.heap h12.1 (hne h12.1), hm.heap h12.2.1 (hne h12.2.1), h12.2.2.1.put _ hlo ho, h12.2.2.2.trans (hm.below (Nat.le_trans hbase h10.size) (fun q hq e => by omega))⟩⟩)
    ?assign ?body ?done
  case assign =>
    intro l k x W0 Wc K hk hsz hI' hm0 hY hK
    obtain ⟨e, v, he, rfl, hf, hch⟩ := hY
    obtain ⟨sv, ll, i1, i2, i3, i4, i5⟩ := hI'
    simp only [entV]
    obtain ⟨xa, xc, rfl⟩ := hf.str.form
    have hma : Mod (fun _ => False) Wc (Wc.alloc (.cells #[.int .u8 e.kind, .int .i64 e.slot, .int .i64 e.n, .slice xa e.bytes.size xc] 38)) := (Mod.refl _ _).alloc _
    have hmt := hm0.trans hma
    have has : AqAs W base W.heap.size es0 (es.filter p) (fun E x => { tmps := #[.slice sa es0.length sc, .func (.func 101) #[] #[.pointer (some ⟨bl, 0, none⟩), .pointer (some ⟨bi, 0, none⟩)], .pointer (some ⟨W.heap.size, 0, none⟩), undef, .slice none 0 0, .pointer (some ⟨E, 0, none⟩), .func (.func 101) #[] #[.pointer (some ⟨bl, 0, none⟩), .pointer (some ⟨bi, 0, none⟩)], x, undef, undef, undef, undef, undef], defers := [] }) (ChSt a n c iv es bl bi (Below base W)) k { tmps := #[.slice sa es0.length sc, .func (.func 101) #[] #[.pointer (some ⟨bl, 0, none⟩), .pointer (some ⟨bi, 0, none⟩)], .pointer (some ⟨W.heap.size, 0, none⟩), undef, .slice none 0 0, .pointer (some ⟨Wc.heap.size, 0, none⟩), .func (.func 101) #[] #[.pointer (some ⟨bl, 0, none⟩), .pointer (some ⟨bi, 0, none⟩)], .agg #[.int .u8 e.kind, .int .i64 e.slot, .int .i64 e.n, .slice xa e.bytes.size xc], undef, undef, undef, undef, undef], defers := [] } (Wc.alloc (.cells #[.int .u8 e.kind, .int .i64 e.slot, .int .i64 e.n, .slice xa e.bytes.size xc] 38)) := by
      have hlt : ∀ g, sv.ownBlock = some g → g < W0.heap.size := fun g hg => (i3.1.lt g hg).2
      have hb0 : base ≤ W0.heap.size := by have := HSZ.out; omega
      refine ⟨e, .slice xa e.bytes.size xc, Wc.heap.size, sv, ll, he, rfl, World.alloc_heap_new _ _, (hf.mod hma (by simp)).base hb0, hmt.heap i1 (by simp), i2, i3.modLow hmt (by simp), fun y hy g hg hv => ?_, fun e => ?_, i4.trans (hmt.mono (by simp)), Nat.lt_of_lt_of_le i5 hmt.size, hch.mod (below_mod_ hbase) hma⟩
      · obtain ⟨zs, z1, -⟩ := i3.2.1 y hy
        obtain ⟨zs2, z2, -⟩ := hf
        have h1 := (z1.lt g hg).2
        have h2 := (z2.lt g hv).1
        omega
      · have h1 := hlt _ e.symm
        have h2 := hm0.size
        omega
    have hkf : KeepsFrom W1.heap.size Wc (Wc.alloc (.cells #[.int .u8 e.kind, .int .i64 e.slot, .int .i64 e.n, .slice xa e.bytes.size xc] 38)) := keepsFrom_mod_ hma (fun q o1 _ h => h.elim)
    have HAS := Lib.hid has
    have HKF := Lib.hid hkf
    clear has hkf hma hmt hf hch i1 i2 i3 i4 i5 he
    gi_wp2
    exact hK _ _ HKF.out HAS.out
  case body =>
    intro l k a' Wc hk hA
    obtain ⟨e, v, E, sv, ll, he, rfl, hE, hf, hSv, hll, hgr, hdis, hEo, hmW, hSlt, hch⟩ := hA
    simp only [entV]
    obtain ⟨xa, xc, rfl⟩ := hf.str.form
    obtain ⟨va, vc, rfl⟩ := ownsRow_form hgr.1
    obtain ⟨p0, p1, p2, p3, -⟩ := quad_cells_ hE
    have q0 := cell_of_heap_ hSv
    have qf : Wc.frozen? ⟨W.heap.size, 0, none⟩ = false := by simp [World.frozen?, hSv]
    have HE := Lib.hid hE
    have HF := Lib.hid hf
    have HSV := Lib.hid hSv
    have HLL := Lib.hid hll
    have HGR := Lib.hid hgr
    have HDIS := Lib.hid hdis
    have HMW := Lib.hid hmW
    have HCH := Lib.hid hch
    have HEE := Lib.hid he
    have hle : ll.length ≤ 100000 := by
      have := congrArg List.length hll
      simp only [List.length_map, List.length_append] at this
      have h2 := List.length_take_le k (es.filter p)
      have h3 := List.length_filter_le p es
      omega
    clear hE hf hSv hll hgr hdis hmW hch he hEo
    have hsz : base ≤ Wc.heap.size := Nat.le_trans hbase HMW.out.size
    gi_wp2_with (gi_at_builtin; refine wpListIn_append_own _ rfl _ _ 27 rfl base 38 i1 (.agg #[.int .u8 0, .int .i64 0, .int .i64 0, .slice none 0 0]) 4 48 Tryz.underlying27 hi hz0 hz1 hz2 rfl (by decide) _ ll.length _ rfl (HGR.out.1.alloc _) ⟨Wc.heap.size, 0, none⟩ 1 1 (entC e (.slice xa e.bytes.size xc)) rfl rfl (news_k_ (World.alloc_heap_new Wc (.cells #[.int .u8 e.kind, .int .i64 e.slot, .int .i64 e.n, .slice xa e.bytes.size xc] 38))) (by simp [entC, Value.oneCell']) (by unfold maxLen; omega) (by omega) (by simp; omega) ?_; intro v' w1 hown' hgrow _; obtain ⟨oa, oc, e1⟩ := owns_form_pos_ hown' (by omega); subst e1; have HOWN := Lib.hid hown'; have hgr' : (Wc.alloc (.cells #[.int .u8 e.kind, .int .i64 e.slot, .int .i64 e.n, .slice xa e.bytes.size xc] 38)).grownBy w1 (Value.slice va ll.length vc).ownBlock := hgrow; have HM1b := Lib.hid (((Mod.refl _ Wc).alloc _).trans (Mod.of_grownBy hgr')); have HQ1 := Lib.hid (HM1b.out.heap HSV.out (own_other_ HGR.out.1 HSV.out (by decide))); have q1 := cell_of_heap_ HQ1.out; have qf1 : w1.frozen? ⟨W.heap.size, 0, none⟩ = false := (by simp [World.frozen?, HQ1.out]); clear hown' hgrow hgr')
    have hms := mod_set_ w1 W.heap.size 0 (.slice (some ⟨oa, 0, none⟩) (ll.length + 1) oc)
    have hmt : Mod (fun q => some q = (Value.slice va ll.length vc).ownBlock ∨ q = W.heap.size) Wc (w1.setCell ⟨W.heap.size, 0, none⟩ (.slice (some ⟨oa, 0, none⟩) (ll.length + 1) oc)) := (HM1b.out.mono (fun _ _ h => .inl h)).trans (hms.mono (fun _ _ h => .inr h))
    have hge : ∀ q, some q = (Value.slice va ll.length vc).ownBlock → base ≤ q := fun q h => ownBlock_ge_ HGR.out.1 h.symm
    have hmW2 : Mod (fun g => base ≤ g) W (w1.setCell ⟨W.heap.size, 0, none⟩ (.slice (some ⟨oa, 0, none⟩) (ll.length + 1) oc)) := HMW.out.trans (hmt.mono (fun q _ h => by
      rcases h with h | h
      · exact hge q h
      · omega))
    have hbW2 : Below base W (w1.setCell ⟨W.heap.size, 0, none⟩ (.slice (some ⟨oa, 0, none⟩) (ll.length + 1) oc)) := hmW2.below hbase (fun q hq h => by omega)
    have hw := HSZ.out
    have hbl := HBL.out
    refine ⟨keepsFrom_mod_ hmt ?_, ⟨.slice (some ⟨oa, 0, none⟩) (ll.length + 1) oc, ll ++ [(e, .slice xa e.bytes.size xc)], ?_, ?_, ?_, hmW2, Nat.lt_of_lt_of_le hSlt hmt.size⟩, hmt.heap HCH.out.1 ?_, hmt.heap HCH.out.2.1 ?_, HD.out _ hbW2, hbW2⟩
    · rintro q o1 hq (h | h) ho
      · exact own_isCells_ HGR.out.1 h ho
      · omega
    · have := heap_set_ HQ1.out 0 (.slice (some ⟨oa, 0, none⟩) (ll.length + 1) oc)
      simpa using this
    · rw [List.map_append, HLL.out, List.take_add_one, HEE.out]
      simp
    · exact (HGR.out.push HF.out HDIS.out HOWN.out HM1b.out).keep_at HQ1.out hms (by decide) (by decide)
    · rintro (h | h)
      · exact own_other_ HGR.out.1 HCH.out.1 (by decide) h
      · omega
    · rintro (h | h)
      · exact own_other_ HGR.out.1 HCH.out.2.1 (by decide) h
      · omega
  case done =>
    intro D Wc hD hI' hS hK
    obtain ⟨sv, ll, i1, i2, i3, i4, i5⟩ := hI'
    rw [List.take_of_length_le (Nat.le_refl _)] at i2
    obtain ⟨va, vc, rfl⟩ := ownsRow_form i3.1
    have q0 := cell_of_heap_ i1
    have H2 := Lib.hid i2
    have H3 := Lib.hid i3
    have H4 := Lib.hid i4
    have HK := Lib.hid hK
    clear i1 i2 i3 i4 hS hK
    simp only [Exit.inBlock, Exit.then]
    go_wp2_with fail
    refine ⟨by simp, .inl ⟨_, _, rfl, run_takeDeferred HK.out, ?_⟩⟩
    refine ⟨_, results_tmp rfl _ _ _, _, rfl, ?_, H4.out.putObj (.inr (by have := HSZ.out; omega)) _⟩
    rw [← H2.out]
    exact (H3.out.own).put _ HK.out rfl
end View
end Go.Proofs.YtdfmgneicdpjmaaGreat
