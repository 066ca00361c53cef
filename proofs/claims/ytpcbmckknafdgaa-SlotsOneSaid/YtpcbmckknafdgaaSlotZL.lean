/- The law SlotsOne: its map, in plain words; the plain law. -/
import Derived.Test.YtpcbmckknafdgaaSlotP
import Derived.Test.YtpcbmckknafdgaaSlotI
import Derived.Maps.RangeWalk
import Derived.Maps.OwnOps
import Derived.Maps.Views
import Derived.DeepKeys4
import Derived.OpenShut
namespace Go.Proofs.Ytpcbmckknafdgaa
open Go.RowKit Go.Shelf
set_option linter.unusedVariables false
set_option linter.unusedSimpArgs false
set_option maxRecDepth 100000
namespace Slot

/-! ### references as keys -/
theorem laidOut' : laidOutB Try.prog = true := by kernel_rfl
theorem refLaw : Go.Maps.Keyed Try.prog 26 :=
  Go.Maps.Keyed.of_law (deep_law_laid laidOut' (m := 2) (by omega) (of_decide_eq_true (by kernel_rfl)) (by kernel_rfl) (by rw [Try.underlying26]))
def RefWf (r : R) : Prop := (-9223372036854775808 ≤ r.1 ∧ r.1 ≤ 9223372036854775807) ∧ -9223372036854775808 ≤ r.2 ∧ r.2 ≤ 9223372036854775807
def keyL (r : R) : Lit := .string (keyBytes [.int .i64 r.1, .int .i64 r.2])
theorem keyRef (a b : Int) (h : RefWf (a, b)) : keyOf Try.prog 26 (.agg #[.int .i64 a, .int .i64 b]) = some (keyL (a, b)) := by
  have wa : (Lit.int .i64 a).wf = true := WalkArith.wf_i64 h.1
  have wb : (Lit.int .i64 b).wf = true := WalkArith.wf_i64 h.2
  have hkt : Try.prog.keyType 26 = true := by kernel_rfl
  have c3 : Try.prog.cellsOf 3 = 1 := by kernel_rfl
  have c2 : Try.prog.cellsOf 26 = 2 := by kernel_rfl
  obtain ⟨m, hm⟩ : ∃ m, Try.prog.types.size = m + 1 := ⟨Try.prog.types.size - 1, by have : 0 < Try.prog.types.size := of_decide_eq_true (by kernel_rfl); omega⟩
  unfold keyOf
  simp only [Try.underlying26]
  rw [if_pos (by simp [hkt, Value.formed, Try.underlying26, c2]), hm]
  unfold Program.keyLits
  simp only [Try.underlying26, Value.cells]
  rw [if_pos ⟨by rw [c2]; rfl, by decide +kernel⟩]
  simp [Program.keyLits, Try.underlying3, c3, wa, wb, keyL, keyBytes]
theorem keyLits_int (m : Nat) (z : Value) (ls : List Lit) (h : Try.prog.keyLits (m + 1) 3 [z] = some ls) : ∃ n, z = .int .i64 n ∧ (Lit.int .i64 n).wf = true ∧ ls = [.int .i64 n] := by
  unfold Program.keyLits at h
  simp only [Try.underlying3] at h
  cases z <;> simp at h
  obtain ⟨⟨rfl, hw⟩, rfl⟩ := h
  exact ⟨_, rfl, hw, rfl⟩
theorem keyRef_inv {v : Value} {kl : Lit} (h : keyOf Try.prog 26 v = some kl) : ∃ r : R, v = .agg #[.int .i64 r.1, .int .i64 r.2] ∧ kl = keyL r ∧ RefWf r := by
  have c3 : Try.prog.cellsOf 3 = 1 := by kernel_rfl
  have c2 : Try.prog.cellsOf 26 = 2 := by kernel_rfl
  obtain ⟨m, hm⟩ : ∃ m, Try.prog.types.size = m + 1 := ⟨Try.prog.types.size - 1, by have : 0 < Try.prog.types.size := of_decide_eq_true (by kernel_rfl); omega⟩
  have h' := h
  unfold keyOf at h
  simp only [Try.underlying26] at h
  split at h
  · rename_i hc
    simp only [Bool.and_eq_true] at hc
    cases v <;> simp [Value.formed, Try.underlying26] at hc
    rename_i cs
    rw [c2] at hc
    obtain ⟨cs⟩ := cs
    have hc2 : cs.length = 2 := by simpa using hc.2
    rcases cs with _ | ⟨x, _ | ⟨y, _ | ⟨z, t⟩⟩⟩
    · simp at hc2
    · simp at hc2
    · rw [hm] at h
      unfold Program.keyLits at h
      simp only [Try.underlying26, Value.cells] at h
      split at h
      · simp [c3, List.mapM_cons, Option.bind_eq_some_iff] at h
        obtain ⟨l1, h1, l2, ⟨l3, h3, rfl⟩, h4⟩ := h
        obtain ⟨a, rfl, wa, rfl⟩ := keyLits_int m x l1 h1
        obtain ⟨b, rfl, wb, rfl⟩ := keyLits_int m y l3 h3
        exact ⟨(a, b), rfl, by rw [← h4]; rfl, bounds_i64 wa, bounds_i64 wb⟩
      · simp at h
    · simp at hc2
  · cases h
theorem keyL_inj {r r' : R} (h : RefWf r) (h' : RefWf r') (e : keyL r = keyL r') : r = r' := by
  have := refLaw.inj (keyRef r.1 r.2 h) (e ▸ keyRef r'.1 r'.2 h')
  obtain ⟨a, b⟩ := r
  obtain ⟨a', b'⟩ := r'
  simp at this
  obtain ⟨rfl, rfl⟩ := this
  rfl
theorem keyL_key {r : R} (h : RefWf r) : WideAt.IsKeyLit (keyL r) := refLaw.key (keyRef r.1 r.2 h)

/-! ### a map from references to numbers, in plain words -/
section
variable {H : Type}
/-- The map D holds the number f r at the reference r. -/
def Holds (D : DataW H) (f : R → Int) : Prop := Maps.IsMap D ∧ ∀ r, RefWf r → D.atKey (keyL r) (.lit (.int .i64 0)) = .lit (.int .i64 (f r))
theorem holds_nil : Holds (H := H) (.map []) (fun _ => 0) := ⟨⟨_, rfl⟩, fun r _ => Maps.atKey_of_not_has rfl _⟩
def putR (f : R → Int) (r0 : R) (v : Int) : R → Int := fun r => if r = r0 then v else f r
theorem Holds.put {D : DataW H} {f : R → Int} (h : Holds D f) {r0 : R} (h0 : RefWf r0) (v : Int) : Holds (D.put (keyL r0) (.lit (.int .i64 v))) (putR f r0 v) := by
  refine ⟨?_, fun r hr => ?_⟩
  · obtain ⟨es, rfl⟩ := h.1
    exact ⟨_, rfl⟩
  · by_cases e : r = r0
    · subst e
      rw [Maps.atKey_put_same h.1 (keyL_key h0), putR, if_pos rfl]
    · rw [Maps.atKey_put_other (fun e' => e (keyL_inj hr h0 e')), putR, if_neg e]
      exact h.2 r hr
theorem Holds.look {D : DataW H} {f : R → Int} (h : Holds D f) {r : R} (hr : RefWf r) {c : Int} (e : D.atKey (keyL r) (.lit (.int .i64 0)) = .lit (.int .i64 c)) : c = f r := by
  have := e.symm.trans (h.2 r hr)
  simpa using this
theorem Holds.has {D : DataW H} {f : R → Int} (h : Holds D f) {r : R} (hr : RefWf r) (hf : f r ≠ 0) : Maps.has D (keyL r) = true := by
  cases e : Maps.has D (keyL r)
  · have := Maps.atKey_of_not_has e (.lit (.int .i64 0))
    rw [h.2 r hr] at this
    exact absurd (by simpa using this) hf
  · rfl
end

/-! ### the plain law -/
/-- How many live references the range has met. -/
def metL (l : List R) (left : Lit → Bool) : Nat := (l.filter fun r => !left (keyL r)).length
theorem metL_start {l : List R} {left : Lit → Bool} (h : ∀ r ∈ l, left (keyL r) = true) : metL l left = 0 := by
  rw [metL, List.length_eq_zero_iff, List.filter_eq_nil_iff]
  intro r hr
  simp [h r hr]
theorem metL_end {l : List R} {left : Lit → Bool} (h : ∀ kl, left kl = false) : metL l left = l.length := by
  rw [metL, List.filter_eq_self.2 (fun r _ => by simp [h])]
theorem metL_step {x : R} (hx : RefWf x) : ∀ {l : List R} {left : Lit → Bool}, (∀ r ∈ l, RefWf r) → l.Nodup → left (keyL x) = true →
    metL l (fun z => left z && !z.sameKey (keyL x)) = metL l left + if x ∈ l then 1 else 0
  | [], left, _, _, _ => by simp [metL]
  | r :: l, left, hw, hnd, hl => by
    have ih := metL_step hx (l := l) (left := left) (fun y hy => hw y (List.mem_cons_of_mem _ hy)) (List.nodup_cons.1 hnd).2 hl
    simp only [metL, List.filter_cons] at ih ⊢
    by_cases e : r = x
    · subst e
      have hni : r ∉ l := (List.nodup_cons.1 hnd).1
      rw [if_neg hni] at ih
      rw [WideAt.sameKey_self (keyL_key hx), hl]
      simp only [Bool.not_true, Bool.and_false, Bool.not_false, if_true, Bool.false_eq_true, if_false, List.length_cons, List.mem_cons, true_or]
      omega
    · have hne : (keyL r).sameKey (keyL x) = false := Maps.sameKey_ne (fun e' => e (keyL_inj (hw r List.mem_cons_self) hx e'))
      rw [hne]
      simp only [Bool.not_false, Bool.and_true, List.mem_cons, Ne.symm e, show ¬ x = r from fun e' => e e'.symm, false_or]
      by_cases hb : (!left (keyL r)) = true
      · rw [if_pos hb, if_pos hb, List.length_cons, List.length_cons, ih]; omega
      · rw [if_neg hb, if_neg hb, ih]

structure OneInv (n : Nat) (T : Tab) (f : R → Int) : Prop where
  live : ∀ r, f r = 1 ↔ r ∈ refsT n T
  dead : ∀ r, f r = 2 → ∃ i : Nat, i < n ∧ r.1 = i ∧ r.2 ≤ T.lives.getD i 0
  vals : ∀ r, f r = 0 ∨ f r = 1 ∨ f r = 2
theorem one_new (n : Nat) (k : Int) : OneInv n (newT n k) (fun _ => 0) := ⟨fun r => by rw [new_refs]; simp, fun r h => by simp at h, fun r => .inl rfl⟩
theorem ref_wf {n : Nat} {T : Tab} (hv : Valid n T) {r : R} (h : r ∈ refsT n T) : RefWf r ∧ 0 ≤ r.1 ∧ r.1 < n ∧ r.2 ≤ T.most := by
  obtain ⟨i, hi, ht, rfl⟩ := mem_refs.1 h
  have := hv.lives i hi
  have := hv.most
  have := hv.n
  exact ⟨⟨⟨by dsimp only; omega, by dsimp only; omega⟩, by dsimp only; omega, by dsimp only; omega⟩, by dsimp only; omega, by dsimp only; omega, by dsimp only; omega⟩
theorem refs_nodup' (n : Nat) (T : Tab) : (refsT n T).Nodup := by
  show List.Pairwise _ _
  rw [refsT, List.pairwise_filterMap]
  refine List.Pairwise.imp ?_ (List.nodup_range (n := n))
  intro a a' hne b hb b' hb' he
  split at hb
  · split at hb'
    · simp at hb hb'
      subst hb hb'
      simp at he
      exact hne (by omega)
    · cases hb'
  · cases hb
/-- A place is taken. -/
theorem one_take {n : Nat} {T : Tab} {f : R → Int} (hv : Valid n T) (h : OneInv n T f) {i : Nat} {r : List Nat} (hf : T.free = i :: r) :
    f ((i : Int), T.lives.getD i 0 + 1) = 0 ∧ i < n ∧ 0 ≤ T.lives.getD i 0 ∧ T.lives.getD i 0 + 1 ≤ T.most ∧ OneInv n (takeT T).1 (putR f ((i : Int), T.lives.getD i 0 + 1) 1) := by
  obtain ⟨hi, ht, hl⟩ := hv.free i (by rw [hf]; exact List.mem_cons_self)
  have hl0 := (hv.lives i hi).1
  have hno : f ((i : Int), T.lives.getD i 0 + 1) = 0 := by
    rcases h.vals ((i : Int), T.lives.getD i 0 + 1) with e | e | e
    · exact e
    · obtain ⟨j, hj, htj, ej⟩ := mem_refs.1 ((h.live _).1 e)
      injection ej with e1 e2
      obtain rfl : i = j := by omega
      rw [ht] at htj; cases htj
    · obtain ⟨j, hj, e1, e2⟩ := h.dead _ e
      dsimp only at e1 e2
      obtain rfl : i = j := by omega
      omega
  refine ⟨hno, hi, hl0, by omega, ⟨fun x => ?_, fun x hx => ?_, fun x => ?_⟩⟩
  · rw [takeT_cons hf]
    rw [mem_refs]
    dsimp only
    by_cases e : x = ((i : Int), T.lives.getD i 0 + 1)
    · subst e
      rw [putR, if_pos rfl]
      refine ⟨fun _ => ⟨i, hi, ?_, ?_⟩, fun _ => rfl⟩
      · rw [getD_set _ _ _ _ _ (by rw [hv.lt]; exact hi), if_pos rfl]
      · rw [getD_set _ _ _ _ _ (by rw [hv.ll]; exact hi), if_pos rfl]
    · rw [putR, if_neg e, h.live, mem_refs]
      constructor
      · rintro ⟨j, hj, htj, rfl⟩
        have hij : j ≠ i := by rintro rfl; rw [ht] at htj; cases htj
        exact ⟨j, hj, by rw [getD_set _ _ _ _ _ (by rw [hv.lt]; exact hi), if_neg hij]; exact htj, by rw [getD_set _ _ _ _ _ (by rw [hv.ll]; exact hi), if_neg hij]⟩
      · rintro ⟨j, hj, htj, rfl⟩
        by_cases hij : j = i
        · subst hij
          rw [getD_set _ _ _ _ _ (by rw [hv.ll]; exact hi), if_pos rfl] at e
          exact absurd rfl e
        · rw [getD_set _ _ _ _ _ (by rw [hv.lt]; exact hi), if_neg hij] at htj
          exact ⟨j, hj, htj, by rw [getD_set _ _ _ _ _ (by rw [hv.ll]; exact hi), if_neg hij]⟩
  · rw [takeT_cons hf]
    have hx2 : f x = 2 := by
      rw [putR] at hx
      split at hx
      · omega
      · exact hx
    obtain ⟨j, hj, e1, e2⟩ := h.dead x hx2
    refine ⟨j, hj, e1, ?_⟩
    show x.2 ≤ (T.lives.set i (T.lives.getD i 0 + 1)).getD j 0
    rw [getD_set _ _ _ _ _ (by rw [hv.ll]; exact hi)]
    split
    · rename_i hij; subst hij; omega
    · exact e2
  · rw [putR]
    split
    · exact .inr (.inl rfl)
    · exact h.vals x
/-- A reference is given back. -/
theorem one_give {n : Nat} {T : Tab} {f : R → Int} (hv : Valid n T) (h : OneInv n T f) {r : R} (hr : liveT n T r = true) :
    f r = 1 ∧ OneInv n (giveT n T r).1 (putR f r 2) := by
  have hm := live_iff.1 hr
  obtain ⟨i, hi, ht, rfl⟩ := mem_refs.1 hm
  refine ⟨(h.live _).2 hm, ⟨fun x => ?_, fun x hx => ?_, fun x => ?_⟩⟩
  · rw [giveT_yes hr, mem_refs]
    dsimp only
    rw [Int.toNat_natCast]
    by_cases e : x = ((i : Int), T.lives.getD i 0)
    · subst e
      rw [putR, if_pos rfl]
      refine ⟨fun h => by omega, ?_⟩
      rintro ⟨j, hj, htj, ej⟩
      injection ej with e1 e2
      obtain rfl : i = j := by omega
      rw [getD_set _ _ _ _ _ (by rw [hv.lt]; exact hi), if_pos rfl] at htj
      cases htj
    · rw [putR, if_neg e, h.live, mem_refs]
      constructor
      · rintro ⟨j, hj, htj, rfl⟩
        have hij : j ≠ i := by rintro rfl; exact e rfl
        exact ⟨j, hj, by rw [getD_set _ _ _ _ _ (by rw [hv.lt]; exact hi), if_neg hij]; exact htj, rfl⟩
      · rintro ⟨j, hj, htj, rfl⟩
        by_cases hij : j = i
        · subst hij; exact absurd rfl e
        · rw [getD_set _ _ _ _ _ (by rw [hv.lt]; exact hi), if_neg hij] at htj
          exact ⟨j, hj, htj, rfl⟩
  · rw [give_lives]
    by_cases e : x = ((i : Int), T.lives.getD i 0)
    · subst e
      exact ⟨i, hi, rfl, Int.le_refl _⟩
    · rw [putR, if_neg e] at hx
      exact h.dead x hx
  · rw [putR]
    split
    · exact .inr (.inr rfl)
    · exact h.vals x
theorem step_ways' (n : Nat) (T : Tab) (x : Int) : stepT n T x = ((takeT T).1, (takeT T).2.1, true, (takeT T).2.2) ∨ ∃ r1 r2, liveT n T (r1, r2) = true ∧ stepT n T x = ((giveT n T (r1, r2)).1, (r1, r2), false, 0) := by
  rw [stepT]
  split
  · exact .inl rfl
  · rename_i h
    have hl : (refsT n T).length ≠ 0 := fun e => h (.inr e)
    have h0 := Int.emod_nonneg (x / 2) (show ((refsT n T).length : Int) ≠ 0 by omega)
    have h1 := Int.emod_lt_of_pos (x / 2) (show 0 < ((refsT n T).length : Int) by omega)
    have := pick_live (T := T) (n := n) (i := (x / 2 % ((refsT n T).length : Int)).toNat) (by omega)
    generalize (refsT n T)[(x / 2 % ((refsT n T).length : Int)).toNat]?.getD (0, 0) = r at *
    obtain ⟨r1, r2⟩ := r
    refine .inr ⟨r1, r2, this, ?_⟩
    have e := give_ok this
    simp only [e]
/-- The references stand in the order of their places. -/
theorem refs_rise (n : Nat) (T : Tab) : (refsT n T).Pairwise (fun a b => a.1 < b.1) := by
  rw [refsT, List.pairwise_filterMap]
  refine List.Pairwise.imp ?_ (List.pairwise_lt_range (n := n))
  intro a a' hlt b hb b' hb'
  split at hb
  · split at hb'
    · simp at hb hb'
      subst hb hb'
      show (a : Int) < (a' : Int)
      omega
    · cases hb'
  · cases hb
end Slot
end Go.Proofs.Ytpcbmckknafdgaa
