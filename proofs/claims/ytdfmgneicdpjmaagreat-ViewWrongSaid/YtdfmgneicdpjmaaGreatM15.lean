import Derived.Test.YtdfmgneicdpjmaaGreatM14
import Derived.Test.YtdfmgneicdpjmaaGreatM06
import Derived.Stop.RegionWithIn
import Derived.OrdersIn
import Derived.TacticsIn
import Derived.Deep.RegionHeld3
import Derived.Deep.AppendLies
/- field.Read over the body of a response with a number and the code 341. -/
namespace Go.Proofs.YtdfmgneicdpjmaaGreat
open Go.RowKit Go.Shelf
attribute [local go_sem] Oper.semAt_some
set_option linter.unusedVariables false
set_option linter.unusedSimpArgs false
set_option maxRecDepth 100000
namespace Resp

theorem fields_any (av : Option Addr) (n c : Nat) (w : World) :
    Calls Tryz.prog 121 #[.slice av n c] w fun e w' => e = .returned (.func (.func 166) #[] #[.pointer (some ⟨w.heap.size, 0, none⟩)]) ∧ w' = w.alloc (.cells #[.slice av n c] 25) := by
  go_enter Tryz.func121, Tryz.ntmps121
  go_wp2_with fail
  go_ret
  exact ⟨rfl, rfl⟩
/-- The body of a response, from cell o on. -/
def BodyAt (W : World) (g o n : Nat) : Prop := ∀ i, i < 8 → W.cell? ⟨g, o + i, none⟩ = some (.int .u8 ((bodyR n)[i]?.getD 0))
theorem BodyAt.mod {S : Nat → Prop} {W W' : World} {g o n : Nat} (h : BodyAt W g o n) (hm : Mod S W W') (hg : ¬ S g) : BodyAt W' g o n := fun i hi => hm.cell hg (h i hi)
theorem BodyAt.reads {W : World} {g o n c : Nat} (h : BodyAt W g o n) : Reads .u8 W (.slice (some ⟨g, o, none⟩) 8 c) (bodyR n) := .inr ⟨g, o, c, rfl, by unfold maxLen; simp [bodyR], fun i hi => h i hi⟩
def fldSt (g o c n bx : Nat) (_ : Nat) (W : World) : Prop := W.heap[bx]? = some (.cells #[.slice (some ⟨g, o, none⟩) 8 c] 25) ∧ BodyAt W g o n
def fldX (g o c : Nat) : Nat → Value × Value
  | 0 => (.int .i64 0, .agg #[.int .i64 1, .slice (some ⟨g, o + 2, none⟩) 1 (c - 2)])
  | _ => (.int .i64 3, .agg #[.int .i64 3, .slice (some ⟨g, o + 5, none⟩) 3 (c - 5)])
def fldYa (g o c n bx : Nat) (k : Nat) (x : Value × Value) (W : World) : Prop := x = fldX g o c k ∧ fldSt g o c n bx k W
set_option maxHeartbeats 2000000 in
theorem fields1_st (m : Nat) (hm : 1 ≤ m) (g o c n bx : Nat) (hn : n ≤ 246) (hc : 8 ≤ c) :
    SeqSt Fence.wide m Tryz.prog 166 #[.pointer (some ⟨bx, 0, none⟩)] (fun x : Value × Value => #[x.1, x.2]) (fun _ => False) (fldSt g o c n bx) (fldYa g o c n bx) 2 := by
  intro l J W hS hJ hY h0
  have HY := Lib.hid hY
  have HJ := Lib.hid hJ
  have H0 := Lib.hid h0
  have HS := Lib.hid hS
  obtain ⟨hbx, hbd⟩ := hS
  have k1 := cell_of_heap_ hbx
  have HR := Lib.hid (hbd.reads (c := c))
  have c0 := hbd 0 (by omega)
  simp [bodyR] at c0
  have n2 : ¬ c = 2 := by omega
  have n5 : ¬ c = 5 := by omega
  have n2' : ¬ c - 2 = 0 := by omega
  have n5' : ¬ c - 5 = 0 := by omega
  have n3 : 3 ≤ c := by omega
  have w1 : IntKind.i64.wrap 1 = 1 := by decide +kernel
  have w3 : IntKind.i64.wrap 3 = 3 := by decide +kernel
  have w8 : IntKind.i64.wrap 8 = 8 := by decide +kernel
  have n8 : 8 ≤ c := hc
  have n3I : (3 : Int) ≤ c := by omega
  have n8I : (8 : Int) ≤ c := by omega
  have n3J : ¬ (c : Int) < 3 := by omega
  have n8J : ¬ (c : Int) < 8 := by omega
  have n3K : ¬ c < 3 := by omega
  have n8K : ¬ c < 8 := by omega
  clear hJ hY h0 hbx hbd
  refine callsIn_of_wp Tryz.func166 rfl trivial ?_ rfl
  simp only [Tryz.ntmps166, List.size_toArray, List.length_cons, List.length_nil, Nat.reduceAdd, Nat.reduceSub, Array.replicate_succ, Array.replicate_zero, List.push_toArray, List.append_toArray, List.nil_append, List.cons_append]
  refine wpIn_wide.2 ?_
  go_wp2_with fail
  refine wp_loop_rounds 3 ?_
  rw [rounds_succ]
  go_wp2_with fail
  refine (NumInt_small (some ⟨g, o, none⟩) 8 c (bodyR n) W 1 1 HR.out rfl (by omega) (by omega) rfl (by omega) (by omega)).mono ?_; rintro e w1 ⟨rfl, hy⟩
  subst hy
  go_upto_region 6 with fail
  go_cut [53] from 38 (fun s wx => s = .bool false ∧ Hid (J 1 wx) ∧ Hid (fldSt g o c n bx 1 wx))
  case first =>
    rename_i J1 K1 hJ1 hK1
    refine (wpIn_wide (n := m)).1 ?_
    obtain ⟨fn, tmps, assign, body, hy, hR⟩ := HY.out 0 (fldX g o c 0) W.drew (by omega) (HJ.out 0 W W.drew H0.out ((Mod.refl _ W).drew)) ⟨rfl, HS.out⟩
    simp only [fldX] at hy
    gi_region_with (refine hR.mono ?_; rintro e W5 ⟨rfl, hJ5, hS5⟩)
    all_goals (change K1 _ _; refine hK1 _ _ (Met.intro (hJ1 _ _ ?_)); (repeat apply Exists.intro); refine ⟨⟨rfl, hJ5, hS5⟩, rfl⟩)
  case rest =>
    clear HS H0 k1 HR c0
    obtain ⟨rfl, H1, HS1⟩ := hcut
    have hST1 := HS1.out
    obtain ⟨hbx, hbd⟩ := hST1
    have k1 := cell_of_heap_ hbx
    have HR := Lib.hid (hbd.reads (c := c))
    have c3 := hbd 3 (by omega)
    simp [bodyR] at c3
    clear hbx hbd
    go_wp2_with fail
    rw [rounds_succ]
    go_wp2_with fail
    refine (NumInt_small (some ⟨g, o, none⟩) 8 c (bodyR n) wc 4 3 HR.out rfl (by omega) (by omega) rfl (by omega) (by omega)).mono ?_; rintro e w1 ⟨rfl, hy⟩
    subst hy
    go_upto_region 6 with fail
    go_cut [53] from 38 (fun s wx => s = .bool false ∧ Hid (J 2 wx) ∧ Hid (fldSt g o c n bx 2 wx))
    case first =>
      rename_i J1 K1 hJ1 hK1
      refine (wpIn_wide (n := m)).1 ?_
      obtain ⟨fn, tmps, assign, body, hy, hR⟩ := HY.out 1 (fldX g o c 1) wc.drew (by omega) (HJ.out 1 wc wc.drew H1.out ((Mod.refl _ wc).drew)) ⟨rfl, HS1.out⟩
      simp only [fldX] at hy
      gi_region_with (refine hR.mono ?_; rintro e W5 ⟨rfl, hJ5, hS5⟩)
      all_goals (change K1 _ _; refine hK1 _ _ (Met.intro (hJ1 _ _ ?_)); (repeat apply Exists.intro); refine ⟨⟨rfl, hJ5, hS5⟩, rfl⟩)
    case rest =>
      clear HS1 H1 k1 HR c3
      obtain ⟨rfl, H2, HS2⟩ := hcut
      have hST2 := HS2.out
      obtain ⟨hbx, hbd⟩ := hST2
      have k1 := cell_of_heap_ hbx
      clear hbx hbd
      go_wp2_with fail
      rw [rounds_succ]
      go_wp2_with fail
      go_end0
      exact ⟨⟨_, rfl⟩, H2.out, HS2.out⟩
end Resp
end Go.Proofs.YtdfmgneicdpjmaaGreat

/- A region that draws its order, in the round of a range over a function: what holds of it on the plain road holds there. -/
namespace Go.Proofs.YtdfmgneicdpjmaaGreat
open Go.RowKit Go.Shelf

theorem upon_in_round {l n : Nat} {P : Program} {o : Oper} {a : Act} {K K' : Act → World → Prop} {Q : Exit → Act → World → Prop} (hK : ∀ a w, K a w → K' a w) (r : Result Next) (h : o.upon P a K Q r) : o.uponIn (Fence.wide.inRound l) n P a K' Q r := by
  unfold Oper.upon at h
  unfold Oper.uponIn
  split at h
  · exact hK _ _ h
  · exact hK _ _ h
  · exact hK _ _ h
  · refine ⟨fun hd => (by cases hd), CallsIn.inRound l ((callsIn_wide (n := n - 1)).2 (h.mono ?_))⟩
    intro e w'' he
    cases e with
    | returned v => exact hK _ _ he
    | panicked c => exact he
    | outgrown => exact he
  · refine ⟨fun hd => (by cases hd), fun c cs _ => ?_⟩
    obtain ⟨v, w', r, s⟩ := h c cs
    exact ⟨v, w', hK _ _ r, stepsIn_wide.2 s⟩
  · exact h
  · exact h.elim
theorem anyIn_of_any {l n : Nat} {P : Program} {md : Region.Mode} {ops : Array Oper} {Q : Exit → Act → World → Prop} (hL : ¬ LetsOut Q) (hd : ∀ (i : Nat) (o : Oper), ops[i]? = some o → ∀ c, o.op ≠ .defer c) :
    ∀ (fuel : Nat) (listed : Array Bool) (a : Act) (w : World), wpAny P md ops Q fuel listed a w → wpAnyIn (Fence.wide.inRound l) n P md ops Q fuel listed a w
  | 0, _, _, _, h => h
  | fuel + 1, _, _, _, h => ⟨h.1, fun i hi => by
    have h2 := h.2 i hi
    unfold wpOp at h2
    unfold wpOpIn
    cases ho : ops[i]? with
    | none => rw [ho] at h2; exact anyIn_of_any hL hd fuel _ _ _ h2
    | some o =>
      rw [ho] at h2
      dsimp only at h2 ⊢
      split at h2
      · rcases h2 with h2 | ⟨-, h2⟩
        · rename_i hw
          rw [if_pos hw]
          refine ⟨fun f _ => trivial, ?_⟩
          rw [Oper.semAt_eq _ _ _ (hd i o ho)]
          exact upon_in_round (fun a w => anyIn_of_any hL hd fuel _ a w) _ h2
        · exact absurd h2 hL
      · rename_i hw
        rw [if_neg hw]
        exact ⟨fun f _ => trivial, anyIn_of_any hL hd fuel _ _ _ h2⟩⟩
theorem region_in_round {l n : Nat} {P : Program} {id : Nat} {ops : Array Oper} {Q : Exit → Act → World → Prop} {a : Act} {w : World} (hm : P.follows .mixedOrders = true) (hL : ¬ LetsOut Q) (hd : (ops.all fun o => match o.op with | .defer _ => false | _ => true) = true)
    (h : wpAny P .any ops Q ops.size (Array.replicate ops.size false) a w.drew) : (Code.region id ops true).wpIn (Fence.wide.inRound l) n P Q a w := by
  refine wpIn_region_any hm (anyIn_of_any hL ?_ _ _ _ _ h)
  intro i o ho c e
  have := (Array.all_eq_true_iff_forall_mem.1 hd) o (Array.mem_of_getElem? ho)
  rw [e] at this
  cases this
end Go.Proofs.YtdfmgneicdpjmaaGreat

/- Regions whose order is drawn, with a condition on the world that is asked up to one last operation (a store that ends the loads). -/
namespace Go.Proofs.YtdfmgneicdpjmaaGreat
open Go.RowKit Go.Shelf
set_option linter.unusedVariables false
set_option linter.unusedSimpArgs false
namespace Held
variable {P : Program} {ops : Array Oper} {Q : Exit → Act → World → Prop} {md : Region.Mode} {S : World → Prop} {s : Nat}

/-- Whatever order is picked; S behind each operation that comes ahead of 's'. -/
def wpT (P : Program) (md : Region.Mode) (ops : Array Oper) (Q : Exit → Act → World → Prop) (S : World → Prop) (s : Nat) : Nat → Array Bool → Act → World → Prop
  | 0, listed, a, w => Region.ready md ops listed = [] ∧ Q .normal a w
  | fuel + 1, listed, a, w =>
    (Region.ready md ops listed = [] → Q .normal a w) ∧
    ∀ i ∈ Region.ready md ops listed, if i = s then wpOp P ops Q i (wpAny P md ops Q fuel (listed.setIfInBounds i true)) a w
      else wpOp P ops Q i (fun a' w' => S w' ∧ wpT P md ops Q S s fuel (listed.setIfInBounds i true) a' w') a w

theorem wpAny_of_wpT : ∀ (fuel : Nat) (listed : Array Bool) (a : Act) (w : World), wpT P md ops Q S s fuel listed a w → wpAny P md ops Q fuel listed a w
  | 0, _, _, _, h => h
  | fuel + 1, listed, a, w, h => ⟨h.1, fun i hi => by
      have h2 := h.2 i hi
      split at h2
      · exact h2
      · exact wpOp_mono (fun a' w' h' => wpAny_of_wpT fuel _ a' w' h'.2) h2⟩

theorem listed_of {i j : Nat} {listed : Array Bool} (hj : j ∈ Region.ready md ops listed) (hi : i ∈ Region.ready md ops listed) :
    ∀ oj, ops[j]? = some oj → ∀ e ∈ oj.after, Region.binds md e = true → e.on ≠ i := fun oj hoj e he hb heq => by
  obtain ⟨_, o, ho, hall⟩ := mem_ready.1 hj
  rw [hoj] at ho
  obtain rfl := Option.some.inj ho
  have h1 := hall e he hb
  have h0 := (mem_ready.1 hi).1
  rw [heq] at h1
  rcases Nat.lt_or_ge i listed.size with h' | h'
  · simp [h'] at h0 h1; rw [h0] at h1; cases h1
  · simp [Array.getElem?_eq_none h'] at h1

/-- An operation for which 's' waits may be taken first if it yields in every world that meets S. -/
theorem wpT_first {i : Nat} {oi os : Oper} {v : Value} (hi : ops[i]? = some oi) (hsel : ∀ (j : Nat) (o : Oper) cs b, ops[j]? = some o → o.op ≠ .select cs b)
    (hQ : ∀ c a w, Q (.panic c) (a.put oi.dst v) w → Q (.panic c) a w) (hos : ops[s]? = some os) (hw : ∃ e ∈ os.after, Region.binds md e = true ∧ e.on = i) (his : i ≠ s) :
    ∀ (fuel : Nat) (listed : Array Bool) (a : Act) (w : World),
      (∀ j oj, ops[j]? = some oj → j ≠ i → listed.getD j true = false → (∀ e ∈ oj.after, Region.binds md e = true → e.on ≠ i) → oi.apart ops oj = true) →
      i ∈ Region.ready md ops listed → YieldsIf P ops S oi v a → S w →
      wpT P md ops Q S s fuel (listed.setIfInBounds i true) (a.put oi.dst v) w → wpT P md ops Q S s (fuel + 1) listed a w := by
  intro fuel
  induction fuel with
  | zero =>
    intro listed a w _ hr hy hS H
    refine ⟨fun h => (by rw [h] at hr; cases hr), fun j hj => ?_⟩
    by_cases hji : j = i
    · subst hji; rw [if_neg his]; exact hy.wpOp hi hS ⟨hS, H⟩
    · have := ready_mono hj hji
      rw [H.1] at this
      cases this
  | succ fuel ih =>
    intro listed a w hfree hr hy hS H
    refine ⟨fun h => (by rw [h] at hr; cases hr), fun j hj => ?_⟩
    by_cases hji : j = i
    · subst hji; rw [if_neg his]; exact hy.wpOp hi hS ⟨hS, H⟩
    · have hjs : j ≠ s := by
        rintro rfl
        obtain ⟨e, he, hb, heq⟩ := hw
        exact listed_of hj hr os hos e he hb heq
      have h1 := H.2 j (ready_mono hj hji)
      rw [if_neg hjs] at h1 ⊢
      obtain ⟨hjun, oj, hoj, hall⟩ := mem_ready.1 hj
      have hnot := listed_of hj hr oj hoj
      have h2 := wpOp_putIf hoj (hfree j oj hoj hji hjun hnot) (fun cs b => hsel i oi cs b hi) (fun cs b => hsel j oj cs b hoj) hQ hy h1
      have hfree' : ∀ k ok, ops[k]? = some ok → k ≠ i → (listed.setIfInBounds j true).getD k true = false →
          (∀ e ∈ ok.after, Region.binds md e = true → e.on ≠ i) → oi.apart ops ok = true := fun k ok hk hki hun hno => by
        refine hfree k ok hk hki ?_ hno
        by_cases hjk : j = k
        · subst hjk; exact hjun
        · rw [getD_set_ne true hjk] at hun; exact hun
      refine wpOp_mono (fun a' w' h3 => ⟨h3.2.1, ih (listed.setIfInBounds j true) a' w' hfree' (ready_mono hr (Ne.symm hji)) h3.1 h3.2.1 ?_⟩) h2
      rw [Array.setIfInBounds_comm _ _ hji]
      exact h3.2.2

/-- An operation that yields in whatever world may be taken first. -/
theorem wpT_firstY {i : Nat} {oi : Oper} {v : Value} (hi : ops[i]? = some oi) (hsel : ∀ (j : Nat) (o : Oper) cs b, ops[j]? = some o → o.op ≠ .select cs b)
    (hQ : ∀ c a w, Q (.panic c) (a.put oi.dst v) w → Q (.panic c) a w) (his : i ≠ s) :
    ∀ (fuel : Nat) (listed : Array Bool) (a : Act) (w : World),
      (∀ j oj, ops[j]? = some oj → j ≠ i → listed.getD j true = false → (∀ e ∈ oj.after, Region.binds md e = true → e.on ≠ i) → oi.apart ops oj = true) →
      i ∈ Region.ready md ops listed → Yields P ops oi v a → S w →
      wpT P md ops Q S s fuel (listed.setIfInBounds i true) (a.put oi.dst v) w → wpT P md ops Q S s (fuel + 1) listed a w := by
  intro fuel
  induction fuel with
  | zero =>
    intro listed a w _ hr hy hS H
    refine ⟨fun h => (by rw [h] at hr; cases hr), fun j hj => ?_⟩
    by_cases hji : j = i
    · subst hji; rw [if_neg his]; exact hy.wpOp hi ⟨hS, H⟩
    · have := ready_mono hj hji
      rw [H.1] at this
      cases this
  | succ fuel ih =>
    intro listed a w hfree hr hy hS H
    refine ⟨fun h => (by rw [h] at hr; cases hr), fun j hj => ?_⟩
    by_cases hji : j = i
    · subst hji; rw [if_neg his]; exact hy.wpOp hi ⟨hS, H⟩
    · have h1 := H.2 j (ready_mono hj hji)
      obtain ⟨hjun, oj, hoj, hall⟩ := mem_ready.1 hj
      have hnot := listed_of hj hr oj hoj
      have hfree' : ∀ k ok, ops[k]? = some ok → k ≠ i → (listed.setIfInBounds j true).getD k true = false →
          (∀ e ∈ ok.after, Region.binds md e = true → e.on ≠ i) → oi.apart ops ok = true := fun k ok hk hki hun hno => by
        refine hfree k ok hk hki ?_ hno
        by_cases hjk : j = k
        · subst hjk; exact hjun
        · rw [getD_set_ne true hjk] at hun; exact hun
      by_cases hjs : j = s
      · rw [if_pos hjs] at h1 ⊢
        have h2 := wpOp_put hoj (hfree j oj hoj hji hjun hnot) (fun cs b => hsel i oi cs b hi) (fun cs b => hsel j oj cs b hoj) hQ hy h1
        refine wpOp_mono (fun a' w' h3 => ?_) h2
        refine wpAny_first hi hsel hQ fuel (listed.setIfInBounds j true) a' w' hfree' (ready_mono hr (Ne.symm hji)) h3.1 ?_
        rw [Array.setIfInBounds_comm _ _ hji]
        exact h3.2
      · rw [if_neg hjs] at h1 ⊢
        have h2 := wpOp_put hoj (hfree j oj hoj hji hjun hnot) (fun cs b => hsel i oi cs b hi) (fun cs b => hsel j oj cs b hoj) hQ hy h1
        refine wpOp_mono (fun a' w' h3 => ⟨h3.2.1, ih (listed.setIfInBounds j true) a' w' hfree' (ready_mono hr (Ne.symm hji)) h3.1 h3.2.1 ?_⟩) h2
        rw [Array.setIfInBounds_comm _ _ hji]
        exact h3.2.2

theorem wpT_take {i : Nat} {oi os : Oper} {v : Value} {fuel : Nat} {listed : Array Bool} {a : Act} {w : World} (hi : ops[i]? = some oi) (hos : ops[s]? = some os)
    (hw : (os.after.toList.any fun e => Region.binds md e && e.on == i) = true) (his : i ≠ s)
    (hs : Region.noSelect ops = true) (hf : Region.free md ops listed i = true) (hr : (Region.ready md ops listed).contains i = true)
    (hQ : ∀ c a w, Q (.panic c) (a.put oi.dst v) w → Q (.panic c) a w) (hy : YieldsIf P ops S oi v a) (hS : S w)
    (h : wpT P md ops Q S s fuel (listed.setIfInBounds i true) (a.put oi.dst v) w) : wpT P md ops Q S s (fuel + 1) listed a w :=
  wpT_first hi (Region.noSelect_spec hs) hQ hos (by
    obtain ⟨e, he, hb⟩ := List.any_eq_true.1 hw
    simp only [Bool.and_eq_true, beq_iff_eq] at hb
    exact ⟨e, by simpa using he, hb.1, hb.2⟩) his fuel listed a w (Region.free_spec hi hf) (by simpa using hr) hy hS h
theorem wpT_takeY {i : Nat} {oi : Oper} {v : Value} {fuel : Nat} {listed : Array Bool} {a : Act} {w : World} (hi : ops[i]? = some oi) (his : i ≠ s)
    (hs : Region.noSelect ops = true) (hf : Region.free md ops listed i = true) (hr : (Region.ready md ops listed).contains i = true)
    (hQ : ∀ c a w, Q (.panic c) (a.put oi.dst v) w → Q (.panic c) a w) (hy : Yields P ops oi v a) (hS : S w)
    (h : wpT P md ops Q S s fuel (listed.setIfInBounds i true) (a.put oi.dst v) w) : wpT P md ops Q S s (fuel + 1) listed a w :=
  wpT_firstY hi (Region.noSelect_spec hs) hQ his fuel listed a w (Region.free_spec hi hf) (by simpa using hr) hy hS h

/-- Each of 'rs' comes up next. -/
def AllT (P : Program) (md : Region.Mode) (ops : Array Oper) (Q : Exit → Act → World → Prop) (S : World → Prop) (s : Nat) (fuel : Nat) (listed : Array Bool) (a : Act) (w : World) (rs : List Nat) : Prop :=
  ∀ i ∈ rs, if i = s then wpOp P ops Q i (wpAny P md ops Q fuel (listed.setIfInBounds i true)) a w
      else wpOp P ops Q i (fun a' w' => S w' ∧ wpT P md ops Q S s fuel (listed.setIfInBounds i true) a' w') a w
theorem AllT.nil {fuel : Nat} {listed : Array Bool} {a : Act} {w : World} : AllT P md ops Q S s fuel listed a w [] := fun _ h => by cases h
theorem AllT.cons {fuel : Nat} {listed : Array Bool} {a : Act} {w : World} {i : Nat} {o : Oper} {rs : List Nat} (ho : ops[i]? = some o) (his : i ≠ s)
    (h : ∀ K' : Act → World → Prop, Shut (∀ a w, S w → (S w → wpT P md ops Q S s fuel (listed.setIfInBounds i true) a w) → K' a w) → if Region.wanted o (yielded ops a.tmps) = true then Oper.wp P o a w K' Q else K' (a.put o.dst undef) w)
    (hs : AllT P md ops Q S s fuel listed a w rs) : AllT P md ops Q S s fuel listed a w (i :: rs) := fun j hj => by
  rcases List.mem_cons.1 hj with rfl | hj
  · rw [if_neg his]; exact wpOp_step ho (fun K' hK => h K' (fun a w hS hW => hK a w ⟨hS, hW hS⟩))
  · exact hs j hj
theorem AllT.stop {fuel : Nat} {listed : Array Bool} {a : Act} {w : World} {o : Oper} (ho : ops[s]? = some o)
    (h : ∀ K' : Act → World → Prop, Shut (∀ a w, wpAny P md ops Q fuel (listed.setIfInBounds s true) a w → K' a w) → if Region.wanted o (yielded ops a.tmps) = true then Oper.wp P o a w K' Q else K' (a.put o.dst undef) w) : AllT P md ops Q S s fuel listed a w [s] := fun j hj => by
  rcases List.mem_cons.1 hj with rfl | hj
  · rw [if_pos rfl]; exact wpOp_step ho (fun K' hK => h K' hK)
  · cases hj
theorem wpT_ready {rs : List Nat} {fuel : Nat} {listed : Array Bool} {a : Act} {w : World} (hr : Region.ready md ops listed = rs) (hne : rs ≠ [])
    (h : AllT P md ops Q S s fuel listed a w rs) : wpT P md ops Q S s (fuel + 1) listed a w := ⟨fun h0 => absurd (hr ▸ h0) hne, hr ▸ h⟩
/-- One that comes up alone, behind 's'. -/
theorem wpAny_one {i : Nat} {o : Oper} {fuel : Nat} {listed : Array Bool} {a : Act} {w : World} (hr : Region.ready md ops listed = [i]) (ho : ops[i]? = some o)
    (h : ∀ K' : Act → World → Prop, Shut (∀ a w, wpAny P md ops Q fuel (listed.setIfInBounds i true) a w → K' a w) → if Region.wanted o (yielded ops a.tmps) = true then Oper.wp P o a w K' Q else K' (a.put o.dst undef) w) : wpAny P md ops Q (fuel + 1) listed a w :=
  ⟨fun h0 => (by rw [hr] at h0; cases h0), fun j hj => by
    rw [hr] at hj
    rcases List.mem_cons.1 hj with rfl | hj
    · exact wpOp_step ho (fun K' hK => h K' hK)
    · cases hj⟩
theorem wp_region_T {id : Nat} {a : Act} {w : World} (s : Nat) (S : World → Prop) (hm : P.follows .mixedOrders = true) (hS : S w.drew)
    (h : S w.drew → wpT P .any ops Q S s ops.size (Array.replicate ops.size false) a w.drew) : (Code.region id ops true).wp P Q a w :=
  wp_region_any hm (wpAny_of_wpT _ _ _ _ (h hS))
end Held
end Go.Proofs.YtdfmgneicdpjmaaGreat
