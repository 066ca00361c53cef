/- Slots: what is collected from an iterator. -/
import Derived.Test.YtpcbmckknafdgaaSlotD
namespace Go.Proofs.Ytpcbmckknafdgaa
open Go.RowKit Go.Shelf
attribute [local go_sem] Oper.semAt_some
set_option linter.unusedVariables false
set_option linter.unusedSimpArgs false
set_option maxRecDepth 100000
namespace Slot

theorem nodup_le : ∀ (n : Nat) (l : List Nat), l.Nodup → (∀ x ∈ l, x < n) → l.length ≤ n
  | 0, l, _, h => by
    cases l with
    | nil => simp
    | cons x l => have := h x List.mem_cons_self; omega
  | n + 1, l, hd, h => by
    have h1 := nodup_le n (l.erase n) (hd.erase n) fun x hx => by
      have h2 := h x (List.mem_of_mem_erase hx)
      have h3 : x ≠ n := fun e => by
        subst e
        exact (List.Nodup.not_mem_erase hd) hx
      omega
    rw [List.length_erase] at h1
    split at h1 <;> omega
theorem free_le {n : Nat} {T : Tab} (hv : Valid n T) : T.free.length ≤ n := nodup_le n T.free hv.nodup fun x hx => (hv.free x hx).1
theorem refs_le (n : Nat) (T : Tab) : (refsT n T).length ≤ n := by
  have := List.length_filterMap_le (fun i => if T.taken.getD i false then some ((i : Int), T.lives.getD i 0) else none) (List.range n)
  simpa [refsT] using this

set_option maxHeartbeats 1000000 in
theorem appendInts (m : Nat) (hm : 3 ≤ m) (gf : Nat) (lb : Array Value) (eg : ∀ args w, (callFunc gf args).run Try.prog w = .ok (.enter gf args) w) (xs : List Nat) (hxs : xs.length ≤ 1024) (Sp : List Nat → Prop) (w : World)
    (hseq : SeqStopsK Fence.wide (m - 1) Try.prog gf lb (fun x : Nat => #[Value.int .i64 (x : Int)]) (Below w.heap.size) (fun ys => ys = xs) Sp xs.length w) :
    CallsIn Fence.wide m Try.prog 47 #[.slice none 0 0, .func (.func gf) #[] lb] w fun e W' => ∃ v, e = .returned v ∧ W'.ownsRow w.heap.size 3 1 v xs.length (xs.map fun x : Nat => Value.int .i64 (x : Int)) ∧ Below w.heap.size w W' := by
  obtain ⟨i0, hi, hz0, hz1, hz2⟩ := info_parts infoInt
  refine callsIn_of_wp_marks Try.func47 rfl trivial ?_ rfl
  simp only [Try.ntmps47, List.size_toArray, List.length_cons, List.length_nil, Nat.reduceAdd, Nat.reduceSub, Array.replicate_succ, Array.replicate_zero, List.push_toArray, List.append_toArray, List.nil_append, List.cons_append]
  gi_wp2
  have bO := Boxed.new w 29 (.slice none 0 0)
  have hB0 : Below w.heap.size w (w.alloc (.cells #[.slice none 0 0] 29)) := (Below.refl _ w).alloc (Nat.le_refl _) _
  refine wpIn_rangeFunc_ownG rfl (by omega) (gf := gf) (lb := lb) rfl trivial eg hseq belowK_t (belowK_b (by simp)) hB0 (fun _ => rfl)
    (fun pre W => (∃ v, Boxed W w.heap.size 29 v ∧ W.ownsRow w.heap.size 3 1 v pre.length (pre.map fun x : Nat => Value.int .i64 (x : Int)) ∧ True) ∧ Below w.heap.size w W)
    (fun _ _ _ => False)
    (OwnFrom.and (Own.from (holdsRow_own w.heap.size w.heap.size 29 3 1 (fun pre : List Nat => pre.length) (fun pre => pre.map fun x : Nat => Value.int .i64 (x : Int)) (fun _ _ => True)) _) (ownFrom_below (Nat.le_refl _) (by simp)))
    (fun _ _ _ _ _ hs _ _ => hs)
    ⟨⟨_, bO, World.ownsRow_nil _ _ _ _, trivial⟩, hB0⟩
    (fun x => { tmps := #[.slice none 0 0, .func (.func gf) #[] lb, .pointer (some ⟨w.heap.size, 0, none⟩), undef, .slice none 0 0, .int .i64 (x : Int), .func (.func gf) #[] lb, .int .i64 (x : Int), undef, undef, undef, undef, undef], defers := [] }) ?assign ?body ?done ?stop
  case assign =>
    intro l x W K hK
    gi_wp2
    exact hK
  case body =>
    rintro l pre x W ⟨⟨v, hv, hrow, -⟩, hB⟩ hlt
    have hc := hv.cell
    have hlt8 : pre.length < 1024 := by omega
    gi_wp2_with (gi_at_builtin; refine wpListIn_append_own _ rfl _ _ 29 rfl w.heap.size 3 i0 (.int .i64 0) 1 8 Try.underlying29 hi hz0 hz1 hz2 rfl (by decide) _ _ _ rfl (hrow.alloc _) ⟨W.heap.size, 0, none⟩ 1 1 [.int .i64 (x : Int)] rfl rfl (cell_one_new _ _ _) (by simp [Value.oneCell']) (by unfold maxLen; omega) (by omega) (by have := hB.size; simp; omega) ?_; intro v' w1 hown' hgrow _; obtain ⟨g', cap', rfl⟩ := ownsRow_succ hown'; obtain ⟨hv1, hv2, hr2, hk2, hb2⟩ := hv.appended (by decide) hrow hB.size (Nat.le_refl _) hown' hgrow; have hc1 := hv1.cell; have hf1 := hv1.frozen)
    refine ⟨hk2.from _, hb2, ⟨_, hv2, by simpa using hr2, trivial⟩, hB.trans hb2⟩
  case done =>
    rintro D ys W hD rfl ⟨⟨v, hv, hrow, -⟩, hB⟩ hK
    have hc := hv.cell
    gi_wp2
    refine ⟨by simp, .inl ⟨_, _, rfl, run_takeDeferred hK, ?_⟩⟩
    exact ⟨_, results_tmp rfl _ _ _, v, rfl, ownsRow_putObj hrow _ hK rfl, hB.trans (belowK_b (w := w) (Nat.le_refl _) W D _ _ (by simp at hD; omega) hK rfl rfl)⟩
  case stop =>
    rintro D c pre W _ _ h _
    exact h.elim

theorem Free_any (p q n : Nat) (T : Tab) (w : World) (h : TableAt w p q n T) :
    Calls Try.prog 18 #[.pointer (some ⟨p, 0, none⟩)] w fun e w' => ∃ v, e = .returned v ∧ w'.ownsRow w.heap.size 3 1 v T.free.length (T.free.map fun x : Nat => Value.int .i64 (x : Int)) ∧ Below w.heap.size w w' := by
  have hlt := h.lt
  have hB1 : Below w.heap.size w (w.alloc (.cells #[.pointer (some ⟨p, 0, none⟩)] 33)) := (Below.refl _ w).alloc (Nat.le_refl _) _
  have h1 := h.below hB1
  have b1 := (Boxed.new w 33 (.pointer (some ⟨p, 0, none⟩))).cell
  have hfl : T.free.length ≤ 1024 := by
    have hv := h.2.1
    have := free_le hv
    have := hv.n
    omega
  have hcol := appendInts 5 (by omega) 48 #[.pointer (some ⟨w.heap.size, 0, none⟩)] (enters_of Try.func48 (by kernel_rfl) rfl) T.free hfl (fun pre => pre <+: T.free) (w.alloc (.cells #[.pointer (some ⟨p, 0, none⟩)] 33))
    (free1_stops 4 (by omega) w.heap.size _ p q n T _ (by simp) (Nat.le_refl _) h1 (by simp; omega) (by simp; omega) b1)
  have hcol2 := callsIn_wide.1 hcol
  go_enter Try.func18, Try.ntmps18
  go_wp2_with (first | (go_at_call 33; refine (none_no p q n T _ h).mono ?_; rintro e w' ⟨rfl, rfl⟩) | (go_at_call 35; refine (free_any _ _).mono ?_; rintro e w' ⟨rfl, rfl⟩) | (go_at_call 47; refine hcol2.mono ?_; rintro e w' ⟨v, rfl, hr, hb⟩) | go_in)
  go_ret
  exact ⟨v, rfl, ownsRow_base hr (by simp), hB1.trans (hb.mono (by simp))⟩

theorem cell_two (W : World) (a b : Value) (t : TypeId) : ∀ (j : Nat) (u : Value), [a, b][j]? = some u → (W.alloc (.cells #[a, b] t)).cell? ((⟨W.heap.size, 0, none⟩ : Addr).add j) = some u := by
  rintro (_ | _ | j) u h
  · simp at h; subst h; simp [Addr.add]
  · simp at h; subst h; simp [Addr.add]
  · simp at h

/-- A reference in memory. -/
def RefAt (W : World) (B : Nat) (x : R) : Prop := W.heap[B]? = some (.cells #[.int .i64 x.1, .int .i64 x.2] 26 (0, 0))
theorem RefAt.c0 {W : World} {B : Nat} {x : R} (h : RefAt W B x) : W.cell? ⟨B, 0, none⟩ = some (.int .i64 x.1) := by simp [World.cell?, show W.heap[B]? = _ from h]
theorem RefAt.c1 {W : World} {B : Nat} {x : R} (h : RefAt W B x) : W.cell? ⟨B, 1, none⟩ = some (.int .i64 x.2) := by simp [World.cell?, show W.heap[B]? = _ from h]
def refCells (l : List R) : List Value := l.flatMap fun x => [Value.int .i64 x.1, .int .i64 x.2]
theorem refCells_snoc (l : List R) (x : R) : refCells (l ++ [x]) = refCells l ++ [.int .i64 x.1, .int .i64 x.2] := by simp [refCells]

set_option maxHeartbeats 2000000 in
theorem appendRefs (m : Nat) (hm : 3 ≤ m) (gf : Nat) (lb : Array Value) (eg : ∀ args w, (callFunc gf args).run Try.prog w = .ok (.enter gf args) w) (xs : List R) (hxs : xs.length ≤ 1024) (Sp : List R → Prop) (w : World)
    (hseq : SeqStopsK Fence.wide (m - 1) Try.prog gf lb (fun x : R => #[Value.agg #[.int .i64 x.1, .int .i64 x.2]]) (Below w.heap.size) (fun ys => ys = xs) Sp xs.length w) :
    CallsIn Fence.wide m Try.prog 49 #[.slice none 0 0, .func (.func gf) #[] lb] w fun e W' => ∃ v, e = .returned v ∧ W'.ownsRow w.heap.size 26 2 v xs.length (refCells xs) ∧ Below w.heap.size w W' := by
  obtain ⟨i0, hi, hz0, hz1, hz2⟩ := info_parts infoRef
  refine callsIn_of_wp_marks Try.func49 rfl trivial ?_ rfl
  simp only [Try.ntmps49, List.size_toArray, List.length_cons, List.length_nil, Nat.reduceAdd, Nat.reduceSub, Array.replicate_succ, Array.replicate_zero, List.push_toArray, List.append_toArray, List.nil_append, List.cons_append]
  gi_wp2
  have bO := Boxed.new w 44 (.slice none 0 0)
  have hB0 : Below w.heap.size w (w.alloc (.cells #[.slice none 0 0] 44)) := (Below.refl _ w).alloc (Nat.le_refl _) _
  refine wpIn_rangeFunc_ownH rfl (by omega) (gf := gf) (lb := lb) rfl trivial eg hseq belowK_t (belowK_b (by simp)) hB0 (fun _ => rfl)
    (fun pre W => (∃ v, Boxed W w.heap.size 44 v ∧ W.ownsRow w.heap.size 26 2 v pre.length (refCells pre) ∧ True) ∧ Below w.heap.size w W)
    (fun _ _ _ => False)
    (OwnFrom.and (Own.from (holdsRow_own w.heap.size w.heap.size 44 26 2 (fun pre : List R => pre.length) (fun pre => refCells pre) (fun _ _ => True)) _) (ownFrom_below (Nat.le_refl _) (by simp)))
    (fun _ _ _ _ _ hs _ _ => hs)
    ⟨⟨_, bO, World.ownsRow_nil _ _ _ _, trivial⟩, hB0⟩
    (fun x a' W => ∃ Bx, w.heap.size < Bx ∧ RefAt W Bx x ∧ a' = { tmps := #[.slice none 0 0, .func (.func gf) #[] lb, .pointer (some ⟨w.heap.size, 0, none⟩), undef, .slice none 0 0, .pointer (some ⟨Bx, 0, none⟩), .func (.func gf) #[] lb, .agg #[.int .i64 x.1, .int .i64 x.2], undef, undef, undef, undef, undef], defers := [] })
    ?ax ?assign ?body ?done ?stop
  case ax =>
    intro x a'
    refine Own.from (fun s A B row hs hg hr => ?_) _
    obtain ⟨Bx, h1, h2, h3⟩ := hs
    refine ⟨Bx, h1, (hg.block Bx (Array.getElem?_eq_some_iff.1 h2).1 (fun e => ?_)).trans h2, h3⟩
    obtain ⟨o, ho, hc⟩ := hr Bx e.symm
    rw [show A.heap[Bx]? = _ from h2] at ho; cases ho; cases hc
  case assign =>
    rintro l pre x W K ⟨⟨v, hv, hrow, -⟩, hB⟩ hK
    have hsz := hB.size
    gi_wp2
    exact hK _ _ ((KeepsOthers.alloc _ _).from _) ((Below.refl _ W).alloc hsz _) ⟨⟨v, hv.alloc _, hrow.alloc _, trivial⟩, hB.alloc hsz _⟩ ⟨W.heap.size, hv.lt, World.alloc_heap_new W _, rfl⟩
  case body =>
    rintro l pre x a' W hl - ⟨⟨v, hv, hrow, -⟩, hB⟩ ⟨Bx, hBx, hR, rfl⟩ hlt
    have hc := hv.cell
    have r0 := hR.c0
    have r1 := hR.c1
    have hlt8 : pre.length < 1024 := by omega
    gi_wp2_with (gi_at_builtin; refine wpListIn_append_own _ rfl _ _ 44 rfl w.heap.size 26 i0 (.agg #[.int .i64 0, .int .i64 0]) 2 16 Try.underlying44 hi hz0 hz1 hz2 rfl (by decide) _ _ _ rfl (hrow.alloc _) ⟨W.heap.size, 0, none⟩ 1 1 [.int .i64 x.1, .int .i64 x.2] rfl rfl (cell_two _ _ _ _) (by simp [Value.oneCell']) (by unfold maxLen; omega) (by omega) (by have := hB.size; simp; omega) ?_; intro v' w1 hown' hgrow _; obtain ⟨g', cap', rfl⟩ := ownsRow_succ hown'; obtain ⟨hv1, hv2, hr2, hk2, hb2⟩ := hv.appended (by decide) hrow hB.size (Nat.le_refl _) hown' hgrow; have hc1 := hv1.cell; have hf1 := hv1.frozen)
    refine ⟨hk2.from _, hb2, ⟨_, hv2, by rw [refCells_snoc]; simpa using hr2, trivial⟩, hB.trans hb2⟩
  case done =>
    rintro D ys W hD rfl ⟨⟨v, hv, hrow, -⟩, hB⟩ hK
    have hc := hv.cell
    gi_wp2
    refine ⟨by simp, .inl ⟨_, _, rfl, run_takeDeferred hK, ?_⟩⟩
    exact ⟨_, results_tmp rfl _ _ _, v, rfl, ownsRow_putObj hrow _ hK rfl, hB.trans (belowK_b (w := w) (Nat.le_refl _) W D _ _ (by simp at hD; omega) hK rfl rfl)⟩
  case stop =>
    rintro D c pre W _ _ h _
    exact h.elim

theorem Refs_any (p q n : Nat) (T : Tab) (w : World) (h : TableAt w p q n T) :
    Calls Try.prog 21 #[.pointer (some ⟨p, 0, none⟩)] w fun e w' => ∃ v, e = .returned v ∧ w'.ownsRow w.heap.size 26 2 v (refsT n T).length (refCells (refsT n T)) ∧ Below w.heap.size w w' := by
  have hlt := h.lt
  have hB1 : Below w.heap.size w (w.alloc (.cells #[.pointer (some ⟨p, 0, none⟩)] 33)) := (Below.refl _ w).alloc (Nat.le_refl _) _
  have h1 := h.below hB1
  have b1 := (Boxed.new w 33 (.pointer (some ⟨p, 0, none⟩))).cell
  have hfl : (refsT n T).length ≤ 1024 := by
    have := refs_le n T
    have := h.2.1.n
    omega
  have hcol := appendRefs 5 (by omega) 50 #[.pointer (some ⟨w.heap.size, 0, none⟩)] (enters_of Try.func50 (by kernel_rfl) rfl) (refsT n T) hfl (fun pre => pre <+: refsT n T) (w.alloc (.cells #[.pointer (some ⟨p, 0, none⟩)] 33))
    (taken1_stops 4 (by omega) w.heap.size _ p q n T _ (by simp) (Nat.le_refl _) h1 (by simp; omega) (by simp; omega) b1)
  have hcol2 := callsIn_wide.1 hcol
  go_enter Try.func21, Try.ntmps21
  go_wp2_with (first | (go_at_call 33; refine (none_no p q n T _ h).mono ?_; rintro e w' ⟨rfl, rfl⟩) | (go_at_call 37; refine (taken_any _ _).mono ?_; rintro e w' ⟨rfl, rfl⟩) | (go_at_call 49; refine hcol2.mono ?_; rintro e w' ⟨v, rfl, hr, hb⟩) | go_in)
  go_ret
  exact ⟨v, rfl, ownsRow_base hr (by simp), hB1.trans (hb.mono (by simp))⟩

/-- What a slice value that owns a row looks like. -/
theorem ownsRow_val {W : World} {base : Nat} {e : TypeId} {size : Nat} {v : Value} {k : Nat} {xs : List Value} (h : W.ownsRow base e size v k xs) : ∃ a cap, v = .slice a k cap := by
  rcases h.2 with ⟨rfl, rfl⟩ | ⟨g, cap, cur, rfl, _⟩
  · exact ⟨_, _, rfl⟩
  · exact ⟨_, _, rfl⟩

def countsT (n : Nat) (T : Tab) : Int × Int × Int := ((refsT n T).length, T.free.length, (n : Int) - (refsT n T).length - T.free.length)
theorem Counts_any (p q n : Nat) (T : Tab) (w : World) (h : TableAt w p q n T) :
    Calls Try.prog 20 #[.pointer (some ⟨p, 0, none⟩)] w fun e w' => e = .returned (.tuple #[.int .i64 (countsT n T).1, .int .i64 (countsT n T).2.1, .int .i64 (countsT n T).2.2]) ∧ Below w.heap.size w w' := by
  have hf := free_le h.2.1
  have hr := refs_le n T
  have hn := h.2.1.n
  go_enter Try.func20, Try.ntmps20
  go_wp2_with fail
  refine (none_no p q n T _ h).mono ?_; rintro e w' ⟨rfl, rfl⟩
  go_wp2_with fail
  refine (Refs_any p q n T _ h).mono ?_; rintro e w1 ⟨v, rfl, hr1, hb1⟩
  obtain ⟨a1, k1, rfl⟩ := ownsRow_val hr1
  have h1 := h.below hb1
  go_wp2_with fail
  refine (Free_any p q n T _ h1).mono ?_; rintro e w2 ⟨v, rfl, hr2, hb2⟩
  obtain ⟨a2, k2, rfl⟩ := ownsRow_val hr2
  have h2 := h1.below hb2
  obtain ⟨fst, nx, c0, -, -, -, -, -, -⟩ := h2.reads
  clear hr1 hr2
  have HC : Hid (countsT n T = (((refsT n T).length : Int), (T.free.length : Int), (n : Int) - (refsT n T).length - T.free.length)) := rfl
  generalize (refsT n T).length = a at *
  generalize T.free.length = b at *
  go_wp2_with fail
  go_quiet (fail)
  go_wp2_with fail
  go_ret3
  exact ⟨by rw [HC.out]; rfl, below_drewN (hb1.trans (hb2.mono hb1.size)) _⟩
end Slot
end Go.Proofs.Ytpcbmckknafdgaa
