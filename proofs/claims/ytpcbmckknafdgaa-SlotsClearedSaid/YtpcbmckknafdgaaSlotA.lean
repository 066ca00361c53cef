/- A table of places: its plain form, where it lies in memory, and the functions that only look at it. -/
import Derived.Test.YtpcbmckknafdgaaFermLib
import Derived.Deep.QuietTactic
namespace Go.Proofs.Ytpcbmckknafdgaa
open Go.RowKit Go.Shelf
set_option linter.unusedVariables false
set_option linter.unusedSimpArgs false
set_option maxRecDepth 100000
namespace Slot

/-- A table: the lives of its places, which are taken, the free ones in their order, how many lives there may be. -/
structure Tab where
  lives : List Int
  taken : List Bool
  free : List Nat
  most : Int

/-- The links from a first place on lead through a list of places to none. -/
def Chain (nx : Nat → Int) : Int → List Nat → Prop
  | fst, [] => fst = -1
  | fst, i :: r => fst = (i : Int) ∧ Chain nx (nx i) r

structure Valid (n : Nat) (T : Tab) : Prop where
  ll : T.lives.length = n
  lt : T.taken.length = n
  nodup : T.free.Nodup
  free : ∀ i ∈ T.free, i < n ∧ T.taken.getD i false = false ∧ T.lives.getD i 0 < T.most
  lives : ∀ i, i < n → 0 ≤ T.lives.getD i 0 ∧ T.lives.getD i 0 ≤ T.most
  most : 1 ≤ T.most ∧ T.most ≤ 4294967296
  n : n ≤ 1024

/-- The cells of the places in block q. -/
def PlacesAt (W : World) (q n : Nat) (T : Tab) (nx : Nat → Int) : Prop :=
  ∃ cur, W.heap[q]? = some (.cells cur 77 (0, 0)) ∧ cur.size = n * 3 ∧
    ∀ i, i < n → cur[i * 3]? = some (.int .i64 (T.lives.getD i 0)) ∧ cur[i * 3 + 1]? = some (.bool (T.taken.getD i false)) ∧ cur[i * 3 + 2]? = some (.int .i64 (nx i))

/-- Block p is the table T, its places lie in block q. -/
def TableAt (W : World) (p q n : Nat) (T : Tab) : Prop :=
  p ≠ q ∧ Valid n T ∧ ∃ fst nx, W.heap[p]? = some (.cells #[.slice (some ⟨q, 0, none⟩) n n, .int .i64 T.most, .int .i64 fst] 74 (0, 0)) ∧ PlacesAt W q n T nx ∧ Chain nx fst T.free

theorem TableAt.lt {W : World} {p q n : Nat} {T : Tab} (h : TableAt W p q n T) : p < W.heap.size ∧ q < W.heap.size := by
  obtain ⟨_, _, fst, nx, hp, ⟨cur, hq, _⟩, _⟩ := h
  exact ⟨(Array.getElem?_eq_some_iff.1 hp).1, (Array.getElem?_eq_some_iff.1 hq).1⟩
theorem TableAt.mod {S : Nat → Prop} {W W' : World} {p q n : Nat} {T : Tab} (h : TableAt W p q n T) (hm : Mod S W W') (hp : ¬ S p) (hq : ¬ S q) : TableAt W' p q n T := by
  obtain ⟨h1, h2, fst, nx, h3, ⟨cur, h4, h5⟩, h6⟩ := h
  exact ⟨h1, h2, fst, nx, hm.heap h3 hp, ⟨cur, hm.heap h4 hq, h5⟩, h6⟩
theorem TableAt.below {W W' : World} {p q n : Nat} {T : Tab} (h : TableAt W p q n T) (hb : Below W.heap.size W W') : TableAt W' p q n T := h.mod (Mod.of_same (S := fun _ => False) hb) (by simp) (by simp)

/-- What a walk reads of a table. -/
theorem TableAt.reads {W : World} {p q n : Nat} {T : Tab} (h : TableAt W p q n T) :
    ∃ fst nx, W.cell? ⟨p, 0, none⟩ = some (.slice (some ⟨q, 0, none⟩) n n) ∧ W.cell? ⟨p, 1, none⟩ = some (.int .i64 T.most) ∧ W.cell? ⟨p, 2, none⟩ = some (.int .i64 fst) ∧ Chain nx fst T.free ∧
      (∀ i, i < n → W.cell? ⟨q, i * 3, none⟩ = some (.int .i64 (T.lives.getD i 0)) ∧ W.cell? ⟨q, i * 3 + 1, none⟩ = some (.bool (T.taken.getD i false)) ∧ W.cell? ⟨q, i * 3 + 2, none⟩ = some (.int .i64 (nx i))) ∧
      (∀ i, W.frozen? ⟨p, i, none⟩ = false) ∧ (∀ i, W.frozen? ⟨q, i, none⟩ = false) := by
  obtain ⟨h1, h2, fst, nx, h3, ⟨cur, h4, h5, h7⟩, h6⟩ := h
  refine ⟨fst, nx, by simp [World.cell?, h3], by simp [World.cell?, h3], by simp [World.cell?, h3], h6, fun i hi => ?_, fun i => by simp [World.frozen?, h3], fun i => by simp [World.frozen?, h4]⟩
  obtain ⟨a, b, c⟩ := h7 i hi
  exact ⟨by simp [World.cell?, h4, a], by simp [World.cell?, h4, b], by simp [World.cell?, h4, c]⟩

/-! ### the plain functions -/
abbrev R := Int × Int
def lookT (n : Nat) (T : Tab) (x : Int) : Int × Bool := if 0 ≤ x ∧ x < n then (T.lives.getD x.toNat 0, T.taken.getD x.toNat false) else (0, false)
def liveT (n : Nat) (T : Tab) (r : R) : Bool := (lookT n T r.1).2 && ((lookT n T r.1).1 == r.2)
def nextT (T : Tab) : R × Bool := match T.free with | [] => ((0, 0), false) | i :: _ => (((i : Int), T.lives.getD i 0 + 1), true)
def takeT (T : Tab) : Tab × R × Int := match T.free with
  | [] => (T, (0, 0), 4)
  | i :: r => ({ T with lives := T.lives.set i (T.lives.getD i 0 + 1), taken := T.taken.set i true, free := r }, ((i : Int), T.lives.getD i 0 + 1), 0)
def giveT (n : Nat) (T : Tab) (r : R) : Tab × Int :=
  if liveT n T r = true then
    ({ T with taken := T.taken.set r.1.toNat false, free := if T.lives.getD r.1.toNat 0 < T.most then r.1.toNat :: T.free else T.free }, 0)
  else (T, 90)
def refsT (n : Nat) (T : Tab) : List R := (List.range n).filterMap fun i => if T.taken.getD i false then some ((i : Int), T.lives.getD i 0) else none
def clearT (n : Nat) (T : Tab) : Tab := (refsT n T).foldl (fun T r => (giveT n T r).1) T
def newT (n : Nat) (k : Int) : Tab := { lives := List.replicate n 0, taken := List.replicate n false, free := List.range n, most := k }

/-! ### none, Look, Live -/
theorem none_no (p q n : Nat) (T : Tab) (w : World) (h : TableAt w p q n T) :
    Calls Try.prog 33 #[.pointer (some ⟨p, 0, none⟩)] w fun e w' => e = .returned (.bool false) ∧ w = w' := by
  obtain ⟨fst, nx, c0, c1, c2, -, -, -, -⟩ := h.reads
  have hm := h.2.1.most.1
  have hb : (T.most == 0) = false := by simp; omega
  clear h
  go_enter Try.func33, Try.ntmps33
  go_wp2
  go_ret
  exact ⟨rfl, rfl⟩

theorem Look_any (p q n : Nat) (T : Tab) (x : Int) (w : World) (h : TableAt w p q n T) :
    Calls Try.prog 27 #[.pointer (some ⟨p, 0, none⟩), .int .i64 x] w fun e w' => e = .returned (.tuple #[.int .i64 (lookT n T x).1, .bool (lookT n T x).2]) ∧ ∃ m, w' = w.drewN m := by
  obtain ⟨fst, nx, c0, c1, c2, -, hc, -, -⟩ := h.reads
  have hn := h.2.1.n
  by_cases h0 : 0 ≤ x
  · by_cases h1 : x < n
    · obtain ⟨k, rfl⟩ := Int.eq_ofNat_of_zero_le h0
      obtain ⟨q0, q1, q2⟩ := hc k (by omega)
      have HL : Hid (lookT n T k = (T.lives.getD k 0, T.taken.getD k false)) := by rw [Hid, lookT, if_pos ⟨h0, h1⟩]; simp
      generalize T.lives.getD k 0 = a at *
      generalize T.taken.getD k false = b at *
      clear hc
      go_enter Try.func27, Try.ntmps27
      go_wp2_with (go_at_call 33; refine (none_no p q n T _ h).mono ?_; rintro e w' ⟨rfl, rfl⟩)
      go_quiet (fail)
      go_wp2
      go_ret2
      exact ⟨by rw [HL.out]; rfl, _, rfl⟩
    · have HL : Hid (lookT n T x = (0, false)) := by rw [Hid, lookT, if_neg (by omega)]
      clear hc
      go_enter Try.func27, Try.ntmps27
      go_wp2_with (go_at_call 33; refine (none_no p q n T _ h).mono ?_; rintro e w' ⟨rfl, rfl⟩)
      go_ret2
      exact ⟨by rw [HL.out]; rfl, 0, rfl⟩
  · have HL : Hid (lookT n T x = (0, false)) := by rw [Hid, lookT, if_neg (by omega)]
    clear hc
    go_enter Try.func27, Try.ntmps27
    go_wp2_with (go_at_call 33; refine (none_no p q n T _ h).mono ?_; rintro e w' ⟨rfl, rfl⟩)
    go_ret2
    exact ⟨by rw [HL.out]; rfl, 0, rfl⟩

theorem below_drewN {B : Nat} {a w : World} (h : Below B a w) (n : Nat) : Below B a (w.drewN n) := ⟨h.os, h.tape, h.output, h.size, h.block⟩
theorem below_of_drew {B : Nat} {a w : World} (h : Below B a.drew w) : Below B a w := ⟨h.os, h.tape, h.output, h.size, h.block⟩

theorem Live_any (p q n : Nat) (T : Tab) (a b : Int) (w : World) (h : TableAt w p q n T) :
    Calls Try.prog 19 #[.pointer (some ⟨p, 0, none⟩), .agg #[.int .i64 a, .int .i64 b]] w fun e w' => e = .returned (.bool (liveT n T (a, b))) ∧ Below w.heap.size w w' := by
  have h1 : TableAt (w.alloc (.cells #[.int .i64 a, .int .i64 b] 26)) p q n T := h.below ((Below.refl _ _).alloc (Nat.le_refl _) _)
  have HL : Hid (liveT n T (a, b) = ((lookT n T a).2 && ((lookT n T a).1 == b))) := rfl
  have hB := (Below.refl w.heap.size w).alloc (Nat.le_refl _) (.cells #[.int .i64 a, .int .i64 b] 26)
  cases hl : lookT n T a with
  | mk x y =>
    have Hl := Lib.hid hl
    clear hl
    cases y
    · go_enter Try.func19, Try.ntmps19
      go_wp2_with fail
      refine (Look_any p q n T a _ h1).mono ?_; rintro e w' ⟨rfl, m, rfl⟩; rw [Hl.out]
      go_wp2_with fail
      go_ret
      exact ⟨by rw [HL.out, Hl.out]; rfl, below_drewN hB m⟩
    · by_cases hx : x = b
      · have hq : (x == b) = true := by simpa using hx
        subst hx
        go_enter Try.func19, Try.ntmps19
        go_wp2_with fail
        refine (Look_any p q n T a _ h1).mono ?_; rintro e w' ⟨rfl, m, rfl⟩; rw [Hl.out]
        go_wp2_with fail
        go_ret
        exact ⟨by rw [HL.out, Hl.out]; simp, below_drewN hB m⟩
      · have hq : (b == x) = false := by simp; omega
        have hq' : (x == b) = false := by simpa using hx
        go_enter Try.func19, Try.ntmps19
        go_wp2_with fail
        refine (Look_any p q n T a _ h1).mono ?_; rintro e w' ⟨rfl, m, rfl⟩; rw [Hl.out]
        go_wp2_with fail
        go_ret
        exact ⟨by rw [HL.out, Hl.out]; simp [hq'], below_drewN hB m⟩

/-! ### what a store does -/
theorem places_set {W : World} {q n : Nat} {T : Tab} {nx : Nat → Int} (h : PlacesAt W q n T nx) (i : Nat) (hi : i < n) (v : Int) :
    PlacesAt (W.setCell ⟨q, i * 3 + 2, none⟩ (.int .i64 v)) q n T (fun j => if j = i then v else nx j) := by
  obtain ⟨cur, hq, hs, hc⟩ := h
  refine ⟨cur.setIfInBounds (i * 3 + 2) (.int .i64 v), ?_, by simpa using hs, fun j hj => ?_⟩
  · obtain ⟨hlt, hk⟩ := Array.getElem?_eq_some_iff.1 hq
    show (W.heap.modify q _)[q]? = _
    rw [Array.getElem?_eq_getElem (by rw [Array.size_modify]; exact hlt), Array.getElem_modify_self, hk]
    rfl
  · obtain ⟨a, b, c⟩ := hc j hj
    refine ⟨?_, ?_, ?_⟩
    · rw [Array.getElem?_setIfInBounds_ne (by omega)]; exact a
    · rw [Array.getElem?_setIfInBounds_ne (by omega)]; exact b
    · by_cases hij : j = i
      · subst hij
        simp only [if_true]
        rw [Array.getElem?_setIfInBounds_self_of_lt (by omega)]
      · simp only [if_neg hij]
        rw [Array.getElem?_setIfInBounds_ne (by omega)]; exact c
theorem getD_set {α : Type} (l : List α) (i j : Nat) (v d : α) (hi : i < l.length) : (l.set i v).getD j d = if j = i then v else l.getD j d := by
  rw [List.getD_eq_getElem?_getD, List.getD_eq_getElem?_getD, List.getElem?_set]
  by_cases h : j = i
  · subst h; simp [hi]
  · rw [if_neg (fun e => h e.symm), if_neg h]
theorem places_life {W : World} {q n : Nat} {T : Tab} {nx : Nat → Int} (h : PlacesAt W q n T nx) (i : Nat) (hi : i < n) (hl : T.lives.length = n) (v : Int) :
    PlacesAt (W.setCell ⟨q, i * 3, none⟩ (.int .i64 v)) q n { T with lives := T.lives.set i v } nx := by
  obtain ⟨cur, hq, hs, hc⟩ := h
  refine ⟨cur.setIfInBounds (i * 3) (.int .i64 v), ?_, by simpa using hs, fun j hj => ?_⟩
  · obtain ⟨hlt, hk⟩ := Array.getElem?_eq_some_iff.1 hq
    show (W.heap.modify q _)[q]? = _
    rw [Array.getElem?_eq_getElem (by rw [Array.size_modify]; exact hlt), Array.getElem_modify_self, hk]
    rfl
  · obtain ⟨a, b, c⟩ := hc j hj
    refine ⟨?_, ?_, ?_⟩
    · rw [getD_set _ _ _ _ _ (by omega)]
      by_cases hij : j = i
      · subst hij
        rw [Array.getElem?_setIfInBounds_self_of_lt (by omega), if_pos rfl]
      · rw [Array.getElem?_setIfInBounds_ne (by omega), if_neg hij]; exact a
    · rw [Array.getElem?_setIfInBounds_ne (by omega)]; exact b
    · rw [Array.getElem?_setIfInBounds_ne (by omega)]; exact c
theorem places_taken {W : World} {q n : Nat} {T : Tab} {nx : Nat → Int} (h : PlacesAt W q n T nx) (i : Nat) (hi : i < n) (hl : T.taken.length = n) (v : Bool) :
    PlacesAt (W.setCell ⟨q, i * 3 + 1, none⟩ (.bool v)) q n { T with taken := T.taken.set i v } nx := by
  obtain ⟨cur, hq, hs, hc⟩ := h
  refine ⟨cur.setIfInBounds (i * 3 + 1) (.bool v), ?_, by simpa using hs, fun j hj => ?_⟩
  · obtain ⟨hlt, hk⟩ := Array.getElem?_eq_some_iff.1 hq
    show (W.heap.modify q _)[q]? = _
    rw [Array.getElem?_eq_getElem (by rw [Array.size_modify]; exact hlt), Array.getElem_modify_self, hk]
    rfl
  · obtain ⟨a, b, c⟩ := hc j hj
    refine ⟨?_, ?_, ?_⟩
    · rw [Array.getElem?_setIfInBounds_ne (by omega)]; exact a
    · rw [getD_set _ _ _ _ _ (by omega)]
      by_cases hij : j = i
      · subst hij
        rw [Array.getElem?_setIfInBounds_self_of_lt (by omega), if_pos rfl]
      · rw [Array.getElem?_setIfInBounds_ne (by omega), if_neg hij]; exact b
    · rw [Array.getElem?_setIfInBounds_ne (by omega)]; exact c
theorem head_set {W : World} {p : Nat} {a b c v : Value} {T : TypeId} (h : W.heap[p]? = some (.cells #[a, b, c] T (0, 0))) : (W.setCell ⟨p, 2, none⟩ v).heap[p]? = some (.cells #[a, b, v] T (0, 0)) := by
  obtain ⟨hlt, hk⟩ := Array.getElem?_eq_some_iff.1 h
  show (W.heap.modify p _)[p]? = _
  rw [Array.getElem?_eq_getElem (by rw [Array.size_modify]; exact hlt), Array.getElem_modify_self, hk]
  rfl
theorem places_other {W : World} {q n : Nat} {T : Tab} {nx : Nat → Int} (h : PlacesAt W q n T nx) {a : Addr} (ha : a.block ≠ q) (v : Value) : PlacesAt (W.setCell a v) q n T nx := by
  obtain ⟨cur, hq, h⟩ := h
  exact ⟨cur, by rw [Below.heap_setCell _ _ _ _ (fun e => ha e.symm)]; exact hq, h⟩
theorem heap_set_other {W : World} {p : Nat} {o : Obj} (h : W.heap[p]? = some o) {a : Addr} (ha : a.block ≠ p) (v : Value) : (W.setCell a v).heap[p]? = some o := by
  rw [Below.heap_setCell _ _ _ _ (fun e => ha e.symm)]; exact h

theorem Chain.congr {nx nx' : Nat → Int} : ∀ {l : List Nat} {fst : Int}, (∀ i ∈ l, nx i = nx' i) → Chain nx fst l → Chain nx' fst l
  | [], _, _, h => h
  | i :: r, fst, he, ⟨h1, h2⟩ => ⟨h1, by rw [← he i List.mem_cons_self]; exact Chain.congr (fun j hj => he j (List.mem_cons_of_mem _ hj)) h2⟩

end Slot
end Go.Proofs.Ytpcbmckknafdgaa
