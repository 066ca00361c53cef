/- The reference of layer 9: Live, Look, Refs. -/
import Derived.Test.YtpcbmckknafdgaaSlotT
namespace Go.Proofs.Ytpcbmckknafdgaa
open Go.RowKit Go.Shelf
set_option linter.unusedVariables false
set_option linter.unusedSimpArgs false
set_option maxRecDepth 100000
namespace Slot

/-- The slice value v, whose row lies at or behind base, reads as n values. -/
def RowIs (base : Nat → Prop) (w : World) (v : Value) (n : Nat) (f : Nat → Value) : Prop :=
  (v = .slice none 0 0 ∧ n = 0) ∨ ∃ b o c, v = .slice (some ⟨b, o, none⟩) n c ∧ base b ∧ n ≤ c ∧ c ≤ maxLen ∧ CellsAt w b o n f
namespace RowIs
variable {base : Nat → Prop} {w w' : World} {v : Value} {n : Nat} {f : Nat → Value}
theorem form (h : RowIs base w v n f) : ∃ a c, v = .slice a n c := by
  rcases h with ⟨h, rfl⟩ | ⟨b, o, c, h, _⟩
  · exact ⟨_, _, h⟩
  · exact ⟨_, _, h⟩
theorem some (h : RowIs base w v n f) (hn : 0 < n) : ∃ b o c, v = .slice (.some ⟨b, o, none⟩) n c ∧ base b ∧ n ≤ c ∧ c ≤ maxLen ∧ CellsAt w b o n f := by
  rcases h with ⟨h, rfl⟩ | h
  · omega
  · exact h
theorem mod {S : Nat → Prop} (h : RowIs base w v n f) (hm : Mod S w w') (hS : ∀ g, base g → ¬ S g) : RowIs base w' v n f := by
  rcases h with h | ⟨b, o, c, h1, h2, h3, h4, h5, h6⟩
  · exact .inl h
  · exact .inr ⟨b, o, c, h1, h2, h3, h4, Nat.lt_of_lt_of_le h5 hm.size, fun i hi => hm.cell (hS b h2) (h6 i hi)⟩
theorem below (h : RowIs base w v n f) (hm : Below w.heap.size w w') : RowIs base w' v n f := h.mod (S := fun _ => False) (Mod.of_same hm) (by simp)
theorem imp {base' : Nat → Prop} (h : RowIs base w v n f) (hi : ∀ g, base g → g < w.heap.size → base' g) : RowIs base' w v n f := by
  rcases h with h | ⟨b, o, c, h1, h2, h3, h4, h5⟩
  · exact .inl h
  · exact .inr ⟨b, o, c, h1, hi b h2 h5.1, h3, h4, h5⟩
theorem congr {g : Nat → Value} (h : RowIs base w v n f) (he : ∀ i, i < n → f i = g i) : RowIs base w v n g := by
  rcases h with h | ⟨b, o, c, h1, h2, h3, h4, h5, h6⟩
  · exact .inl h
  · exact .inr ⟨b, o, c, h1, h2, h3, h4, h5, fun i hi => by rw [← he i hi]; exact h6 i hi⟩
theorem of_owns {z : Nat} {e : TypeId} {xs : List Value} (h : w.ownsRow z e 1 v n xs) (hz : ∀ g, z ≤ g → base g) (hx : ∀ i, i < n → xs[i]? = .some (f i)) : RowIs base w v n f := by
  rcases h.2 with h1 | ⟨g, c, cur, h1, h2, h3, h4, h5, h6, h7⟩
  · exact .inl h1
  · subst h1
    refine .inr ⟨g, 0, c, rfl, hz g h2, h4, h5, (Array.getElem?_eq_some_iff.1 h3).1, fun i hi => ?_⟩
    have := h.cells (g := g) rfl i (f i) (hx i hi)
    rcases i with _ | i
    · simpa [Addr.add] using this
    · simpa [Addr.add] using this
end RowIs

def lifeV (T : Tab) : Nat → Value := fun i => .int .i64 (T.lives.getD i 0)
def freeV (T : Tab) : Nat → Value := fun i => .int .i64 ((T.free.getD i 0 : Nat) : Int)
def takenV (T : Tab) : Nat → Value := fun i => .bool (T.taken.getD i false)
/-- The value of a state of the reference: the table T. -/
structure StateAt (base : Nat → Prop) (w : World) (vl vf vt : Value) (n : Nat) (T : Tab) : Prop where
  lives : RowIs base w vl n (lifeV T)
  free : RowIs base w vf T.free.length (freeV T)
  taken : RowIs base w vt n (takenV T)
theorem StateAt.mod {S : Nat → Prop} {base : Nat → Prop} {w w' : World} {vl vf vt : Value} {n : Nat} {T : Tab} (h : StateAt base w vl vf vt n T) (hm : Mod S w w') (hS : ∀ g, base g → ¬ S g) : StateAt base w' vl vf vt n T :=
  ⟨h.lives.mod hm hS, h.free.mod hm hS, h.taken.mod hm hS⟩
theorem StateAt.below {base : Nat → Prop} {w w' : World} {vl vf vt : Value} {n : Nat} {T : Tab} (h : StateAt base w vl vf vt n T) (hm : Below w.heap.size w w') : StateAt base w' vl vf vt n T :=
  ⟨h.lives.below hm, h.free.below hm, h.taken.below hm⟩

theorem StateAt.imp {base base' : Nat → Prop} {w : World} {vl vf vt : Value} {n : Nat} {T : Tab} (h : StateAt base w vl vf vt n T) (hi : ∀ g, base g → g < w.heap.size → base' g) : StateAt base' w vl vf vt n T := ⟨h.lives.imp hi, h.free.imp hi, h.taken.imp hi⟩

theorem LookR_any (base : Nat → Prop) (n : Nat) (T : Tab) (vl vf vt : Value) (x : Int) (w : World) (h : StateAt base w vl vf vt n T) (hv : Valid n T) :
    Calls Try.prog 43 #[.agg #[vl, .int .i64 T.most, vf, vt], .int .i64 x] w fun e w' => e = .returned (.tuple #[.int .i64 (lookT n T x).1, .bool (lookT n T x).2]) ∧ Below w.heap.size w w' := by
  have hn := hv.n
  have hB : Below w.heap.size w (w.alloc (.cells #[vl, .int .i64 T.most, vf, vt] 67)) := (Below.refl _ w).alloc (Nat.le_refl _) _
  have hb : BoxS (w.alloc (.cells #[vl, .int .i64 T.most, vf, vt] 67)) w.heap.size vl T.most vf vt := World.alloc_heap_new w _
  have h1 := h.below hB
  obtain ⟨al, cl, e⟩ := h.lives.form
  obtain ⟨af, cf, e'⟩ := h.free.form
  obtain ⟨at_, ct, e''⟩ := h.taken.form
  have HB := Lib.hid hB
  by_cases hr : 0 ≤ x ∧ x < n
  · obtain ⟨h0, hlt⟩ := hr
    obtain ⟨i, rfl⟩ := Int.eq_ofNat_of_zero_le h0
    obtain ⟨bl, ol, cl', f1, -, -, -, hcl⟩ := h1.lives.some (by omega)
    obtain ⟨bt, ot, ct', f2, -, -, -, hct⟩ := h1.taken.some (by omega)
    have q0 := hcl.2 i (by omega)
    have q1 := hct.2 i (by omega)
    simp only [lifeV, takenV] at q0 q1
    have HL : Hid (lookT n T i = (T.lives.getD i 0, T.taken.getD i false)) := by rw [Hid, lookT, if_pos ⟨h0, hlt⟩]; simp
    generalize T.lives.getD i 0 = a at *
    generalize T.taken.getD i false = b at *
    have e0 := hb.c0
    have e3 := hb.c3
    subst f1 f2 e'
    clear hcl hct h h1 hv hB e e'' hb
    go_enter Try.func43, Try.ntmps43
    go_wp2_with fail
    generalize w.alloc (.cells #[.slice (some ⟨bl, ol, none⟩) n cl', .int .i64 T.most, .slice af T.free.length cf, .slice (some ⟨bt, ot, none⟩) n ct'] 67) = W at *
    go_quiet (fail)
    go_wp2
    go_ret2
    rw [HL.out]
    exact ⟨rfl, below_drewN HB.out _⟩
  · have HL : Hid (lookT n T x = (0, false)) := by rw [Hid, lookT, if_neg hr]
    subst e e' e''
    clear h h1 hv hB hb
    by_cases h0 : 0 ≤ x
    · have h2 : ¬ x < n := fun h => hr ⟨h0, h⟩
      clear hr
      go_enter Try.func43, Try.ntmps43
      go_wp2_with fail
      go_ret2
      rw [HL.out]
      exact ⟨rfl, HB.out⟩
    · clear hr
      go_enter Try.func43, Try.ntmps43
      go_wp2_with fail
      go_ret2
      rw [HL.out]
      exact ⟨rfl, HB.out⟩

theorem LiveR_any (base : Nat → Prop) (n : Nat) (T : Tab) (vl vf vt : Value) (a b : Int) (w : World) (h : StateAt base w vl vf vt n T) (hv : Valid n T) :
    Calls Try.prog 41 #[.agg #[vl, .int .i64 T.most, vf, vt], .agg #[.int .i64 a, .int .i64 b]] w fun e w' => e = .returned (.bool (liveT n T (a, b))) ∧ Below w.heap.size w w' := by
  have hn := hv.n
  have hB : Below w.heap.size w ((w.alloc (.cells #[vl, .int .i64 T.most, vf, vt] 67)).alloc (.cells #[.int .i64 a, .int .i64 b] 88)) := ((Below.refl _ w).alloc (Nat.le_refl _) _).alloc (by simp) _
  have hb : BoxS ((w.alloc (.cells #[vl, .int .i64 T.most, vf, vt] 67)).alloc (.cells #[.int .i64 a, .int .i64 b] 88)) w.heap.size vl T.most vf vt := (Below.heap_alloc _ _ _ (by simp)).trans (World.alloc_heap_new w _)
  have hr0 : ((w.alloc (.cells #[vl, .int .i64 T.most, vf, vt] 67)).alloc (.cells #[.int .i64 a, .int .i64 b] 88)).heap[w.heap.size + 1]? = some (.cells #[.int .i64 a, .int .i64 b] 88 (0, 0)) := by
    have := World.alloc_heap_new (w.alloc (.cells #[vl, .int .i64 T.most, vf, vt] 67)) (.cells #[.int .i64 a, .int .i64 b] 88)
    simpa using this
  have z0 : ((w.alloc (.cells #[vl, .int .i64 T.most, vf, vt] 67)).alloc (.cells #[.int .i64 a, .int .i64 b] 88)).cell? ⟨w.heap.size + 1, 0, none⟩ = some (.int .i64 a) := by simp only [World.cell?, hr0]; rfl
  have z1 : ((w.alloc (.cells #[vl, .int .i64 T.most, vf, vt] 67)).alloc (.cells #[.int .i64 a, .int .i64 b] 88)).cell? ⟨w.heap.size + 1, 1, none⟩ = some (.int .i64 b) := by simp only [World.cell?, hr0]; rfl
  have h1 := h.below hB
  obtain ⟨al, cl, e⟩ := h.lives.form
  obtain ⟨af, cf, e'⟩ := h.free.form
  obtain ⟨at_, ct, e''⟩ := h.taken.form
  have HB := Lib.hid hB
  have e0 := hb.c0
  have e3 := hb.c3
  clear hr0
  by_cases hr : 0 ≤ a ∧ a < n
  · obtain ⟨h0, hlt⟩ := hr
    obtain ⟨i, rfl⟩ := Int.eq_ofNat_of_zero_le h0
    obtain ⟨bl, ol, cl', f1, -, -, -, hcl⟩ := h1.lives.some (by omega)
    obtain ⟨bt, ot, ct', f2, -, -, -, hct⟩ := h1.taken.some (by omega)
    have q0 := hcl.2 i (by omega)
    have q1 := hct.2 i (by omega)
    simp only [lifeV, takenV] at q0 q1
    have HL : Hid (liveT n T ((i : Int), b) = (T.taken.getD i false && (T.lives.getD i 0 == b))) := by rw [Hid, liveT, lookT, if_pos ⟨h0, hlt⟩]; simp
    generalize T.lives.getD i 0 = lf at *
    generalize T.taken.getD i false = tk at *
    subst f1 f2 e'
    clear hcl hct h h1 hv hB e e'' hb
    cases tk
    · go_enter Try.func41, Try.ntmps41
      go_wp2_with fail
      generalize (w.alloc (.cells #[.slice (some ⟨bl, ol, none⟩) n cl', .int .i64 T.most, .slice af T.free.length cf, .slice (some ⟨bt, ot, none⟩) n ct'] 67)).alloc (.cells #[.int .i64 (i : Int), .int .i64 b] 88) = W at *
      go_quiet (fail)
      go_wp2
      go_ret
      rw [HL.out]
      exact ⟨by simp, below_drewN HB.out _⟩
    · by_cases hlb : lf = b
      · subst hlb
        go_enter Try.func41, Try.ntmps41
        go_wp2_with fail
        generalize (w.alloc (.cells #[.slice (some ⟨bl, ol, none⟩) n cl', .int .i64 T.most, .slice af T.free.length cf, .slice (some ⟨bt, ot, none⟩) n ct'] 67)).alloc (.cells #[.int .i64 (i : Int), .int .i64 lf] 88) = W at *
        go_quiet (fail)
        go_wp2
        go_ret
        rw [HL.out]
        exact ⟨by simp, below_drewN HB.out _⟩
      · have hd : decide (lf = b) = false := by simpa using hlb
        go_enter Try.func41, Try.ntmps41
        go_wp2_with fail
        generalize (w.alloc (.cells #[.slice (some ⟨bl, ol, none⟩) n cl', .int .i64 T.most, .slice af T.free.length cf, .slice (some ⟨bt, ot, none⟩) n ct'] 67)).alloc (.cells #[.int .i64 (i : Int), .int .i64 b] 88) = W at *
        go_quiet (fail)
        go_wp2
        go_ret
        rw [HL.out]
        exact ⟨by simp [hlb], below_drewN HB.out _⟩
  · have HL : Hid (liveT n T (a, b) = false) := by rw [Hid, liveT, lookT, if_neg hr]; rfl
    subst e e' e''
    clear h h1 hv hB hb
    by_cases h0 : 0 ≤ a
    · have h2 : ¬ a < n := fun h => hr ⟨h0, h⟩
      have hd : decide (a < (n : Int)) = false := by simpa using h2
      clear hr
      go_enter Try.func41, Try.ntmps41
      go_wp2_with fail
      generalize (w.alloc (.cells #[.slice al n cl, .int .i64 T.most, .slice af T.free.length cf, .slice at_ n ct] 67)).alloc (.cells #[.int .i64 a, .int .i64 b] 88) = W at *
      go_quiet (fail)
      go_wp2
      go_ret
      rw [HL.out]
      exact ⟨rfl, below_drewN HB.out _⟩
    · have hd : decide (0 ≤ a) = false := by simpa using h0
      clear hr
      go_enter Try.func41, Try.ntmps41
      go_wp2_with fail
      generalize (w.alloc (.cells #[.slice al n cl, .int .i64 T.most, .slice af T.free.length cf, .slice at_ n ct] 67)).alloc (.cells #[.int .i64 a, .int .i64 b] 88) = W at *
      go_quiet (fail)
      go_wp2
      go_ret
      rw [HL.out]
      exact ⟨rfl, below_drewN HB.out _⟩
end Slot
end Go.Proofs.Ytpcbmckknafdgaa
