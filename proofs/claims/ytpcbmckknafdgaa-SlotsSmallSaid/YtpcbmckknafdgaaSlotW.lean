/- The reference of layer 9: Take. -/
import Derived.Test.YtpcbmckknafdgaaSlotV
namespace Go.Proofs.Ytpcbmckknafdgaa
open Go.RowKit Go.Shelf
set_option linter.unusedVariables false
set_option linter.unusedSimpArgs false
set_option maxRecDepth 100000
namespace Slot

/-- A reference of the reference, in memory. -/
def RefAtR (W : World) (B : Nat) (a b : Int) : Prop := W.heap[B]? = some (.cells #[.int .i64 a, .int .i64 b] 88 (0, 0))
namespace RefAtR
variable {W W' : World} {B : Nat} {a b : Int}
theorem c0 (h : RefAtR W B a b) : W.cell? ⟨B, 0, none⟩ = some (.int .i64 a) := by simp [World.cell?, show W.heap[B]? = _ from h]
theorem c1 (h : RefAtR W B a b) : W.cell? ⟨B, 1, none⟩ = some (.int .i64 b) := by simp [World.cell?, show W.heap[B]? = _ from h]
theorem frozen (h : RefAtR W B a b) (i : Nat) : W.frozen? ⟨B, i, none⟩ = false := by simp [World.frozen?, show W.heap[B]? = _ from h]
theorem lt (h : RefAtR W B a b) : B < W.heap.size := (Array.getElem?_eq_some_iff.1 h).1
theorem mod {S : Nat → Prop} (h : RefAtR W B a b) (hm : Mod S W W') (hS : ¬ S B) : RefAtR W' B a b := hm.heap h hS
theorem set (h : RefAtR W B a b) (c d : Int) : RefAtR ((W.setCell ⟨B, 0, none⟩ (.int .i64 c)).setCell ⟨B, 1, none⟩ (.int .i64 d)) B c d := by
  obtain ⟨hlt, hk⟩ := Array.getElem?_eq_some_iff.1 h
  have h1 : (W.setCell ⟨B, 0, none⟩ (.int .i64 c)).heap[B]? = some (.cells #[.int .i64 c, .int .i64 b] 88 (0, 0)) := by
    show (W.heap.modify B _)[B]? = _
    rw [Array.getElem?_eq_getElem (by rw [Array.size_modify]; exact hlt), Array.getElem_modify_self, hk]; rfl
  obtain ⟨hlt', hk'⟩ := Array.getElem?_eq_some_iff.1 h1
  show ((W.setCell ⟨B, 0, none⟩ (.int .i64 c)).heap.modify B _)[B]? = _
  rw [Array.getElem?_eq_getElem (by rw [Array.size_modify]; exact hlt'), Array.getElem_modify_self, hk']; rfl
theorem drew (h : RefAtR W B a b) : RefAtR W.drew B a b := h
end RefAtR
theorem BoxS.drew {w : World} {B : Nat} {vl vf vt : Value} {k : Int} (h : BoxS w B vl k vf vt) : BoxS w.drew B vl k vf vt := h
theorem owns_set {w : World} {base : Nat} {e : TypeId} {g n c : Nat} {xs : List Value} (h : w.ownsRow base e 1 (.slice (some ⟨g, 0, none⟩) n c) n xs) (i : Nat) (u : Value) : (w.setCell ⟨g, i, none⟩ u).ownsRow base e 1 (.slice (some ⟨g, 0, none⟩) n c) n (xs.set i u) := by
  refine ⟨by simpa using h.1, ?_⟩
  rcases h.2 with ⟨h1, _⟩ | ⟨g', c', cur, h1, h2, h3, h4, h5, h6, h7⟩
  · cases h1
  · injection h1 with e1 e2 e3
    injection e1 with e1
    injection e1 with e1
    subst e1 e3
    obtain ⟨hlt, hk⟩ := Array.getElem?_eq_some_iff.1 h3
    refine .inr ⟨g, c, cur.setIfInBounds i u, rfl, h2, ?_, h4, h5, by simpa using h6, ?_⟩
    · show (w.heap.modify g _)[g]? = _
      rw [Array.getElem?_eq_getElem (by rw [Array.size_modify]; exact hlt), Array.getElem_modify_self, hk]; rfl
    · rw [Array.toList_setIfInBounds, List.take_set, h7]
theorem owns_frozen {w : World} {base : Nat} {e : TypeId} {g n c : Nat} {xs : List Value} (h : w.ownsRow base e 1 (.slice (some ⟨g, 0, none⟩) n c) n xs) (i : Nat) : w.frozen? ⟨g, i, none⟩ = false := by
  rcases h.2 with ⟨h1, _⟩ | ⟨g', c', cur, h1, h2, h3, _⟩
  · cases h1
  · injection h1 with e1 e2 e3
    injection e1 with e1
    injection e1 with e1
    subst e1
    simp [World.frozen?, h3]
theorem owns_at {w : World} {base : Nat} {e : TypeId} {g n c : Nat} {xs : List Value} (h : w.ownsRow base e 1 (.slice (some ⟨g, 0, none⟩) n c) n xs) {i : Nat} {u : Value} (hu : xs[i]? = some u) : w.cell? ⟨g, i, none⟩ = some u := by
  have := h.cells (g := g) rfl i u hu
  rcases i with _ | i
  · simpa [Addr.add] using this
  · simpa [Addr.add] using this
theorem owns_le {w : World} {base : Nat} {e : TypeId} {g n c : Nat} {xs : List Value} (h : w.ownsRow base e 1 (.slice (some ⟨g, 0, none⟩) n c) n xs) : base ≤ g ∧ g < w.heap.size ∧ n ≤ c ∧ c ≤ maxLen := by
  rcases h.2 with ⟨h1, _⟩ | ⟨g', c', cur, h1, h2, h3, h4, h5, _⟩
  · cases h1
  · injection h1 with e1 e2 e3
    injection e1 with e1
    injection e1 with e1
    subst e1 e3
    exact ⟨h2, (Array.getElem?_eq_some_iff.1 h3).1, h4, h5⟩

theorem takeR_results {W : World} {R : Nat} {vl vf vt : Value} {k a b e : Int} {tmps : Array Value} (h : BoxS W R vl k vf vt) (h2 : RefAtR W (R + 1) a b) (e1 : tmps[2]? = some (.pointer (some ⟨R, 0, none⟩))) (e2 : tmps[3]? = some (.pointer (some ⟨R + 1, 0, none⟩))) (e3 : tmps[4]? = some (.int .i64 e)) :
    (results Try.f39 tmps).run Try.prog W = .ok (.tuple #[.agg #[vl, .int .i64 k, vf, vt], .agg #[.int .i64 a, .int .i64 b], .int .i64 e]) W := by
  have c0 := h.c0
  have c1 := h.c1
  have c2 := h.c2
  have c3 := h.c3
  have d0 := h2.c0
  have d1 := h2.c1
  simp [results, Try.results39, go_sem, e1, e2, e3, c0, c1, c2, c3, d0, d1]

/-- A state and a reference, put into their results. -/
theorem put_take {x : World} {R : Nat} {u1 u2 u3 vl vf vt : Value} {k0 k c d a b : Int} (h1 : BoxS x R u1 k0 u2 u3) (h2 : RefAtR x (R + 1) c d) :
    BoxS ((((((x.setCell ⟨R, 0, none⟩ vl).setCell ⟨R, 1, none⟩ (.int .i64 k)).setCell ⟨R, 2, none⟩ vf).setCell ⟨R, 3, none⟩ vt).setCell ⟨R + 1, 0, none⟩ (.int .i64 a)).setCell ⟨R + 1, 1, none⟩ (.int .i64 b)) R vl k vf vt ∧ RefAtR ((((((x.setCell ⟨R, 0, none⟩ vl).setCell ⟨R, 1, none⟩ (.int .i64 k)).setCell ⟨R, 2, none⟩ vf).setCell ⟨R, 3, none⟩ vt).setCell ⟨R + 1, 0, none⟩ (.int .i64 a)).setCell ⟨R + 1, 1, none⟩ (.int .i64 b)) (R + 1) a b ∧ Mod (fun k => k = R ∨ k = R + 1) x ((((((x.setCell ⟨R, 0, none⟩ vl).setCell ⟨R, 1, none⟩ (.int .i64 k)).setCell ⟨R, 2, none⟩ vf).setCell ⟨R, 3, none⟩ vt).setCell ⟨R + 1, 0, none⟩ (.int .i64 a)).setCell ⟨R + 1, 1, none⟩ (.int .i64 b)) := by
  have hm := mod4 x R vl (.int .i64 k) vf vt
  have hb := h1.set4 (al := vl) (j := k) (af := vf) (at_ := vt)
  have hr := h2.mod hm (by omega)
  generalize (((x.setCell ⟨R, 0, none⟩ vl).setCell ⟨R, 1, none⟩ (.int .i64 k)).setCell ⟨R, 2, none⟩ vf).setCell ⟨R, 3, none⟩ vt = y at *
  have hm2 : Mod (fun k => k = R + 1) y ((y.setCell ⟨R + 1, 0, none⟩ (.int .i64 a)).setCell ⟨R + 1, 1, none⟩ (.int .i64 b)) :=
    Mod.setCell (S := fun k => k = R + 1) (p := ⟨R + 1, 1, none⟩) (Mod.setCell (S := fun k => k = R + 1) (p := ⟨R + 1, 0, none⟩) (Mod.refl _ y) (.inr rfl) (.int .i64 a)) (.inr rfl) (.int .i64 b)
  exact ⟨hb.mod hm2 (by omega), hr.set a b, (hm.mono fun _ _ e => .inl e).trans (hm2.mono fun _ _ e => .inr e)⟩

set_option maxHeartbeats 4000000 in
theorem TakeR_full (base : Nat → Prop) (n : Nat) (T : Tab) (vl vf vt : Value) (w : World) (h : StateAt base w vl vf vt n T) (hv : Valid n T) (hbase : ∀ g, w.heap.size ≤ g → base g) (hfr : T.free = []) :
    Calls Try.prog 39 #[.agg #[vl, .int .i64 T.most, vf, vt]] w fun e w' => e = .returned (.tuple #[.agg #[vl, .int .i64 T.most, vf, vt], .agg #[.int .i64 0, .int .i64 0], .int .i64 4]) ∧ Below w.heap.size w w' := by
  obtain ⟨al, cl, e⟩ := h.lives.form
  obtain ⟨af, cf, e'⟩ := h.free.form
  obtain ⟨at_, ct, e''⟩ := h.taken.form
  rw [hfr] at e'
  subst e e' e''
  clear h hv
  have hB : Below w.heap.size w (((w.alloc (.cells #[.slice al n cl, .int .i64 T.most, .slice af 0 cf, .slice at_ n ct] 67)).alloc (.cells #[.slice none 0 0, .int .i64 0, .slice none 0 0, .slice none 0 0] 67)).alloc (.cells #[.int .i64 0, .int .i64 0] 88)) := (((Below.refl _ w).alloc (Nat.le_refl _) _).alloc (by simp) _).alloc (by simp; omega) _
  have hb : BoxS (((w.alloc (.cells #[.slice al n cl, .int .i64 T.most, .slice af 0 cf, .slice at_ n ct] 67)).alloc (.cells #[.slice none 0 0, .int .i64 0, .slice none 0 0, .slice none 0 0] 67)).alloc (.cells #[.int .i64 0, .int .i64 0] 88)) w.heap.size (.slice al n cl) T.most (.slice af 0 cf) (.slice at_ n ct) := (Below.heap_alloc _ _ _ (by simp; omega)).trans ((Below.heap_alloc _ _ _ (by simp)).trans (World.alloc_heap_new w _))
  have hr1 : BoxS (((w.alloc (.cells #[.slice al n cl, .int .i64 T.most, .slice af 0 cf, .slice at_ n ct] 67)).alloc (.cells #[.slice none 0 0, .int .i64 0, .slice none 0 0, .slice none 0 0] 67)).alloc (.cells #[.int .i64 0, .int .i64 0] 88)) (w.heap.size + 1) (.slice none 0 0) 0 (.slice none 0 0) (.slice none 0 0) := (Below.heap_alloc _ _ _ (by simp)).trans (by have := World.alloc_heap_new (w.alloc (.cells #[.slice al n cl, .int .i64 T.most, .slice af 0 cf, .slice at_ n ct] 67)) (.cells #[.slice none 0 0, .int .i64 0, .slice none 0 0, .slice none 0 0] 67); simpa using this)
  have hr2 : RefAtR (((w.alloc (.cells #[.slice al n cl, .int .i64 T.most, .slice af 0 cf, .slice at_ n ct] 67)).alloc (.cells #[.slice none 0 0, .int .i64 0, .slice none 0 0, .slice none 0 0] 67)).alloc (.cells #[.int .i64 0, .int .i64 0] 88)) (w.heap.size + 1 + 1) 0 0 := by have := World.alloc_heap_new ((w.alloc (.cells #[.slice al n cl, .int .i64 T.most, .slice af 0 cf, .slice at_ n ct] 67)).alloc (.cells #[.slice none 0 0, .int .i64 0, .slice none 0 0, .slice none 0 0] 67)) (.cells #[.int .i64 0, .int .i64 0] 88); simpa [RefAtR] using this
  go_enter Try.func39, Try.ntmps39
  go_upto_region 1 with (fail)
  generalize (((w.alloc (.cells #[.slice al n cl, .int .i64 T.most, .slice af 0 cf, .slice at_ n ct] 67)).alloc (.cells #[.slice none 0 0, .int .i64 0, .slice none 0 0, .slice none 0 0] 67)).alloc (.cells #[.int .i64 0, .int .i64 0] 88)) = x0 at *
  have q0 := hb.c0
  have q1 := hb.c1
  have q2 := hb.c2
  have q3 := hb.c3
  have f0 := hr1.frozen 0
  have f1 := hr1.frozen 1
  have f2 := hr1.frozen 2
  have f3 := hr1.frozen 3
  have r0 := hr1.c0
  have r1 := hr1.c1
  have r2 := hr1.c2
  have r3 := hr1.c3
  have HX := Lib.hid (hr1.set4 (al := .slice al n cl) (j := T.most) (af := .slice af 0 cf) (at_ := .slice at_ n ct))
  have HM := Lib.hid (mod4 x0 (w.heap.size + 1) (.slice al n cl) (.int .i64 T.most) (.slice af 0 cf) (.slice at_ n ct))
  have hr2' := hr2.mod HM.out (by omega)
  have g0 := hr2'.frozen 0
  have g1 := hr2'.frozen 1
  have s0 := hr2'.c0
  have s1 := hr2'.c1
  have hP := put_take hr1 hr2 (vl := .slice al n cl) (k := T.most) (vf := .slice af 0 cf) (vt := .slice at_ n ct) (a := 0) (b := 0)
  have HPP := Lib.hid hP
  have HBB := Lib.hid hB
  clear hb hr1 hr2 hr2' hP hB
  go_wp2_with fail
  refine bodyPost_ret (v := .tuple #[.agg #[.slice al n cl, .int .i64 T.most, .slice af 0 cf, .slice at_ n ct], .agg #[.int .i64 0, .int .i64 0], .int .i64 4]) (takeR_results HPP.out.1 HPP.out.2.1 rfl rfl rfl) rfl ?_
  exact ⟨rfl, HBB.out.trans (HPP.out.2.2.below HBB.out.size (fun k hk e => by omega))⟩

set_option maxHeartbeats 4000000 in
theorem TakeR_yes (base : Nat → Prop) (n : Nat) (T : Tab) (i : Nat) (rest : List Nat) (vl vf vt : Value) (w : World) (h : StateAt base w vl vf vt n T) (hv : Valid n T) (hbase : ∀ g, w.heap.size ≤ g → base g) (hfr : T.free = i :: rest) :
    Calls Try.prog 39 #[.agg #[vl, .int .i64 T.most, vf, vt]] w fun e w' => ∃ vl' vf' vt', e = .returned (.tuple #[.agg #[vl', .int .i64 T.most, vf', vt'], .agg #[.int .i64 (i : Int), .int .i64 (T.lives.getD i 0 + 1)], .int .i64 0]) ∧ StateAt base w' vl' vf' vt' n (takeT T).1 ∧ (∃ b' o' c', vf' = .slice (some ⟨b', o', none⟩) (takeT T).1.free.length c') ∧ Below w.heap.size w w' := by
  have hn := hv.n
  have hin := hv.free i (by rw [hfr]; simp)
  have hil := hin.1
  have hlv := hv.lives i hil
  have hmo := hv.most
  have hfl := free_le hv
  have hll := hv.ll
  have hlt := hv.lt
  rw [hfr] at hfl
  simp only [List.length_cons] at hfl
  obtain ⟨bl, ol, cl, f1, p1, -, -, hcl⟩ := h.lives.some (by omega)
  obtain ⟨bf, off, cf, f2, p2, -, -, hcf⟩ := h.free.some (by rw [hfr]; simp)
  obtain ⟨bt, ot, ct, f3, p3, -, -, hct⟩ := h.taken.some (by omega)
  rw [hfr] at f2 hcf
  simp only [List.length_cons] at f2 hcf
  subst f1 f2 f3
  clear h
  have hB : Below w.heap.size w (((w.alloc (.cells #[.slice (some ⟨bl, ol, none⟩) n cl, .int .i64 T.most, .slice (some ⟨bf, off, none⟩) (rest.length + 1) cf, .slice (some ⟨bt, ot, none⟩) n ct] 67)).alloc (.cells #[.slice none 0 0, .int .i64 0, .slice none 0 0, .slice none 0 0] 67)).alloc (.cells #[.int .i64 0, .int .i64 0] 88)) := (((Below.refl _ w).alloc (Nat.le_refl _) _).alloc (by simp) _).alloc (by simp; omega) _
  have hb : BoxS (((w.alloc (.cells #[.slice (some ⟨bl, ol, none⟩) n cl, .int .i64 T.most, .slice (some ⟨bf, off, none⟩) (rest.length + 1) cf, .slice (some ⟨bt, ot, none⟩) n ct] 67)).alloc (.cells #[.slice none 0 0, .int .i64 0, .slice none 0 0, .slice none 0 0] 67)).alloc (.cells #[.int .i64 0, .int .i64 0] 88)) w.heap.size (.slice (some ⟨bl, ol, none⟩) n cl) T.most (.slice (some ⟨bf, off, none⟩) (rest.length + 1) cf) (.slice (some ⟨bt, ot, none⟩) n ct) := (Below.heap_alloc _ _ _ (by simp; omega)).trans ((Below.heap_alloc _ _ _ (by simp)).trans (World.alloc_heap_new w _))
  have hr1 : BoxS (((w.alloc (.cells #[.slice (some ⟨bl, ol, none⟩) n cl, .int .i64 T.most, .slice (some ⟨bf, off, none⟩) (rest.length + 1) cf, .slice (some ⟨bt, ot, none⟩) n ct] 67)).alloc (.cells #[.slice none 0 0, .int .i64 0, .slice none 0 0, .slice none 0 0] 67)).alloc (.cells #[.int .i64 0, .int .i64 0] 88)) (w.heap.size + 1) (.slice none 0 0) 0 (.slice none 0 0) (.slice none 0 0) := (Below.heap_alloc _ _ _ (by simp)).trans (by have := World.alloc_heap_new (w.alloc (.cells #[.slice (some ⟨bl, ol, none⟩) n cl, .int .i64 T.most, .slice (some ⟨bf, off, none⟩) (rest.length + 1) cf, .slice (some ⟨bt, ot, none⟩) n ct] 67)) (.cells #[.slice none 0 0, .int .i64 0, .slice none 0 0, .slice none 0 0] 67); simpa using this)
  have hr2 : RefAtR (((w.alloc (.cells #[.slice (some ⟨bl, ol, none⟩) n cl, .int .i64 T.most, .slice (some ⟨bf, off, none⟩) (rest.length + 1) cf, .slice (some ⟨bt, ot, none⟩) n ct] 67)).alloc (.cells #[.slice none 0 0, .int .i64 0, .slice none 0 0, .slice none 0 0] 67)).alloc (.cells #[.int .i64 0, .int .i64 0] 88)) (w.heap.size + 1 + 1) 0 0 := by have := World.alloc_heap_new ((w.alloc (.cells #[.slice (some ⟨bl, ol, none⟩) n cl, .int .i64 T.most, .slice (some ⟨bf, off, none⟩) (rest.length + 1) cf, .slice (some ⟨bt, ot, none⟩) n ct] 67)).alloc (.cells #[.slice none 0 0, .int .i64 0, .slice none 0 0, .slice none 0 0] 67)) (.cells #[.int .i64 0, .int .i64 0] 88); simpa [RefAtR] using this
  have hs0 : (((w.alloc (.cells #[.slice (some ⟨bl, ol, none⟩) n cl, .int .i64 T.most, .slice (some ⟨bf, off, none⟩) (rest.length + 1) cf, .slice (some ⟨bt, ot, none⟩) n ct] 67)).alloc (.cells #[.slice none 0 0, .int .i64 0, .slice none 0 0, .slice none 0 0] 67)).alloc (.cells #[.int .i64 0, .int .i64 0] 88)).heap.size = w.heap.size + 1 + 1 + 1 := by simp
  have hc1 := hcl.below hB
  have hc2 := hcf.below hB
  have hc3 := hct.below hB
  clear hcl hcf hct
  go_enter Try.func39, Try.ntmps39
  go_upto_region 1 with (fail)
  generalize (((w.alloc (.cells #[.slice (some ⟨bl, ol, none⟩) n cl, .int .i64 T.most, .slice (some ⟨bf, off, none⟩) (rest.length + 1) cf, .slice (some ⟨bt, ot, none⟩) n ct] 67)).alloc (.cells #[.slice none 0 0, .int .i64 0, .slice none 0 0, .slice none 0 0] 67)).alloc (.cells #[.int .i64 0, .int .i64 0] 88)) = x0 at *
  have q0 := hb.c0
  have q1 := hb.c1
  have q2 := hb.c2
  have q3 := hb.c3
  have H1 := Lib.hid hc1
  have H2 := Lib.hid hc2
  have H3 := Lib.hid hc3
  have HS0 := Lib.hid hs0
  have HIN := Lib.hid hin
  clear hc1 hc2 hc3 hs0 hin hv
  go_wp2_with fail
  refine (Own_any (lifeV T) (freeV T) (takenV T) n (rest.length + 1) n bl ol cl bf off cf bt ot ct T.most _ hn (by omega) hn H1.out H2.out H3.out (fun _ => rfl) (fun _ => rfl) (fun _ => rfl)).mono ?_
  rintro e w1 ⟨g1, c1, g2, c2, g3, c3, rfl, o1, o2, o3, n12, n13, n23, hb1⟩
  clear q0 q1 q2 q3
  have hbx := (hb1.block _ hb.lt).trans hb
  have hrx1 : BoxS w1 (w.heap.size + 1) (.slice none 0 0) 0 (.slice none 0 0) (.slice none 0 0) := (hb1.block _ hr1.lt).trans hr1
  have hrx2 : RefAtR w1 (w.heap.size + 1 + 1) 0 0 := (hb1.block _ hr2.lt).trans hr2
  have q0 := BoxS.c0 hbx
  have q1 := BoxS.c1 hbx
  have q2 := BoxS.c2 hbx
  have q3 := BoxS.c3 hbx
  have f0 := BoxS.frozen hbx 0
  have f1 := BoxS.frozen hbx 1
  have f2 := BoxS.frozen hbx 2
  have f3 := BoxS.frozen hbx 3
  have hb2 := BoxS.set4 hbx (al := .slice (some ⟨g1, 0, none⟩) n c1) (j := T.most) (af := .slice (some ⟨g2, 0, none⟩) (rest.length + 1) c2) (at_ := .slice (some ⟨g3, 0, none⟩) n c3)
  have m2 := mod4 w1 w.heap.size (.slice (some ⟨g1, 0, none⟩) n c1) (.int .i64 T.most) (.slice (some ⟨g2, 0, none⟩) (rest.length + 1) c2) (.slice (some ⟨g3, 0, none⟩) n c3)
  have l1 := owns_le o1
  have l2 := owns_le o2
  have l3 := owns_le o3
  have hs0 := HS0.out
  have hr1' := hrx1.mod m2 (by omega)
  have hr2' := hrx2.mod m2 (by omega)
  have o1' := ownsRow_mod o1 m2 (fun g e => by have e' : some g1 = some g := e; injection e' with e'; omega)
  have o2' := ownsRow_mod o2 m2 (fun g e => by have e' : some g2 = some g := e; injection e' with e'; omega)
  have o3' := ownsRow_mod o3 m2 (fun g e => by have e' : some g3 = some g := e; injection e' with e'; omega)
  have hB2 := (hB.trans (hb1.mono hB.size)).trans (m2.below (Nat.le_trans hB.size hb1.size) (fun k hk e => by omega))
  have LL := Lib.hid (show x0.heap.size = w.heap.size + 1 + 1 + 1 ∧ x0.heap.size ≤ g1 ∧ x0.heap.size ≤ g2 ∧ x0.heap.size ≤ g3 ∧ rest.length + 1 ≤ c2 ∧ c2 ≤ maxLen ∧ n ≤ c1 ∧ c1 ≤ maxLen ∧ n ≤ c3 ∧ c3 ≤ maxLen from by omega)
  have HR1 := Lib.hid hr1'
  have HR2 := Lib.hid hr2'
  have HB2 := Lib.hid hB2
  have HBX := Lib.hid hb2
  have O1 := Lib.hid o1'
  have O2 := Lib.hid o2'
  have O3 := Lib.hid o3'
  clear hbx hrx1 hrx2 hb2 m2 l1 l2 l3 hs0 hr1' hr2' o1' o2' o3' hB2 o1 o2 o3 hb1 hb hr1 hr2 hB HS0 H1 H2 H3
  go_upto_region 4 with (fail)
  generalize (((w1.setCell ⟨w.heap.size, 0, none⟩ (.slice (some ⟨g1, 0, none⟩) n c1)).setCell ⟨w.heap.size, 1, none⟩ (.int .i64 T.most)).setCell ⟨w.heap.size, 2, none⟩ (.slice (some ⟨g2, 0, none⟩) (rest.length + 1) c2)).setCell ⟨w.heap.size, 3, none⟩ (.slice (some ⟨g3, 0, none⟩) n c3) = w2 at *
  clear q0 q1 q2 q3 f0 f1 f2 f3
  have q0 := HBX.out.c0
  have q2 := HBX.out.c2
  have q3 := HBX.out.c3
  have f2 := HBX.out.frozen 2
  have k0 : w2.cell? ⟨g2, 0, none⟩ = some (.int .i64 (i : Int)) := owns_at O2.out (by simp [freeV, hfr])
  have hc21 : (1 : Int) ≤ (c2 : Int) := by have := LL.out; omega
  have hcap2 : rest.length + 1 ≤ c2 := by have := LL.out; omega
  go_upto_region 6 with (fail)
  obtain ⟨so, hso, hso1⟩ : ∃ so : Nat, (if c2 = 1 then some (⟨g2, 0, none⟩ : Addr) else some ⟨g2, 1, none⟩) = some ⟨g2, so, none⟩ ∧ (so = 1 ∨ (so = 0 ∧ rest.length = 0)) := by
    by_cases h : c2 = 1
    · exact ⟨0, by rw [if_pos h], .inr ⟨rfl, by omega⟩⟩
    · exact ⟨1, by rw [if_neg h], .inl rfl⟩
  rw [hso]
  have hb3 := HBX.out.set2 (v := .slice (some ⟨g2, so, none⟩) rest.length (c2 - 1))
  have m3 := Mod.setCell (S := fun k => k = w.heap.size) (p := ⟨w.heap.size, 2, none⟩) (Mod.refl _ w2) (.inr rfl) (.slice (some ⟨g2, so, none⟩) rest.length (c2 - 1))
  have ll := LL.out
  have o1 := ownsRow_mod O1.out m3 (fun g e => by have e' : some g1 = some g := e; injection e' with e'; omega)
  have o2 := ownsRow_mod O2.out m3 (fun g e => by have e' : some g2 = some g := e; injection e' with e'; omega)
  have o3 := ownsRow_mod O3.out m3 (fun g e => by have e' : some g3 = some g := e; injection e' with e'; omega)
  have hr1 := HR1.out.mod m3 (by omega)
  have hr2 := HR2.out.mod m3 (by omega)
  have hB3 := HB2.out.trans (m3.below HB2.out.size (fun k hk e => by omega))
  generalize w2.setCell ⟨w.heap.size, 2, none⟩ (.slice (some ⟨g2, so, none⟩) rest.length (c2 - 1)) = w3 at *
  clear q0 q2 q3 f2 k0 O1 O2 O3 HR1 HR2 HB2 HBX m3 hso hc21 hcap2
  have q0 := hb3.c0
  have hlf : ((List.range n).map (lifeV T))[i]? = some (.int .i64 (T.lives.getD i 0)) := by simp [hil, lifeV]
  have k1 := owns_at o1 hlf
  have k1f := owns_frozen o1 i
  have hilI : (i : Int) < (n : Int) := by omega
  have hi0 : (0 : Int) ≤ (i : Int) := by omega
  generalize hlfe : T.lives.getD i 0 = lf at *
  have HLF := Lib.hid hlfe
  clear hlfe hlf
  have o1s := owns_set o1 i (.int .i64 (lf + 1))
  have m4 := Mod.setCell (S := fun k => k = g1) (p := ⟨g1, i, none⟩) (Mod.refl _ w3) (.inr rfl) (.int .i64 (lf + 1))
  have o2s := ownsRow_mod o2 m4 (fun g e => by have e' : some g2 = some g := e; injection e' with e'; omega)
  have o3s := ownsRow_mod o3 m4 (fun g e => by have e' : some g3 = some g := e; injection e' with e'; omega)
  have hr1s := hr1.mod m4 (by omega)
  have hr2s := hr2.mod m4 (by omega)
  have hbs := hb3.mod m4 (by omega)
  have hB4 := hB3.trans (m4.below hB3.size (fun k hk e => by omega))
  have G1 := Lib.hid o1s
  have G2 := Lib.hid o2s
  have G3 := Lib.hid o3s
  have GR1 := Lib.hid hr1s
  have GR2 := Lib.hid hr2s
  have GB := Lib.hid hbs
  have GBB := Lib.hid hB4
  have LLL := Lib.hid ll
  have HSO := Lib.hid hso1
  clear o1 o2 o3 hr1 hr2 hb3 hB3 o1s o2s o3s hr1s hr2s hbs hB4 m4 ll LL hso1
  obtain ⟨lb0, lb1⟩ := hlv
  obtain ⟨mo0, mo1⟩ := hmo
  go_upto_region 7 with (fail)
  generalize w3.setCell ⟨g1, i, none⟩ (.int .i64 (lf + 1)) = w4 at *
  clear q0 k1 k1f
  have q3 := GB.out.c3
  have htf : ((List.range n).map (takenV T))[i]? = some (.bool (T.taken.getD i false)) := by simp [hil, takenV]
  have k3 := owns_at G3.out htf
  have k3f := owns_frozen G3.out i
  have o3s := owns_set G3.out i (.bool true)
  have m5 := Mod.setCell (S := fun k => k = g3) (p := ⟨g3, i, none⟩) (Mod.refl _ w4) (.inr rfl) (.bool true)
  have ll := LLL.out
  have o1s := ownsRow_mod G1.out m5 (fun g e => by have e' : some g1 = some g := e; injection e' with e'; omega)
  have o2s := ownsRow_mod G2.out m5 (fun g e => by have e' : some g2 = some g := e; injection e' with e'; omega)
  have hr1s := GR1.out.mod m5 (by omega)
  have hr2s := GR2.out.mod m5 (by omega)
  have hbs := GB.out.mod m5 (by omega)
  have hB5 := GBB.out.trans (m5.below GBB.out.size (fun k hk e => by omega))
  have F1 := Lib.hid o1s
  have F2 := Lib.hid o2s
  have F3 := Lib.hid o3s
  have FR1 := Lib.hid hr1s
  have FR2 := Lib.hid hr2s
  have FB := Lib.hid hbs
  have FBB := Lib.hid hB5
  clear o3s o1s o2s hr1s hr2s hbs hB5 m5 ll G1 G2 G3 GR1 GR2 GB GBB htf
  go_upto_region 8 with (fail)
  generalize w4.setCell ⟨g3, i, none⟩ (.bool true) = w5 at *
  clear q3 k3 k3f
  have q0 := FB.out.c0
  have q1 := FB.out.c1
  have q2 := FB.out.c2
  have q3 := FB.out.c3
  have r0 := FR1.out.c0
  have r1 := FR1.out.c1
  have r2 := FR1.out.c2
  have r3 := FR1.out.c3
  have f0 := FR1.out.frozen 0
  have f1 := FR1.out.frozen 1
  have f2 := FR1.out.frozen 2
  have f3 := FR1.out.frozen 3
  have s0 := FR2.out.c0
  have s1 := FR2.out.c1
  have s2 := FR2.out.frozen 0
  have s3 := FR2.out.frozen 1
  have kl : w5.cell? ⟨g1, i, none⟩ = some (.int .i64 (lf + 1)) := owns_at F1.out (by simp [hil])
  have HPT := Lib.hid (put_take FR1.out FR2.out (vl := .slice (some ⟨g1, 0, none⟩) n c1) (k := T.most) (vf := .slice (some ⟨g2, so, none⟩) rest.length (c2 - 1)) (vt := .slice (some ⟨g3, 0, none⟩) n c3) (a := (i : Int)) (b := lf + 1))
  have m6 := mod4 w5 (w.heap.size + 1) (.slice (some ⟨g1, 0, none⟩) n c1) (.int .i64 T.most) (.slice (some ⟨g2, so, none⟩) rest.length (c2 - 1)) (.slice (some ⟨g3, 0, none⟩) n c3)
  have kl4 := m6.cell (p := ⟨g1, i, none⟩) (by have := LLL.out; show ¬ g1 = w.heap.size + 1; omega) kl
  clear m6
  go_region
  have HY1 := Lib.hid HPT.out.1.drew
  have HY2 := Lib.hid HPT.out.2.1.drew
  have HY3 := Lib.hid (Mod.drew HPT.out.2.2)
  generalize ((((((w5.setCell ⟨w.heap.size + 1, 0, none⟩ (.slice (some ⟨g1, 0, none⟩) n c1)).setCell ⟨w.heap.size + 1, 1, none⟩ (.int .i64 T.most)).setCell ⟨w.heap.size + 1, 2, none⟩ (.slice (some ⟨g2, so, none⟩) rest.length (c2 - 1))).setCell ⟨w.heap.size + 1, 3, none⟩ (.slice (some ⟨g3, 0, none⟩) n c3)).setCell ⟨w.heap.size + 1 + 1, 0, none⟩ (.int .i64 (i : Int))).setCell ⟨w.heap.size + 1 + 1, 1, none⟩ (.int .i64 (lf + 1))).drew = Y at *
  clear HPT q0 q1 q2 q3 r0 r1 r2 r3 f0 f1 f2 f3 s0 s1 s2 s3 kl kl4
  go_wp2_with fail
  have ll := LLL.out
  have m := HY3.out
  refine bodyPost_ret (v := .tuple #[.agg #[.slice (some ⟨g1, 0, none⟩) n c1, .int .i64 T.most, .slice (some ⟨g2, so, none⟩) rest.length (c2 - 1), .slice (some ⟨g3, 0, none⟩) n c3], .agg #[.int .i64 (i : Int), .int .i64 (lf + 1)], .int .i64 0]) (takeR_results HY1.out HY2.out rfl rfl rfl) rfl ?_
  refine ⟨.slice (some ⟨g1, 0, none⟩) n c1, .slice (some ⟨g2, so, none⟩) rest.length (c2 - 1), .slice (some ⟨g3, 0, none⟩) n c3, by rw [HLF.out], ?_, ⟨g2, so, c2 - 1, by rw [takeT_cons hfr]⟩, FBB.out.trans (m.below FBB.out.size (fun k hk e => by omega))⟩
  rw [takeT_cons hfr]
  have a1 := ownsRow_mod F1.out m (fun g e => by have e' : some g1 = some g := e; injection e' with e'; omega)
  have a2 := ownsRow_mod F2.out m (fun g e => by have e' : some g2 = some g := e; injection e' with e'; omega)
  have a3 := ownsRow_mod F3.out m (fun g e => by have e' : some g3 = some g := e; injection e' with e'; omega)
  refine ⟨RowIs.of_owns a1 (fun g hg => hbase g (by omega)) fun j hj => ?_, ?_, RowIs.of_owns a3 (fun g hg => hbase g (by omega)) fun j hj => ?_⟩
  · show _ = some (Value.int .i64 ((T.lives.set i (T.lives.getD i 0 + 1)).getD j 0))
    rw [List.getElem?_set, getD_set _ _ _ _ _ (by omega), HLF.out]
    by_cases hij : i = j
    · subst hij; simp [hil]
    · rw [if_neg hij, if_neg (fun e => hij e.symm)]; simp [hj, lifeV]
  · obtain ⟨b1, b2, b3, b4⟩ := owns_le a2
    refine .inr ⟨g2, so, c2 - 1, rfl, hbase g2 (by omega), by show rest.length ≤ c2 - 1; omega, by omega, b2, fun j hj => ?_⟩
    have hj' : j < rest.length := hj
    rcases HSO.out with rfl | ⟨rfl, h0⟩
    · have := owns_at a2 (i := 1 + j) (u := freeV T (1 + j)) (by rw [List.getElem?_map, List.getElem?_range (by omega)]; rfl)
      rw [this]
      show _ = some (Value.int .i64 ((rest.getD j 0 : Nat) : Int))
      rw [show 1 + j = j + 1 by omega]
      simp [freeV, hfr]
    · omega
  · show _ = some (Value.bool ((T.taken.set i true).getD j false))
    rw [List.getElem?_set, getD_set _ _ _ _ _ (by omega)]
    by_cases hij : i = j
    · subst hij; simp [hil]
    · rw [if_neg hij, if_neg (fun e => hij e.symm)]; simp [hj, takenV]
end Slot
end Go.Proofs.Ytpcbmckknafdgaa
