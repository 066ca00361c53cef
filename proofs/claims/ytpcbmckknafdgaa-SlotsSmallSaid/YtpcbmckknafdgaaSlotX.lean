/- The reference of layer 9: Give. -/
import Derived.Test.YtpcbmckknafdgaaSlotW
namespace Go.Proofs.Ytpcbmckknafdgaa
open Go.RowKit Go.Shelf
set_option linter.unusedVariables false
set_option linter.unusedSimpArgs false
set_option maxRecDepth 100000
namespace Slot

/-- The state T, whose list of free places is no nil slice where there are places. -/
structure StateS (base : Nat → Prop) (w : World) (vl vf vt : Value) (n : Nat) (T : Tab) : Prop where
  s : StateAt base w vl vf vt n T
  f : 0 < n → ∃ b o c, vf = .slice (some ⟨b, o, none⟩) T.free.length c
theorem StateS.mod {S : Nat → Prop} {base : Nat → Prop} {w w' : World} {vl vf vt : Value} {n : Nat} {T : Tab} (h : StateS base w vl vf vt n T) (hm : Mod S w w') (hS : ∀ g, base g → ¬ S g) : StateS base w' vl vf vt n T := ⟨h.s.mod hm hS, h.f⟩
theorem StateS.below {base : Nat → Prop} {w w' : World} {vl vf vt : Value} {n : Nat} {T : Tab} (h : StateS base w vl vf vt n T) (hm : Below w.heap.size w w') : StateS base w' vl vf vt n T := ⟨h.s.below hm, h.f⟩

theorem StateS.imp {base base' : Nat → Prop} {w : World} {vl vf vt : Value} {n : Nat} {T : Tab} (h : StateS base w vl vf vt n T) (hi : ∀ g, base g → g < w.heap.size → base' g) : StateS base' w vl vf vt n T := ⟨h.s.imp hi, h.f⟩

theorem TakeR_any (base : Nat → Prop) (n : Nat) (T : Tab) (vl vf vt : Value) (w : World) (h : StateS base w vl vf vt n T) (hv : Valid n T) (hbase : ∀ g, w.heap.size ≤ g → base g) :
    Calls Try.prog 39 #[.agg #[vl, .int .i64 T.most, vf, vt]] w fun e w' => ∃ vl' vf' vt', e = .returned (.tuple #[.agg #[vl', .int .i64 T.most, vf', vt'], .agg #[.int .i64 (takeT T).2.1.1, .int .i64 (takeT T).2.1.2], .int .i64 (takeT T).2.2]) ∧ StateS base w' vl' vf' vt' n (takeT T).1 ∧ Below w.heap.size w w' := by
  cases hf : T.free with
  | nil =>
    refine (TakeR_full base n T vl vf vt w h.s hv hbase hf).mono ?_
    rintro e w' ⟨rfl, hb⟩
    rw [takeT_nil hf]
    exact ⟨vl, vf, vt, rfl, h.below hb, hb⟩
  | cons i rest =>
    refine (TakeR_yes base n T i rest vl vf vt w h.s hv hbase hf).mono ?_
    rintro e w' ⟨vl', vf', vt', rfl, hs, hf', hb⟩
    exact ⟨vl', vf', vt', by rw [takeT_cons hf], ⟨hs, fun _ => hf'⟩, hb⟩

theorem giveR_results {W : World} {R : Nat} {vl vf vt : Value} {k e : Int} {tmps : Array Value} (h : BoxS W R vl k vf vt) (e1 : tmps[4]? = some (.pointer (some ⟨R, 0, none⟩))) (e3 : tmps[5]? = some (.int .i64 e)) :
    (results Try.f42 tmps).run Try.prog W = .ok (.tuple #[.agg #[vl, .int .i64 k, vf, vt], .int .i64 e]) W := by
  have c0 := h.c0
  have c1 := h.c1
  have c2 := h.c2
  have c3 := h.c3
  simp [results, Try.results42, go_sem, e1, e3, c0, c1, c2, c3]

set_option maxHeartbeats 4000000 in
theorem GiveR_no (base : Nat → Prop) (n : Nat) (T : Tab) (vl vf vt : Value) (a b : Int) (w : World) (h : StateAt base w vl vf vt n T) (hv : Valid n T) (hbase : ∀ g, w.heap.size ≤ g → base g) (hlv : liveT n T (a, b) = false) :
    Calls Try.prog 42 #[.agg #[vl, .int .i64 T.most, vf, vt], .agg #[.int .i64 a, .int .i64 b]] w fun e w' => e = .returned (.tuple #[.agg #[vl, .int .i64 T.most, vf, vt], .int .i64 90]) ∧ Below w.heap.size w w' := by
  have h' := h
  obtain ⟨al, cl, e⟩ := h.lives.form
  obtain ⟨af, cf, e'⟩ := h.free.form
  obtain ⟨at_, ct, e''⟩ := h.taken.form
  subst e e' e''
  have hB : Below w.heap.size w (((w.alloc (.cells #[.slice al n cl, .int .i64 T.most, .slice af T.free.length cf, .slice at_ n ct] 67)).alloc (.cells #[.int .i64 a, .int .i64 b] 88)).alloc (.cells #[.slice none 0 0, .int .i64 0, .slice none 0 0, .slice none 0 0] 67)) := (((Below.refl _ w).alloc (Nat.le_refl _) _).alloc (by simp) _).alloc (by simp; omega) _
  have hb : BoxS (((w.alloc (.cells #[.slice al n cl, .int .i64 T.most, .slice af T.free.length cf, .slice at_ n ct] 67)).alloc (.cells #[.int .i64 a, .int .i64 b] 88)).alloc (.cells #[.slice none 0 0, .int .i64 0, .slice none 0 0, .slice none 0 0] 67)) w.heap.size (.slice al n cl) T.most (.slice af T.free.length cf) (.slice at_ n ct) := (Below.heap_alloc _ _ _ (by simp; omega)).trans ((Below.heap_alloc _ _ _ (by simp)).trans (World.alloc_heap_new w _))
  have hr2 : RefAtR (((w.alloc (.cells #[.slice al n cl, .int .i64 T.most, .slice af T.free.length cf, .slice at_ n ct] 67)).alloc (.cells #[.int .i64 a, .int .i64 b] 88)).alloc (.cells #[.slice none 0 0, .int .i64 0, .slice none 0 0, .slice none 0 0] 67)) (w.heap.size + 1) a b := (Below.heap_alloc _ _ _ (by simp)).trans (by have := World.alloc_heap_new (w.alloc (.cells #[.slice al n cl, .int .i64 T.most, .slice af T.free.length cf, .slice at_ n ct] 67)) (.cells #[.int .i64 a, .int .i64 b] 88); simpa using this)
  have hr1 : BoxS (((w.alloc (.cells #[.slice al n cl, .int .i64 T.most, .slice af T.free.length cf, .slice at_ n ct] 67)).alloc (.cells #[.int .i64 a, .int .i64 b] 88)).alloc (.cells #[.slice none 0 0, .int .i64 0, .slice none 0 0, .slice none 0 0] 67)) (w.heap.size + 1 + 1) (.slice none 0 0) 0 (.slice none 0 0) (.slice none 0 0) := by have := World.alloc_heap_new ((w.alloc (.cells #[.slice al n cl, .int .i64 T.most, .slice af T.free.length cf, .slice at_ n ct] 67)).alloc (.cells #[.int .i64 a, .int .i64 b] 88)) (.cells #[.slice none 0 0, .int .i64 0, .slice none 0 0, .slice none 0 0] 67); simpa [BoxS] using this
  go_enter Try.func42, Try.ntmps42
  go_upto_region 1 with (fail)
  generalize (((w.alloc (.cells #[.slice al n cl, .int .i64 T.most, .slice af T.free.length cf, .slice at_ n ct] 67)).alloc (.cells #[.int .i64 a, .int .i64 b] 88)).alloc (.cells #[.slice none 0 0, .int .i64 0, .slice none 0 0, .slice none 0 0] 67)) = x0 at *
  have q0 := hb.c0
  have q1 := hb.c1
  have q2 := hb.c2
  have q3 := hb.c3
  have d0 := hr2.c0
  have d1 := hr2.c1
  have HS := Lib.hid (h'.mod (S := fun _ => False) (w' := x0) (Mod.of_same hB) (by simp))
  have HR1 := Lib.hid hr1
  have HBX := Lib.hid hb
  have HB := Lib.hid hB
  have HLV := Lib.hid hlv
  have HV := Lib.hid hv
  clear h h' hb hr1 hr2 hB hlv hv
  go_wp2_with fail
  refine (LiveR_any base n T _ _ _ a b _ HS.out HV.out).mono ?_
  rintro e w1 ⟨rfl, hb1⟩
  rw [HLV.out]
  have hbx := (hb1.block _ HBX.out.lt).trans HBX.out
  have hrx : BoxS w1 (w.heap.size + 1 + 1) (.slice none 0 0) 0 (.slice none 0 0) (.slice none 0 0) := (hb1.block _ HR1.out.lt).trans HR1.out
  clear q0 q1 q2 q3 d0 d1
  have q0 := BoxS.c0 hbx
  have q1 := BoxS.c1 hbx
  have q2 := BoxS.c2 hbx
  have q3 := BoxS.c3 hbx
  have r0 := hrx.c0
  have r1 := hrx.c1
  have r2 := hrx.c2
  have r3 := hrx.c3
  have f0 := hrx.frozen 0
  have f1 := hrx.frozen 1
  have f2 := hrx.frozen 2
  have f3 := hrx.frozen 3
  have HX := Lib.hid (hrx.set4 (al := .slice al n cl) (j := T.most) (af := .slice af T.free.length cf) (at_ := .slice at_ n ct))
  have HM := Lib.hid (mod4 w1 (w.heap.size + 1 + 1) (.slice al n cl) (.int .i64 T.most) (.slice af T.free.length cf) (.slice at_ n ct))
  have HB1 := Lib.hid (HB.out.trans (hb1.mono HB.out.size))
  clear hbx hrx hb1
  go_wp2_with fail
  refine bodyPost_ret (v := .tuple #[.agg #[.slice al n cl, .int .i64 T.most, .slice af T.free.length cf, .slice at_ n ct], .int .i64 90]) (giveR_results HX.out rfl rfl) rfl ?_
  exact ⟨rfl, HB1.out.trans (HM.out.below HB1.out.size (fun k hk e => by omega))⟩
theorem below_stage' {x w1 : World} {o : Obj} (hg : (x.alloc o).grownBy w1 (some x.heap.size)) : Below x.heap.size x w1 :=
  ((Mod.of_same (S := fun k => some k = some x.heap.size) ((Below.refl _ x).alloc (Nat.le_refl _) o)).trans (Mod.of_grownBy hg)).below (Nat.le_refl _) (fun k hk e => by injection e with e; omega)
theorem stage_row' {w1 : World} {base : Nat} {t : TypeId} {v : Value} {n X : Nat} {xs : List Value} (h : w1.ownsRow base t 1 v (1 + n) xs) (hn : v = .slice none 0 0 ↔ Value.slice (some ⟨X, 0, none⟩) 1 1 = .slice none 0 0 ∧ n = 0)
    (ha : v.ownBlock = (Value.slice (some ⟨X, 0, none⟩) 1 1).ownBlock ∨ v.ownBlock = some (X + 1)) : ∃ g c, v = .slice (some ⟨g, 0, none⟩) (n + 1) c ∧ (g = X ∨ g = X + 1) ∧ g < w1.heap.size ∧ w1.ownsRow base t 1 (.slice (some ⟨g, 0, none⟩) (n + 1) c) (n + 1) xs := by
  rw [Nat.add_comm] at h
  rcases h.2 with ⟨h1, _⟩ | ⟨g, c, cur, h1, h2, h3, _⟩
  · exact absurd (hn.1 h1).1 (by simp)
  · subst h1
    refine ⟨g, c, rfl, ?_, (Array.getElem?_eq_some_iff.1 h3).1, h⟩
    rcases ha with ha | ha
    · exact .inl (by simpa [Value.ownBlock] using ha)
    · exact .inr (by simpa [Value.ownBlock] using ha)
set_option maxHeartbeats 4000000 in
theorem GiveR_yes (base : Nat → Prop) (n : Nat) (T : Tab) (vl vf vt : Value) (i : Nat) (b : Int) (w : World) (h : StateAt base w vl vf vt n T) (hv : Valid n T) (hbase : ∀ g, w.heap.size ≤ g → base g) (hil : i < n) (htk : T.taken.getD i false = true) (hlb : T.lives.getD i 0 = b) (bf off cf : Nat) (hvf : vf = .slice (some ⟨bf, off, none⟩) T.free.length cf) :
    Calls Try.prog 42 #[.agg #[vl, .int .i64 T.most, vf, vt], .agg #[.int .i64 (i : Int), .int .i64 b]] w fun e w' => ∃ vl' vf' vt', e = .returned (.tuple #[.agg #[vl', .int .i64 T.most, vf', vt'], .int .i64 0]) ∧ StateAt base w' vl' vf' vt' n (giveT n T ((i : Int), b)).1 ∧ (∃ b' o' c', vf' = .slice (some ⟨b', o', none⟩) (giveT n T ((i : Int), b)).1.free.length c') ∧ Below w.heap.size w w' := by
  have hn := hv.n
  have hmo := hv.most
  have hfl := free_le hv
  have hll := hv.ll
  have hlt := hv.lt
  have hlv := hv.lives i hil
  have hlive : liveT n T ((i : Int), b) = true := by
    rw [live_iff, mem_refs]
    exact ⟨i, hil, htk, by rw [hlb]⟩
  have h' := h
  obtain ⟨bl, ol, cl, f1, p1, -, -, hcl⟩ := h.lives.some (by omega)
  obtain ⟨bt, ot, ct, f3, p3, -, -, hct⟩ := h.taken.some (by omega)
  have hcf0 : bf < w.heap.size ∧ ∀ j, j < T.free.length → w.cell? ⟨bf, off + j, none⟩ = some (freeV T j) := by
    rcases h.free with ⟨e, _⟩ | ⟨b2, o2, c2, e, _, _, _, hc⟩
    · rw [hvf] at e; cases e
    · rw [hvf] at e
      injection e with e1 e2 e3
      injection e1 with e1
      injection e1 with e1 e4
      subst e1 e4
      exact hc
  have hcf : CellsAt w bf off T.free.length (freeV T) := hcf0
  subst f1 f3 hvf
  have HGL := Lib.hid hlive
  have hG : (giveT n T ((i : Int), b)).1.lives = T.lives ∧ (giveT n T ((i : Int), b)).1.taken = T.taken.set i false ∧ (giveT n T ((i : Int), b)).1.free = if b < T.most then i :: T.free else T.free := by
    rw [giveT_yes hlive]; exact ⟨rfl, rfl, by simp [← hlb]⟩
  generalize (giveT n T ((i : Int), b)).1 = T' at *
  have HG := Lib.hid hG
  clear hG
  generalize hnf : T.free.length = nf at *
  have HNF := Lib.hid hnf
  have hB : Below w.heap.size w (((w.alloc (.cells #[.slice (some ⟨bl, ol, none⟩) n cl, .int .i64 T.most, .slice (some ⟨bf, off, none⟩) nf cf, .slice (some ⟨bt, ot, none⟩) n ct] 67)).alloc (.cells #[.int .i64 (i : Int), .int .i64 b] 88)).alloc (.cells #[.slice none 0 0, .int .i64 0, .slice none 0 0, .slice none 0 0] 67)) := (((Below.refl _ w).alloc (Nat.le_refl _) _).alloc (by simp) _).alloc (by simp; omega) _
  have hb : BoxS (((w.alloc (.cells #[.slice (some ⟨bl, ol, none⟩) n cl, .int .i64 T.most, .slice (some ⟨bf, off, none⟩) nf cf, .slice (some ⟨bt, ot, none⟩) n ct] 67)).alloc (.cells #[.int .i64 (i : Int), .int .i64 b] 88)).alloc (.cells #[.slice none 0 0, .int .i64 0, .slice none 0 0, .slice none 0 0] 67)) w.heap.size (.slice (some ⟨bl, ol, none⟩) n cl) T.most (.slice (some ⟨bf, off, none⟩) nf cf) (.slice (some ⟨bt, ot, none⟩) n ct) := (Below.heap_alloc _ _ _ (by simp; omega)).trans ((Below.heap_alloc _ _ _ (by simp)).trans (World.alloc_heap_new w _))
  have hr2 : RefAtR (((w.alloc (.cells #[.slice (some ⟨bl, ol, none⟩) n cl, .int .i64 T.most, .slice (some ⟨bf, off, none⟩) nf cf, .slice (some ⟨bt, ot, none⟩) n ct] 67)).alloc (.cells #[.int .i64 (i : Int), .int .i64 b] 88)).alloc (.cells #[.slice none 0 0, .int .i64 0, .slice none 0 0, .slice none 0 0] 67)) (w.heap.size + 1) (i : Int) b := (Below.heap_alloc _ _ _ (by simp)).trans (by have := World.alloc_heap_new (w.alloc (.cells #[.slice (some ⟨bl, ol, none⟩) n cl, .int .i64 T.most, .slice (some ⟨bf, off, none⟩) nf cf, .slice (some ⟨bt, ot, none⟩) n ct] 67)) (.cells #[.int .i64 (i : Int), .int .i64 b] 88); simpa using this)
  have hr1 : BoxS (((w.alloc (.cells #[.slice (some ⟨bl, ol, none⟩) n cl, .int .i64 T.most, .slice (some ⟨bf, off, none⟩) nf cf, .slice (some ⟨bt, ot, none⟩) n ct] 67)).alloc (.cells #[.int .i64 (i : Int), .int .i64 b] 88)).alloc (.cells #[.slice none 0 0, .int .i64 0, .slice none 0 0, .slice none 0 0] 67)) (w.heap.size + 1 + 1) (.slice none 0 0) 0 (.slice none 0 0) (.slice none 0 0) := by have := World.alloc_heap_new ((w.alloc (.cells #[.slice (some ⟨bl, ol, none⟩) n cl, .int .i64 T.most, .slice (some ⟨bf, off, none⟩) nf cf, .slice (some ⟨bt, ot, none⟩) n ct] 67)).alloc (.cells #[.int .i64 (i : Int), .int .i64 b] 88)) (.cells #[.slice none 0 0, .int .i64 0, .slice none 0 0, .slice none 0 0] 67); simpa [BoxS] using this
  have hs0 : (((w.alloc (.cells #[.slice (some ⟨bl, ol, none⟩) n cl, .int .i64 T.most, .slice (some ⟨bf, off, none⟩) nf cf, .slice (some ⟨bt, ot, none⟩) n ct] 67)).alloc (.cells #[.int .i64 (i : Int), .int .i64 b] 88)).alloc (.cells #[.slice none 0 0, .int .i64 0, .slice none 0 0, .slice none 0 0] 67)).heap.size = w.heap.size + 1 + 1 + 1 := by simp
  clear hcf0 hnf htk hlive
  go_enter Try.func42, Try.ntmps42
  go_upto_region 1 with (fail)
  generalize (((w.alloc (.cells #[.slice (some ⟨bl, ol, none⟩) n cl, .int .i64 T.most, .slice (some ⟨bf, off, none⟩) nf cf, .slice (some ⟨bt, ot, none⟩) n ct] 67)).alloc (.cells #[.int .i64 (i : Int), .int .i64 b] 88)).alloc (.cells #[.slice none 0 0, .int .i64 0, .slice none 0 0, .slice none 0 0] 67)) = x0 at *
  have q0 := hb.c0
  have q1 := hb.c1
  have q2 := hb.c2
  have q3 := hb.c3
  have d0 := hr2.c0
  have d1 := hr2.c1
  have HS := Lib.hid (h'.mod (S := fun _ => False) (w' := x0) (Mod.of_same hB) (by simp))
  have H1 := Lib.hid (hcl.below hB)
  have H2 := Lib.hid (hcf.below hB)
  have H3 := Lib.hid (hct.below hB)
  have HR1 := Lib.hid hr1
  have HR2 := Lib.hid hr2
  have HBX := Lib.hid hb
  have HB := Lib.hid hB
  have HV := Lib.hid hv
  have HS0 := Lib.hid hs0
  clear h h' hb hr1 hr2 hB hv hcl hcf hct hs0
  go_wp2_with fail
  refine (LiveR_any base n T _ _ _ (i : Int) b _ HS.out HV.out).mono ?_
  rintro e w1 ⟨rfl, hb1⟩
  rw [HGL.out]
  have hbx := (hb1.block _ HBX.out.lt).trans HBX.out
  clear q0 q1 q2 q3 d0 d1
  have q0 := BoxS.c0 hbx
  have q1 := BoxS.c1 hbx
  have q2 := BoxS.c2 hbx
  have q3 := BoxS.c3 hbx
  have HBX1 := Lib.hid hbx
  have HB1 := Lib.hid hb1
  clear hbx hb1
  go_wp2_with fail
  refine (Own_any (lifeV T) (freeV T) (takenV T) n nf n bl ol cl bf off cf bt ot ct T.most _ hn (by omega) hn (H1.out.below HB1.out) (H2.out.below HB1.out) (H3.out.below HB1.out) (fun _ => rfl) (fun _ => rfl) (fun _ => rfl)).mono ?_
  rintro e w2 ⟨g1, c1, g2, c2, g3, c3, rfl, o1, o2, o3, n12, n13, n23, hb2⟩
  have hsz1 := HB1.out.size
  have hb12 : Below x0.heap.size x0 w2 := HB1.out.trans (hb2.mono hsz1)
  have hbx : BoxS w2 w.heap.size (.slice (some ⟨bl, ol, none⟩) n cl) T.most (.slice (some ⟨bf, off, none⟩) nf cf) (.slice (some ⟨bt, ot, none⟩) n ct) := (hb12.block _ HBX.out.lt).trans HBX.out
  have hrx1 : BoxS w2 (w.heap.size + 1 + 1) (.slice none 0 0) 0 (.slice none 0 0) (.slice none 0 0) := (hb12.block _ HR1.out.lt).trans HR1.out
  have hrx2 : RefAtR w2 (w.heap.size + 1) (i : Int) b := (hb12.block _ HR2.out.lt).trans HR2.out
  clear q0 q1 q2 q3
  have q0 := BoxS.c0 hbx
  have q1 := BoxS.c1 hbx
  have q2 := BoxS.c2 hbx
  have q3 := BoxS.c3 hbx
  have f0 := BoxS.frozen hbx 0
  have f1 := BoxS.frozen hbx 1
  have f2 := BoxS.frozen hbx 2
  have f3 := BoxS.frozen hbx 3
  have hb2' := BoxS.set4 hbx (al := .slice (some ⟨g1, 0, none⟩) n c1) (j := T.most) (af := .slice (some ⟨g2, 0, none⟩) nf c2) (at_ := .slice (some ⟨g3, 0, none⟩) n c3)
  have m2 := mod4 w2 w.heap.size (.slice (some ⟨g1, 0, none⟩) n c1) (.int .i64 T.most) (.slice (some ⟨g2, 0, none⟩) nf c2) (.slice (some ⟨g3, 0, none⟩) n c3)
  have l1 := owns_le o1
  have l2 := owns_le o2
  have l3 := owns_le o3
  have hs0 := HS0.out
  have hr1' := hrx1.mod m2 (by omega)
  have hr2' := hrx2.mod m2 (by omega)
  have o1' := ownsRow_mod o1 m2 (fun g e => by have e' : some g1 = some g := e; injection e' with e'; omega)
  have o2' := ownsRow_mod o2 m2 (fun g e => by have e' : some g2 = some g := e; injection e' with e'; omega)
  have o3' := ownsRow_mod o3 m2 (fun g e => by have e' : some g3 = some g := e; injection e' with e'; omega)
  have hsB := HB.out.size
  have hB2 := (HB.out.trans (hb12.mono hsB)).trans (m2.below (Nat.le_trans hsB hb12.size) (fun k hk e => by omega))
  have LL := Lib.hid (show x0.heap.size = w.heap.size + 1 + 1 + 1 ∧ x0.heap.size ≤ w1.heap.size ∧ w1.heap.size ≤ g1 ∧ w1.heap.size ≤ g2 ∧ w1.heap.size ≤ g3 ∧ nf ≤ c2 ∧ c2 ≤ maxLen ∧ n ≤ c1 ∧ c1 ≤ maxLen ∧ n ≤ c3 ∧ c3 ≤ maxLen from by omega)
  have GR1 := Lib.hid hr1'
  have GR2 := Lib.hid hr2'
  have GBB := Lib.hid hB2
  have GB := Lib.hid hb2'
  have G1 := Lib.hid o1'
  have G2 := Lib.hid o2'
  have G3 := Lib.hid o3'
  clear hbx hrx1 hrx2 hb2' m2 l1 l2 l3 hs0 hr1' hr2' o1' o2' o3' hB2 o1 o2 o3 hb2 hb12 hsz1 hsB HS0 H1 H2 H3 HB HBX HR1 HR2 HBX1 HB1 HS
  go_upto_region 4 with (fail)
  generalize (((w2.setCell ⟨w.heap.size, 0, none⟩ (.slice (some ⟨g1, 0, none⟩) n c1)).setCell ⟨w.heap.size, 1, none⟩ (.int .i64 T.most)).setCell ⟨w.heap.size, 2, none⟩ (.slice (some ⟨g2, 0, none⟩) nf c2)).setCell ⟨w.heap.size, 3, none⟩ (.slice (some ⟨g3, 0, none⟩) n c3) = w4 at *
  clear q0 q1 q2 q3 f0 f1 f2 f3
  have q3 := GB.out.c3
  have d0 := GR2.out.c0
  have htf : ((List.range n).map (takenV T))[i]? = some (.bool (T.taken.getD i false)) := by simp [hil, takenV]
  have k3 := owns_at G3.out htf
  have k3f := owns_frozen G3.out i
  have hilI : (i : Int) < (n : Int) := by omega
  have hi0 : (0 : Int) ≤ (i : Int) := by omega
  have o3s := owns_set G3.out i (.bool false)
  have m5 := Mod.setCell (S := fun k => k = g3) (p := ⟨g3, i, none⟩) (Mod.refl _ w4) (.inr rfl) (.bool false)
  have ll := LL.out
  have o1s := ownsRow_mod G1.out m5 (fun g e => by have e' : some g1 = some g := e; injection e' with e'; omega)
  have o2s := ownsRow_mod G2.out m5 (fun g e => by have e' : some g2 = some g := e; injection e' with e'; omega)
  have hr1s := GR1.out.mod m5 (by omega)
  have hr2s := GR2.out.mod m5 (by omega)
  have hbs := GB.out.mod m5 (by omega)
  have hB5 := GBB.out.trans (m5.below GBB.out.size (fun k hk e => by omega))
  have F1 := Lib.hid o1s
  have F2 := Lib.hid o2s
  have F3 := Lib.hid o3s
  have FR1 := Lib.hid hr1s
  have FR2 := Lib.hid hr2s
  have FB := Lib.hid hbs
  have FBB := Lib.hid hB5
  clear o3s o1s o2s hr1s hr2s hbs hB5 m5 ll G1 G2 G3 GR1 GR2 GB GBB htf
  go_upto_region 5 with (fail)
  generalize w4.setCell ⟨g3, i, none⟩ (.bool false) = w5 at *
  clear q3 k3 k3f d0
  have q0 := FB.out.c0
  have q1 := FB.out.c1
  have d0 := FR2.out.c0
  have k1 : w5.cell? ⟨g1, i, none⟩ = some (.int .i64 (T.lives.getD i 0)) := owns_at F1.out (by simp [hil, lifeV])
  rw [hlb] at k1
  go_quiet (fail)
  have m6 : Mod (fun _ => False) w5 (w5.drewN nq) := ⟨rfl, rfl, rfl, Nat.le_refl _, fun _ _ _ => rfl⟩
  clear q0 q1 d0 k1
  generalize w5.drewN nq = w6 at *
  have E1 := Lib.hid (ownsRow_mod F1.out m6 (by simp))
  have E2 := Lib.hid (ownsRow_mod F2.out m6 (by simp))
  have E3 := Lib.hid (ownsRow_mod F3.out m6 (by simp))
  have ER1 := Lib.hid (FR1.out.mod m6 (by simp))
  have ER2 := Lib.hid (FR2.out.mod m6 (by simp))
  have EB := Lib.hid (FB.out.mod m6 (by simp))
  have EBB := Lib.hid (FBB.out.trans (m6.below FBB.out.size (by simp)))
  have S6 := Lib.hid m6.size
  have HBLT := Lib.hid (show w.heap.size + 1 + 1 + 1 ≤ w6.heap.size from by have := ER1.out.lt; omega)
  clear m6 F1 F2 F3 FR1 FR2 FB FBB
  by_cases hbm : b = T.most
  · have hd : (b != T.most) = false := by simp [hbm]
    have r0 := ER1.out.c0
    have r1 := ER1.out.c1
    have r2 := ER1.out.c2
    have r3 := ER1.out.c3
    have f0 := ER1.out.frozen 0
    have f1 := ER1.out.frozen 1
    have f2 := ER1.out.frozen 2
    have f3 := ER1.out.frozen 3
    have q0 := EB.out.c0
    have q1 := EB.out.c1
    have q2 := EB.out.c2
    have q3 := EB.out.c3
    have HX := Lib.hid (ER1.out.set4 (al := .slice (some ⟨g1, 0, none⟩) n c1) (j := T.most) (af := .slice (some ⟨g2, 0, none⟩) nf c2) (at_ := .slice (some ⟨g3, 0, none⟩) n c3))
    have HM := Lib.hid (mod4 w6 (w.heap.size + 1 + 1) (.slice (some ⟨g1, 0, none⟩) n c1) (.int .i64 T.most) (.slice (some ⟨g2, 0, none⟩) nf c2) (.slice (some ⟨g3, 0, none⟩) n c3))
    go_wp2_with fail
    have ll := LL.out
    have m := HM.out
    refine bodyPost_ret (v := .tuple #[.agg #[.slice (some ⟨g1, 0, none⟩) n c1, .int .i64 T.most, .slice (some ⟨g2, 0, none⟩) nf c2, .slice (some ⟨g3, 0, none⟩) n c3], .int .i64 0]) (giveR_results HX.out rfl rfl) rfl ?_
    have a1 := ownsRow_mod E1.out m (fun g e => by have e' : some g1 = some g := e; injection e' with e'; omega)
    have a2 := ownsRow_mod E2.out m (fun g e => by have e' : some g2 = some g := e; injection e' with e'; omega)
    have a3 := ownsRow_mod E3.out m (fun g e => by have e' : some g3 = some g := e; injection e' with e'; omega)
    refine ⟨.slice (some ⟨g1, 0, none⟩) n c1, .slice (some ⟨g2, 0, none⟩) nf c2, .slice (some ⟨g3, 0, none⟩) n c3, rfl, ⟨RowIs.of_owns a1 (fun g hg => hbase g (by omega)) fun j hj => by simp [hj, lifeV, HG.out.1], ?_, RowIs.of_owns a3 (fun g hg => hbase g (by omega)) fun j hj => ?_⟩, ?_, EBB.out.trans (m.below EBB.out.size (fun k hk e => by omega))⟩
    · have hfe : T'.free = T.free := by rw [HG.out.2.2, if_neg (by omega)]
      rw [hfe, HNF.out]
      exact RowIs.of_owns a2 (fun g hg => hbase g (by omega)) fun j hj => by rw [List.getElem?_map, List.getElem?_range hj]; simp [freeV, hfe]
    · show _ = some (Value.bool (T'.taken.getD j false))
      rw [HG.out.2.1, List.getElem?_set, getD_set _ _ _ _ _ (by omega)]
      by_cases hij : i = j
      · subst hij; simp [hil]
      · rw [if_neg hij, if_neg (fun e => hij e.symm)]; simp [hj, takenV]
    · exact ⟨g2, 0, c2, by rw [HG.out.2.2, if_neg (by omega), HNF.out]⟩
  · have hd : (b != T.most) = true := by simp [hbm]
    have d0 := ER2.out.c0
    have bl7 : Below w6.heap.size w6 (w6.alloc (.cells #[.int .i64 (i : Int)] 3)) := (Below.refl _ _).alloc (Nat.le_refl _) _
    have ow7 : (w6.alloc (.cells #[.int .i64 (i : Int)] 3)).ownsRow w6.heap.size 3 1 (.slice (some ⟨w6.heap.size, 0, none⟩) 1 1) 1 [.int .i64 (i : Int)] :=
      ⟨rfl, .inr ⟨w6.heap.size, 1, _, rfl, Nat.le_refl _, World.alloc_heap_new w6 _, Nat.le_refl _, by decide, rfl, rfl⟩⟩
    have hnew : ∀ (j : Nat) (u : Value), ((List.range nf).map (freeV T))[j]? = some u → (w6.alloc (.cells #[.int .i64 (i : Int)] 3)).cell? ((⟨g2, 0, none⟩ : Addr).add j) = some u := by
      intro j u hu
      have := owns_at (ownsRow_mod (S := fun _ => False) E2.out (Mod.of_same bl7) (by simp)) hu
      rcases j with _ | j
      · simpa [Addr.add] using this
      · simpa [Addr.add] using this
    have q2 := BoxS.c2 (show BoxS (w6.alloc (.cells #[.int .i64 (i : Int)] 3)) w.heap.size (.slice (some ⟨g1, 0, none⟩) n c1) T.most (.slice (some ⟨g2, 0, none⟩) nf c2) (.slice (some ⟨g3, 0, none⟩) n c3) from (bl7.block _ EB.out.lt).trans EB.out)
    have HN7 := Lib.hid hnew
    have BL7 := Lib.hid bl7
    obtain ⟨i0, hi, hz0, hz1, hz2⟩ := info_parts infoInt
    clear bl7 hnew
    go_upto_region 7 with (at_builtin; refine wpList_append_own_at _ rfl _ _ 29 rfl w6.heap.size 3 i0 (.int .i64 0) 1 8 Try.underlying29 hi hz0 hz1 hz2 rfl (by decide) _ _ _ rfl ow7 ⟨g2, 0, none⟩ nf c2 _ rfl (by simp) HN7.out (by simp; intro a _; rfl) (by unfold maxLen; omega) (by omega) (by simp) ?_; intro v4 w7 how hgrow hnil hat; obtain ⟨g4, c4, rfl, hg4, hgl4, hrow4⟩ := stage_row' how hnil (hat.imp (fun h => h) (fun h => by simpa using h)); have hm7 : Below w6.heap.size w6 w7 := below_stage' hgrow; have hb7 : BoxS w7 w.heap.size (.slice (some ⟨g1, 0, none⟩) n c1) T.most (.slice (some ⟨g2, 0, none⟩) nf c2) (.slice (some ⟨g3, 0, none⟩) n c3) := (hm7.block _ EB.out.lt).trans EB.out; have hc7 := hb7.c2; have hf7 := hb7.frozen 2)
    have hb8 := hb7.set2 (v := .slice (some ⟨g4, 0, none⟩) (nf + 1) c4)
    have m8 := Mod.setCell (S := fun k => k = w.heap.size) (p := ⟨w.heap.size, 2, none⟩) (Mod.refl _ w7) (.inr rfl) (.slice (some ⟨g4, 0, none⟩) (nf + 1) c4)
    have hl8 := HBLT.out
    have hl9 := S6.out
    have hll8 := LL.out
    have hE1l := owns_le E1.out
    have hE3l := owns_le E3.out
    have hl4 := owns_le hrow4
    have hm67 : Mod (fun k => k = w.heap.size) w6 (w7.setCell ⟨w.heap.size, 2, none⟩ (.slice (some ⟨g4, 0, none⟩) (nf + 1) c4)) := (Mod.of_same hm7).trans m8
    have y1 := ownsRow_mod E1.out hm67 (fun g e => by have e' : some g1 = some g := e; injection e' with e'; omega)
    have y3 := ownsRow_mod E3.out hm67 (fun g e => by have e' : some g3 = some g := e; injection e' with e'; omega)
    have y2 := ownsRow_mod hrow4 m8 (fun g e => by have e' : some g4 = some g := e; injection e' with e'; omega)
    have yr := ER1.out.mod hm67 (by omega)
    have yb := EBB.out.trans (hm67.below EBB.out.size (fun k hk e => by omega))
    have hg4' : w.heap.size + 1 + 1 < g4 := by omega
    generalize w7.setCell ⟨w.heap.size, 2, none⟩ (.slice (some ⟨g4, 0, none⟩) (nf + 1) c4) = w8 at *
    clear E1 E2 E3 ER1 ER2 EB EBB hm7 hb7 hc7 hf7 hm67 m8 how hgrow hnil hat hrow4 ow7 HN7 BL7 q2 d0 hl8 hl9 hll8 hE1l hE3l hl4 hg4 hgl4
    have E1 := Lib.hid y1
    have E2 := Lib.hid y2
    have E3 := Lib.hid y3
    have ER1 := Lib.hid yr
    have EB := Lib.hid hb8
    have EBB := Lib.hid yb
    have HG4 := Lib.hid hg4'
    clear y1 y2 y3 yr yb hb8 hg4'
    have r0 := ER1.out.c0
    have r1 := ER1.out.c1
    have r2 := ER1.out.c2
    have r3 := ER1.out.c3
    have f0 := ER1.out.frozen 0
    have f1 := ER1.out.frozen 1
    have f2 := ER1.out.frozen 2
    have f3 := ER1.out.frozen 3
    have q0 := EB.out.c0
    have q1 := EB.out.c1
    have q2 := EB.out.c2
    have q3 := EB.out.c3
    have HX := Lib.hid (ER1.out.set4 (al := .slice (some ⟨g1, 0, none⟩) n c1) (j := T.most) (af := .slice (some ⟨g4, 0, none⟩) (nf + 1) c4) (at_ := .slice (some ⟨g3, 0, none⟩) n c3))
    have HM := Lib.hid (mod4 w8 (w.heap.size + 1 + 1) (.slice (some ⟨g1, 0, none⟩) n c1) (.int .i64 T.most) (.slice (some ⟨g4, 0, none⟩) (nf + 1) c4) (.slice (some ⟨g3, 0, none⟩) n c3))
    go_wp2_with fail
    have ll := LL.out
    have hg4' := HG4.out
    have hw6 := HBLT.out
    have m := HM.out
    refine bodyPost_ret (v := .tuple #[.agg #[.slice (some ⟨g1, 0, none⟩) n c1, .int .i64 T.most, .slice (some ⟨g4, 0, none⟩) (nf + 1) c4, .slice (some ⟨g3, 0, none⟩) n c3], .int .i64 0]) (giveR_results HX.out rfl rfl) rfl ?_
    have a1 := ownsRow_mod E1.out m (fun g e => by have e' : some g1 = some g := e; injection e' with e'; omega)
    have a2 := ownsRow_mod E2.out m (fun g e => by have e' : some g4 = some g := e; injection e' with e'; omega)
    have a3 := ownsRow_mod E3.out m (fun g e => by have e' : some g3 = some g := e; injection e' with e'; omega)
    refine ⟨.slice (some ⟨g1, 0, none⟩) n c1, .slice (some ⟨g4, 0, none⟩) (nf + 1) c4, .slice (some ⟨g3, 0, none⟩) n c3, rfl, ⟨RowIs.of_owns a1 (fun g hg => hbase g (by omega)) fun j hj => by simp [hj, lifeV, HG.out.1], ?_, RowIs.of_owns a3 (fun g hg => hbase g (by omega)) fun j hj => ?_⟩, ?_, EBB.out.trans (m.below EBB.out.size (fun k hk e => by omega))⟩
    · have hfe : T'.free = i :: T.free := by rw [HG.out.2.2, if_pos (by omega)]
      rw [hfe, List.length_cons, HNF.out]
      refine RowIs.of_owns a2 (fun g hg => hbase g (by omega)) fun j hj => ?_
      rcases j with _ | j
      · simp [freeV, hfe]
      · simp only [List.cons_append, List.nil_append, List.getElem?_cons_succ]
        rw [List.getElem?_map, List.getElem?_range (by omega)]
        simp [freeV, hfe]
    · show _ = some (Value.bool (T'.taken.getD j false))
      rw [HG.out.2.1, List.getElem?_set, getD_set _ _ _ _ _ (by omega)]
      by_cases hij : i = j
      · subst hij; simp [hil]
      · rw [if_neg hij, if_neg (fun e => hij e.symm)]; simp [hj, takenV]
    · exact ⟨g4, 0, c4, by rw [HG.out.2.2, if_pos (by omega), List.length_cons, HNF.out]⟩
end Slot
end Go.Proofs.Ytpcbmckknafdgaa
